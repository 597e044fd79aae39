/- The functions compute what the texts of D say. Laid by a program (wip/gen/dec.py). -/
import Derived.Test.YtjmmlddioeehbaaGreatDoorPwAuto
import Derived.Test.YtjmmlddioeehbaaGreatDoorD
import Derived.Test.YtjmmlddioeehbaaGreatDoorWA
set_option linter.unusedVariables false
set_option linter.unusedSimpArgs false
namespace Go.Proofs.YtjmmlddioeehbaaGreatDoor
open Go.PW Go
theorem unified_place_spec (n : Nat) (a0 : Int) (a1 : Int) (r : Int) (h : unified_place n a0 a1 = some r) : PSpec Tryz.prog 57 [iP a0, iP a1] (iP r) := by
 unfold unified_place at h
 refine spec_of Tryz.c_unified_place (by simp) ?_
 unfold Tryz.l_unified_place
 refine au h [1,1,1,1,1,1,1,5] ?_; intro h
 refine bs h (fun c1 h => ?_) fun c1 h => ?_
 ·refine au h [2,1,1,1,7,1,1] ?_; intro x1 k2 h
  cases h
  exact ⟨_, rfl, .refl _⟩
 ·refine au h [3,1,1,1,1,1,1] ?_; intro h
  cases h
  exact ⟨_, rfl, .refl _⟩
theorem textpatch_Second_spec (n : Nat) (a0 : SHunks) (a1 : Int) (r : SCodeIndex) (h : textpatch_Second n a0 a1 = some r) : PSpec Tryz.prog 21 [.agg (SHunks.cells a0), iP a1] (.agg (SCodeIndex.cells r)) := by
 unfold textpatch_Second at h
 refine spec_of Tryz.c_textpatch_Second (by simp) ?_
 unfold Tryz.l_textpatch_Second
 refine au h [1,1,5,5,1,1,1,8] ?_; intro h
 refine cb h (textpatch_Validate_spec n _) fun r1 k1 h => ?_
 refine ax 16 h [5,8,1,1,8,5,5] ?_; intro h
 refine bs h (fun c2 h => ?_) fun c2 h => ?_
 ·refine au h [2,1,1,8,8,1,5,8,1] ?_; intro h
  cases h
  exact ⟨_, rfl, .refl _⟩
 ·refine au h [3,1,1,1,5,8,1] ?_; intro h
  cases h
  exact ⟨_, rfl, .refl _⟩
set_option maxHeartbeats 4000000 in
theorem unified_Parse_spec (n : Nat) (a0 : List UInt8) (r : (SHunks × SCodeIndex)) (h : unified_Parse n a0 = some r) : PSpec Tryz.prog 6 [.str a0] (.tup [.agg (SHunks.cells r.1), .agg (SCodeIndex.cells r.2)]) := by
 unfold unified_Parse at h
 refine spec_of Tryz.c_unified_Parse (by simp) ?_
 unfold Tryz.l_unified_Parse
 refine Ev.seq ?_
 refine W.reg hm ?_
 refine W.alloc (dt := true) rfl rfl rfl ?_
 refine W.alloc (dt := true) rfl rfl rfl ?_
 refine W.nil ?_
 refine Ev.seq (Ev.seq ?_)
 refine W.reg hm ?_
 refine W.mv rfl (W.slen rfl ?_)
 refine W.gtr rfl rfl (W.nil ?_)
 refine Ev.cond rfl (fun c1 => ?_) (fun c1 => ?_)
 ·replace h := iteT h c1
  refine Ev.seq ?_
  refine W.reg hm ?_
  refine W.build (cs := [.nils]) rfl rfl rfl ?_
  refine W.build (cs := [iP 2, iP 0]) rfl rfl rfl ?_
  refine W.store (es' := [[.nils]]) (dt := true) rfl rfl rfl rfl rfl (Nat.le_of_ble_eq_true rfl) rfl rfl rfl rfl ?_
  refine W.store (es' := [[iP 2, iP 0]]) (dt := true) rfl rfl rfl rfl rfl (Nat.le_of_ble_eq_true rfl) rfl rfl rfl rfl ?_
  refine W.nil ?_
  refine Ev.ret ?_
  injection h with h; subst h
  exact ⟨_, rfl, Le.tups (.cons (Le.aggs (.cons (.nils 3) (.nil)) rfl) (.cons (.refl _) (.nil)))⟩
 ·replace h := iteF h c1
  refine Ev.skip ?_
  refine Ev.seq ?_
  refine W.reg hm ?_
  refine W.alloc (dt := true) rfl rfl rfl ?_
  refine W.nil ?_
  refine Ev.seq ?_
  refine W.reg hm ?_
  refine W.mv rfl (W.nil ?_)
  refine Ev.seq (Ev.seq ?_)
  refine W.reg hm ?_
  refine W.mv rfl (W.mv rfl ?_)
  refine W.nil ?_
  refine Ev.block ?_
  refine Ev.loopW (β := Nat × (Option (Int × List (List UInt8) × List (List UInt8))) × (List SAtOldNew) × Int × Int × Int × Int × Int × Bool × Int × (List UInt8)) (fun v => match v.2.1 with | none => ⟨[(2, wP 10000), (3, wP 10001), (4, wP 10002), (5, iP v.2.2.2.2.2.2.2.2.2.1), (6, .str v.2.2.2.2.2.2.2.2.2.2)], [(10000, eP 30 1 [[.nils]]), (10001, eP 25 2 [[iP 0, iP 0]]), (10002, ⟨0, 65, 8, [[.own 10003 0, iP v.2.2.2.1, .bool false, iP v.2.2.2.2.1, iP v.2.2.2.2.2.1, iP v.2.2.2.2.2.2.1, iP v.2.2.2.2.2.2.2.1, .bool v.2.2.2.2.2.2.2.2.1]], false, false, false⟩), (10003, eP 45 3 (mP v.2.2.1))], 2⟩ | some (xa, xo, xn) => ⟨[(2, wP 10000), (3, wP 10001), (4, wP 10002), (5, iP v.2.2.2.2.2.2.2.2.2.1), (6, .str v.2.2.2.2.2.2.2.2.2.2)], [(10000, eP 30 1 [[.nils]]), (10001, eP 25 2 [[iP 0, iP 0]]), (10002, ⟨0, 65, 8, [[.own 10003 0, iP v.2.2.2.1, .bool true, iP v.2.2.2.2.1, iP v.2.2.2.2.2.1, iP v.2.2.2.2.2.2.1, iP v.2.2.2.2.2.2.2.1, .bool v.2.2.2.2.2.2.2.2.1]], false, false, false⟩), (10003, ⟨0, 45, 3, List.map SAtOldNew.cells v.2.2.1 ++ [[iP xa, .own 10090 0, .own 10091 0]], false, false, false⟩), (10090, eP 9 1 (mP xo)), (10091, eP 9 1 (mP xn))], 2⟩) (fun v => unified_Parse_l1 n v.1 v.2.1 v.2.2.1 v.2.2.2.1 v.2.2.2.2.1 v.2.2.2.2.2.1 v.2.2.2.2.2.2.1 v.2.2.2.2.2.2.2.1 v.2.2.2.2.2.2.2.2.1 v.2.2.2.2.2.2.2.2.2.1 v.2.2.2.2.2.2.2.2.2.2 = some r) (fun v => v.1) (n, none, ([] : List SAtOldNew), 0, 0, 0, 0, 0, false, 0, a0) ((Wk.ownNilCell 4 2 0 30003 45 3 rfl rfl rfl rfl rfl (by simp) true).trans (Wk.nrmTo [2, 3, 4, 5, 6] [(2, 10000), (3, 10001), (4, 10002), (30003, 10003)] rfl rfl)) h ?_
  intro ⟨m1, md, w1, b2, b3, b4, b5, b6, b7, x8, x9⟩ h
  try dsimp only at h ⊢
  cases m1 with
  | zero => rw [unified_Parse_l1] at h; cases h
  | succ m1 =>
   cases md with
   | none =>
    rw [unified_Parse_l1] at h
    dsimp only
    refine Ev.seq (Ev.seq ?_)
    refine W.reg hm ?_
    refine W.mv rfl (W.sneq rfl rfl ?_)
    refine W.nil ?_
    refine Ev.cond rfl (fun c2 => ?_) (fun c2 => ?_)
    ·replace h := iteT h c2
     refine Ev.skip ?_
     refine Ev.block ?_
     refine Ev.seq ?_
     refine W.reg hm ?_
     refine W.mv rfl ?_
     obtain ⟨r10, k3, h⟩ := obind h
     refine W.call (strings_Cut_spec n x9 ([10] : List UInt8) r10 k3) rfl rfl (Les.refl _) rfl (.inl rfl) rfl ?_
     refine W.mv rfl (W.extract rfl rfl ?_)
     refine W.extract rfl rfl (W.extract rfl rfl ?_)
     refine W.mv rfl (W.mv rfl ?_)
     refine W.mv rfl (W.nil ?_)
     refine Ev.seq (Ev.seq ?_)
     refine Ev.regS rfl ?_
     refine Sq.w 4 nb ?_
     refine W.mv rfl (W.not rfl ?_)
     refine W.mv rfl ?_
     refine W.split 28 rfl (fun c4 => ?_) (fun c4 => ?_)
     ·replace h := iteT h c4
      refine W.guardF2 rfl c4 ?_
      refine W.nil ?_
      refine Sq.off rfl (.inl (lookT rfl c4)) ?_
      refine Sq.wEnd nb ?_
      refine W.guardF2 rfl c4 ?_
      refine W.pickT rfl rfl rfl c4 ?_
      refine W.nil ?_
      refine Ev.condT rfl rfl ?_
      refine Ev.seq ?_
      refine W.reg hm ?_
      refine W.build (cs := [.nils]) rfl rfl rfl ?_
      refine W.mv rfl ?_
      refine W.build (cs := [iP 1, iP x8]) rfl rfl rfl ?_
      refine W.store (es' := [[.nils]]) (dt := true) rfl rfl rfl rfl rfl (Nat.le_of_ble_eq_true rfl) rfl rfl rfl rfl ?_
      refine W.store (es' := [[iP 1, iP x8]]) (dt := true) rfl rfl rfl rfl rfl (Nat.le_of_ble_eq_true rfl) rfl rfl rfl rfl ?_
      refine W.nil ?_
      refine Ev.ret ?_
      injection h with h; subst h
      exact ⟨_, rfl, Le.tups (.cons (Le.aggs (.cons (.nils 3) (.nil)) rfl) (.cons (.refl _) (.nil)))⟩
     ·replace h := iteF h c4
      refine W.guardT rfl c4 ?_
      refine W.mv rfl (W.nil ?_)
      refine Sq.callG rfl Tryz.c_unified_parser_line (lookT rfl c4) ⟨_, rfl, nb, ?_⟩
      unfold Tryz.l_unified_parser_line
      refine Ev.seq ?_
      refine W.reg hm ?_
      refine W.mv rfl (W.nil ?_)
      refine Ev.seq (Ev.seq ?_)
      refine W.regD hm ?_
      refine W.mv rfl (W.nilCheckO rfl rfl ?_)
      refine W.fieldAddrO rfl rfl ?_
      refine W.loadO (p := iP b3) rfl rfl rfl rfl ?_
      refine W.mv rfl (W.nilCheckO rfl rfl ?_)
      refine W.fieldAddrO rfl rfl ?_
      refine W.loadO (p := iP b4) rfl rfl rfl rfl ?_
      obtain ⟨x11, k5, h⟩ := obind h
      refine W.addG rfl rfl k5 ?_
      refine W.eql rfl rfl ?_
      refine W.nil ⟨rfl, ?_⟩
      refine Ev.cond rfl (fun c6 => ?_) (fun c6 => ?_)
      ·replace h := iteT h c6
       refine Ev.seq ?_
       refine Ev.regS rfl ?_
       refine Sq.w 2 nb ?_
       refine W.mv rfl (W.mv rfl ?_)
       refine W.nil ?_
       refine Sq.call rfl Tryz.c_unified_parser_header ⟨_, rfl, nb, ?_⟩
       unfold Tryz.l_unified_parser_header
       refine Ev.seq ?_
       refine W.reg hm ?_
       refine W.mv rfl (W.nil ?_)
       refine Ev.seq ?_
       refine W.reg hm ?_
       refine W.mv rfl ?_
       obtain ⟨r12, k7, h⟩ := obind h
       refine W.call (strings_CutPrefix_spec n r10.1 ([64, 64, 32, 45] : List UInt8) r12 k7) rfl rfl (Les.refl _) rfl (.inl rfl) rfl ?_
       refine W.mv rfl (W.extract rfl rfl ?_)
       refine W.extract rfl rfl (W.mv rfl ?_)
       refine W.mv rfl (W.nil ?_)
       refine Ev.seq (Ev.seq ?_)
       refine W.reg hm ?_
       refine W.mv rfl (W.not rfl ?_)
       refine W.nil ?_
       refine Ev.cond rfl (fun c8 => ?_) (fun c8 => ?_)
       ·replace h := iteT h c8
        refine Ev.seq ?_
        refine W.reg hm ?_
        refine W.mv rfl (W.nil ?_)
        refine Ev.ret ?_
        refine ⟨_, Wk.nA (S := ⟨[(4, .bool false), (65540, .bool false), (131074, wP 10000), (131075, wP 10001), (131076, wP 10002), (131077, iP x8), (131080, .str r10.2.1), (131100, .bool (!r10.2.2)), (131101, .str r10.1)], [(10000, eP 30 1 [[.nils]]), (10001, eP 25 2 [[iP 0, iP 0]]), (10002, ⟨0, 65, 8, [[.own 10003 0, iP b2, .bool false, iP b3, iP b4, iP b5, iP b6, .bool b7]], false, false, false⟩), (10003, eP 45 3 (mP w1))], 2⟩), ?_⟩
        refine ⟨_, rfl, ?_⟩
        refine Sq.wEnd nb ?_
        refine W.mv rfl (W.nil ?_)
        refine Ev.ret ?_
        refine ⟨_, Wk.nA (S := ⟨[(4, .bool false), (65538, wP 10000), (65539, wP 10001), (65540, wP 10002), (65541, iP x8), (65544, .str r10.2.1), (65564, .bool (!r10.2.2)), (65565, .str r10.1)], [(10000, eP 30 1 [[.nils]]), (10001, eP 25 2 [[iP 0, iP 0]]), (10002, ⟨0, 65, 8, [[.own 10003 0, iP b2, .bool false, iP b3, iP b4, iP b5, iP b6, .bool b7]], false, false, false⟩), (10003, eP 45 3 (mP w1))], 2⟩), ?_⟩
        refine ⟨_, rfl, ?_⟩
        refine Sq.wEnd nb ?_
        refine W.guardT rfl c4 ?_
        refine W.not rfl ?_
        refine W.pickN rfl rfl rfl c4 ?_
        refine W.nil ?_
        refine Ev.condT rfl rfl ?_
        refine Ev.seq ?_
        refine W.reg hm ?_
        refine W.build (cs := [.nils]) rfl rfl rfl ?_
        refine W.mv rfl ?_
        refine W.build (cs := [iP 1, iP x8]) rfl rfl rfl ?_
        refine W.store (es' := [[.nils]]) (dt := true) rfl rfl rfl rfl rfl (Nat.le_of_ble_eq_true rfl) rfl rfl rfl rfl ?_
        refine W.store (es' := [[iP 1, iP x8]]) (dt := true) rfl rfl rfl rfl rfl (Nat.le_of_ble_eq_true rfl) rfl rfl rfl rfl ?_
        refine W.nil ?_
        refine Ev.ret ?_
        injection h with h; subst h
        exact ⟨_, rfl, Le.tups (.cons (Le.aggs (.cons (.nils 3) (.nil)) rfl) (.cons (.refl _) (.nil)))⟩
       ·replace h := iteF h c8
        refine Ev.skip ?_
        refine Ev.seq ?_
        refine W.reg hm ?_
        refine W.alloc (dt := true) rfl rfl rfl ?_
        refine W.nil ?_
        refine Ev.seq (Ev.seq ?_)
        refine W.reg hm ?_
        refine W.build (cs := [.str ([44] : List UInt8), .str ([32, 43] : List UInt8), .str ([44] : List UInt8), .str ([32, 64, 64] : List UInt8)]) rfl rfl rfl ?_
        refine W.mv rfl (W.nil ?_)
        refine Ev.block ?_
        refine Ev.unroll 5 ?_
        refine EvR.go ?_
        refine Ev.seq ?_
        refine W.reg hm ?_
        refine W.lss rfl rfl (W.nil ?_)
        refine Ev.seq ?_
        refine Ev.condT rfl rfl ?_
        refine Ev.skip ?_
        refine Ev.seq ?_
        refine Ev.block ?_
        refine Ev.seq ?_
        refine W.reg hm ?_
        refine W.mv rfl ?_
        refine W.vidx rfl rfl (by decide) (by decide) rfl ?_
        refine W.mv rfl (W.mv rfl ?_)
        refine W.nil ?_
        refine Ev.seq ?_
        refine W.reg hm ?_
        refine W.mv rfl (W.mv rfl ?_)
        refine W.mv rfl ?_
        obtain ⟨r13, k9, h⟩ := obind h
        refine W.call (unified_number_spec n r12.1 ([44] : List UInt8) r13 k9) rfl rfl (Les.refl _) rfl (.inl rfl) rfl ?_
        refine W.mv rfl (W.extract rfl rfl ?_)
        refine W.extract rfl rfl (W.extract rfl rfl ?_)
        refine W.idxAO (n := 0) rfl rfl rfl (by decide) rfl (by decide) ?_
        refine W.store (es' := [[iP r13.1, iP 0, iP 0, iP 0]]) (dt := true) rfl rfl rfl rfl rfl (Nat.le_of_ble_eq_true rfl) rfl rfl rfl rfl ?_
        refine W.mv rfl (W.mv rfl ?_)
        refine W.nil ?_
        refine Ev.seq ?_
        refine W.reg hm ?_
        refine W.mv rfl (W.not rfl ?_)
        refine W.nil ?_
        refine Ev.cond rfl (fun c10 => ?_) (fun c10 => ?_)
        ·replace h := iteT h c10
         refine Ev.seq ?_
         refine W.reg hm ?_
         refine W.mv rfl (W.nil ?_)
         refine Ev.ret ?_
         refine ⟨_, Wk.nA (S := ⟨[(4, .bool false), (65540, .bool false), (131074, wP 10000), (131075, wP 10001), (131076, wP 10002), (131077, iP x8), (131080, .str r10.2.1), (131100, .bool (!r10.2.2)), (131101, .str r10.1)], [(10000, eP 30 1 [[.nils]]), (10001, eP 25 2 [[iP 0, iP 0]]), (10002, ⟨0, 65, 8, [[.own 10003 0, iP b2, .bool false, iP b3, iP b4, iP b5, iP b6, .bool b7]], false, false, false⟩), (10003, eP 45 3 (mP w1))], 2⟩), ?_⟩
         refine ⟨_, rfl, ?_⟩
         refine Sq.wEnd nb ?_
         refine W.mv rfl (W.nil ?_)
         refine Ev.ret ?_
         refine ⟨_, Wk.nA (S := ⟨[(4, .bool false), (65538, wP 10000), (65539, wP 10001), (65540, wP 10002), (65541, iP x8), (65544, .str r10.2.1), (65564, .bool (!r10.2.2)), (65565, .str r10.1)], [(10000, eP 30 1 [[.nils]]), (10001, eP 25 2 [[iP 0, iP 0]]), (10002, ⟨0, 65, 8, [[.own 10003 0, iP b2, .bool false, iP b3, iP b4, iP b5, iP b6, .bool b7]], false, false, false⟩), (10003, eP 45 3 (mP w1))], 2⟩), ?_⟩
         refine ⟨_, rfl, ?_⟩
         refine Sq.wEnd nb ?_
         refine W.guardT rfl c4 ?_
         refine W.not rfl ?_
         refine W.pickN rfl rfl rfl c4 ?_
         refine W.nil ?_
         refine Ev.condT rfl rfl ?_
         refine Ev.seq ?_
         refine W.reg hm ?_
         refine W.build (cs := [.nils]) rfl rfl rfl ?_
         refine W.mv rfl ?_
         refine W.build (cs := [iP 1, iP x8]) rfl rfl rfl ?_
         refine W.store (es' := [[.nils]]) (dt := true) rfl rfl rfl rfl rfl (Nat.le_of_ble_eq_true rfl) rfl rfl rfl rfl ?_
         refine W.store (es' := [[iP 1, iP x8]]) (dt := true) rfl rfl rfl rfl rfl (Nat.le_of_ble_eq_true rfl) rfl rfl rfl rfl ?_
         refine W.nil ?_
         refine Ev.ret ?_
         injection h with h; subst h
         exact ⟨_, rfl, Le.tups (.cons (Le.aggs (.cons (.nils 3) (.nil)) rfl) (.cons (.refl _) (.nil)))⟩
        ·replace h := iteF h c10
         refine Ev.skip ?_
         refine W.reg hm ?_
         refine W.addG rfl rfl (show gadd 0 1 = some 1 from rfl) ?_
         refine W.mv rfl (W.nil ?_)
         refine EvR.go ?_
         refine Ev.seq ?_
         refine W.reg hm ?_
         refine W.lss rfl rfl (W.nil ?_)
         refine Ev.seq ?_
         refine Ev.condT rfl rfl ?_
         refine Ev.skip ?_
         refine Ev.seq ?_
         refine Ev.block ?_
         refine Ev.seq ?_
         refine W.reg hm ?_
         refine W.mv rfl ?_
         refine W.vidx rfl rfl (by decide) (by decide) rfl ?_
         refine W.mv rfl (W.mv rfl ?_)
         refine W.nil ?_
         refine Ev.seq ?_
         refine W.reg hm ?_
         refine W.mv rfl (W.mv rfl ?_)
         refine W.mv rfl ?_
         obtain ⟨r14, k11, h⟩ := obind h
         refine W.call (unified_number_spec n r13.2.1 ([32, 43] : List UInt8) r14 k11) rfl rfl (Les.refl _) rfl (.inl rfl) rfl ?_
         refine W.mv rfl (W.extract rfl rfl ?_)
         refine W.extract rfl rfl (W.extract rfl rfl ?_)
         refine W.idxAO (n := 1) rfl rfl rfl (by decide) rfl (by decide) ?_
         refine W.store (es' := [[iP r13.1, iP r14.1, iP 0, iP 0]]) (dt := true) rfl rfl rfl rfl rfl (Nat.le_of_ble_eq_true rfl) rfl rfl rfl rfl ?_
         refine W.mv rfl (W.mv rfl ?_)
         refine W.nil ?_
         refine Ev.seq ?_
         refine W.reg hm ?_
         refine W.mv rfl (W.not rfl ?_)
         refine W.nil ?_
         refine Ev.cond rfl (fun c12 => ?_) (fun c12 => ?_)
         ·replace h := iteT h c12
          refine Ev.seq ?_
          refine W.reg hm ?_
          refine W.mv rfl (W.nil ?_)
          refine Ev.ret ?_
          refine ⟨_, Wk.nA (S := ⟨[(4, .bool false), (65540, .bool false), (131074, wP 10000), (131075, wP 10001), (131076, wP 10002), (131077, iP x8), (131080, .str r10.2.1), (131100, .bool (!r10.2.2)), (131101, .str r10.1)], [(10000, eP 30 1 [[.nils]]), (10001, eP 25 2 [[iP 0, iP 0]]), (10002, ⟨0, 65, 8, [[.own 10003 0, iP b2, .bool false, iP b3, iP b4, iP b5, iP b6, .bool b7]], false, false, false⟩), (10003, eP 45 3 (mP w1))], 2⟩), ?_⟩
          refine ⟨_, rfl, ?_⟩
          refine Sq.wEnd nb ?_
          refine W.mv rfl (W.nil ?_)
          refine Ev.ret ?_
          refine ⟨_, Wk.nA (S := ⟨[(4, .bool false), (65538, wP 10000), (65539, wP 10001), (65540, wP 10002), (65541, iP x8), (65544, .str r10.2.1), (65564, .bool (!r10.2.2)), (65565, .str r10.1)], [(10000, eP 30 1 [[.nils]]), (10001, eP 25 2 [[iP 0, iP 0]]), (10002, ⟨0, 65, 8, [[.own 10003 0, iP b2, .bool false, iP b3, iP b4, iP b5, iP b6, .bool b7]], false, false, false⟩), (10003, eP 45 3 (mP w1))], 2⟩), ?_⟩
          refine ⟨_, rfl, ?_⟩
          refine Sq.wEnd nb ?_
          refine W.guardT rfl c4 ?_
          refine W.not rfl ?_
          refine W.pickN rfl rfl rfl c4 ?_
          refine W.nil ?_
          refine Ev.condT rfl rfl ?_
          refine Ev.seq ?_
          refine W.reg hm ?_
          refine W.build (cs := [.nils]) rfl rfl rfl ?_
          refine W.mv rfl ?_
          refine W.build (cs := [iP 1, iP x8]) rfl rfl rfl ?_
          refine W.store (es' := [[.nils]]) (dt := true) rfl rfl rfl rfl rfl (Nat.le_of_ble_eq_true rfl) rfl rfl rfl rfl ?_
          refine W.store (es' := [[iP 1, iP x8]]) (dt := true) rfl rfl rfl rfl rfl (Nat.le_of_ble_eq_true rfl) rfl rfl rfl rfl ?_
          refine W.nil ?_
          refine Ev.ret ?_
          injection h with h; subst h
          exact ⟨_, rfl, Le.tups (.cons (Le.aggs (.cons (.nils 3) (.nil)) rfl) (.cons (.refl _) (.nil)))⟩
         ·replace h := iteF h c12
          refine Ev.skip ?_
          refine W.reg hm ?_
          refine W.addG rfl rfl (show gadd 1 1 = some 2 from rfl) ?_
          refine W.mv rfl (W.nil ?_)
          refine EvR.go ?_
          refine Ev.seq ?_
          refine W.reg hm ?_
          refine W.lss rfl rfl (W.nil ?_)
          refine Ev.seq ?_
          refine Ev.condT rfl rfl ?_
          refine Ev.skip ?_
          refine Ev.seq ?_
          refine Ev.block ?_
          refine Ev.seq ?_
          refine W.reg hm ?_
          refine W.mv rfl ?_
          refine W.vidx rfl rfl (by decide) (by decide) rfl ?_
          refine W.mv rfl (W.mv rfl ?_)
          refine W.nil ?_
          refine Ev.seq ?_
          refine W.reg hm ?_
          refine W.mv rfl (W.mv rfl ?_)
          refine W.mv rfl ?_
          obtain ⟨r15, k13, h⟩ := obind h
          refine W.call (unified_number_spec n r14.2.1 ([44] : List UInt8) r15 k13) rfl rfl (Les.refl _) rfl (.inl rfl) rfl ?_
          refine W.mv rfl (W.extract rfl rfl ?_)
          refine W.extract rfl rfl (W.extract rfl rfl ?_)
          refine W.idxAO (n := 2) rfl rfl rfl (by decide) rfl (by decide) ?_
          refine W.store (es' := [[iP r13.1, iP r14.1, iP r15.1, iP 0]]) (dt := true) rfl rfl rfl rfl rfl (Nat.le_of_ble_eq_true rfl) rfl rfl rfl rfl ?_
          refine W.mv rfl (W.mv rfl ?_)
          refine W.nil ?_
          refine Ev.seq ?_
          refine W.reg hm ?_
          refine W.mv rfl (W.not rfl ?_)
          refine W.nil ?_
          refine Ev.cond rfl (fun c14 => ?_) (fun c14 => ?_)
          ·replace h := iteT h c14
           refine Ev.seq ?_
           refine W.reg hm ?_
           refine W.mv rfl (W.nil ?_)
           refine Ev.ret ?_
           refine ⟨_, Wk.nA (S := ⟨[(4, .bool false), (65540, .bool false), (131074, wP 10000), (131075, wP 10001), (131076, wP 10002), (131077, iP x8), (131080, .str r10.2.1), (131100, .bool (!r10.2.2)), (131101, .str r10.1)], [(10000, eP 30 1 [[.nils]]), (10001, eP 25 2 [[iP 0, iP 0]]), (10002, ⟨0, 65, 8, [[.own 10003 0, iP b2, .bool false, iP b3, iP b4, iP b5, iP b6, .bool b7]], false, false, false⟩), (10003, eP 45 3 (mP w1))], 2⟩), ?_⟩
           refine ⟨_, rfl, ?_⟩
           refine Sq.wEnd nb ?_
           refine W.mv rfl (W.nil ?_)
           refine Ev.ret ?_
           refine ⟨_, Wk.nA (S := ⟨[(4, .bool false), (65538, wP 10000), (65539, wP 10001), (65540, wP 10002), (65541, iP x8), (65544, .str r10.2.1), (65564, .bool (!r10.2.2)), (65565, .str r10.1)], [(10000, eP 30 1 [[.nils]]), (10001, eP 25 2 [[iP 0, iP 0]]), (10002, ⟨0, 65, 8, [[.own 10003 0, iP b2, .bool false, iP b3, iP b4, iP b5, iP b6, .bool b7]], false, false, false⟩), (10003, eP 45 3 (mP w1))], 2⟩), ?_⟩
           refine ⟨_, rfl, ?_⟩
           refine Sq.wEnd nb ?_
           refine W.guardT rfl c4 ?_
           refine W.not rfl ?_
           refine W.pickN rfl rfl rfl c4 ?_
           refine W.nil ?_
           refine Ev.condT rfl rfl ?_
           refine Ev.seq ?_
           refine W.reg hm ?_
           refine W.build (cs := [.nils]) rfl rfl rfl ?_
           refine W.mv rfl ?_
           refine W.build (cs := [iP 1, iP x8]) rfl rfl rfl ?_
           refine W.store (es' := [[.nils]]) (dt := true) rfl rfl rfl rfl rfl (Nat.le_of_ble_eq_true rfl) rfl rfl rfl rfl ?_
           refine W.store (es' := [[iP 1, iP x8]]) (dt := true) rfl rfl rfl rfl rfl (Nat.le_of_ble_eq_true rfl) rfl rfl rfl rfl ?_
           refine W.nil ?_
           refine Ev.ret ?_
           injection h with h; subst h
           exact ⟨_, rfl, Le.tups (.cons (Le.aggs (.cons (.nils 3) (.nil)) rfl) (.cons (.refl _) (.nil)))⟩
          ·replace h := iteF h c14
           refine Ev.skip ?_
           refine W.reg hm ?_
           refine W.addG rfl rfl (show gadd 2 1 = some 3 from rfl) ?_
           refine W.mv rfl (W.nil ?_)
           refine EvR.go ?_
           refine Ev.seq ?_
           refine W.reg hm ?_
           refine W.lss rfl rfl (W.nil ?_)
           refine Ev.seq ?_
           refine Ev.condT rfl rfl ?_
           refine Ev.skip ?_
           refine Ev.seq ?_
           refine Ev.block ?_
           refine Ev.seq ?_
           refine W.reg hm ?_
           refine W.mv rfl ?_
           refine W.vidx rfl rfl (by decide) (by decide) rfl ?_
           refine W.mv rfl (W.mv rfl ?_)
           refine W.nil ?_
           refine Ev.seq ?_
           refine W.reg hm ?_
           refine W.mv rfl (W.mv rfl ?_)
           refine W.mv rfl ?_
           obtain ⟨r16, k15, h⟩ := obind h
           refine W.call (unified_number_spec n r15.2.1 ([32, 64, 64] : List UInt8) r16 k15) rfl rfl (Les.refl _) rfl (.inl rfl) rfl ?_
           refine W.mv rfl (W.extract rfl rfl ?_)
           refine W.extract rfl rfl (W.extract rfl rfl ?_)
           refine W.idxAO (n := 3) rfl rfl rfl (by decide) rfl (by decide) ?_
           refine W.store (es' := [[iP r13.1, iP r14.1, iP r15.1, iP r16.1]]) (dt := true) rfl rfl rfl rfl rfl (Nat.le_of_ble_eq_true rfl) rfl rfl rfl rfl ?_
           refine W.mv rfl (W.mv rfl ?_)
           refine W.nil ?_
           refine Ev.seq ?_
           refine W.reg hm ?_
           refine W.mv rfl (W.not rfl ?_)
           refine W.nil ?_
           refine Ev.cond rfl (fun c16 => ?_) (fun c16 => ?_)
           ·replace h := iteT h c16
            refine Ev.seq ?_
            refine W.reg hm ?_
            refine W.mv rfl (W.nil ?_)
            refine Ev.ret ?_
            refine ⟨_, Wk.nA (S := ⟨[(4, .bool false), (65540, .bool false), (131074, wP 10000), (131075, wP 10001), (131076, wP 10002), (131077, iP x8), (131080, .str r10.2.1), (131100, .bool (!r10.2.2)), (131101, .str r10.1)], [(10000, eP 30 1 [[.nils]]), (10001, eP 25 2 [[iP 0, iP 0]]), (10002, ⟨0, 65, 8, [[.own 10003 0, iP b2, .bool false, iP b3, iP b4, iP b5, iP b6, .bool b7]], false, false, false⟩), (10003, eP 45 3 (mP w1))], 2⟩), ?_⟩
            refine ⟨_, rfl, ?_⟩
            refine Sq.wEnd nb ?_
            refine W.mv rfl (W.nil ?_)
            refine Ev.ret ?_
            refine ⟨_, Wk.nA (S := ⟨[(4, .bool false), (65538, wP 10000), (65539, wP 10001), (65540, wP 10002), (65541, iP x8), (65544, .str r10.2.1), (65564, .bool (!r10.2.2)), (65565, .str r10.1)], [(10000, eP 30 1 [[.nils]]), (10001, eP 25 2 [[iP 0, iP 0]]), (10002, ⟨0, 65, 8, [[.own 10003 0, iP b2, .bool false, iP b3, iP b4, iP b5, iP b6, .bool b7]], false, false, false⟩), (10003, eP 45 3 (mP w1))], 2⟩), ?_⟩
            refine ⟨_, rfl, ?_⟩
            refine Sq.wEnd nb ?_
            refine W.guardT rfl c4 ?_
            refine W.not rfl ?_
            refine W.pickN rfl rfl rfl c4 ?_
            refine W.nil ?_
            refine Ev.condT rfl rfl ?_
            refine Ev.seq ?_
            refine W.reg hm ?_
            refine W.build (cs := [.nils]) rfl rfl rfl ?_
            refine W.mv rfl ?_
            refine W.build (cs := [iP 1, iP x8]) rfl rfl rfl ?_
            refine W.store (es' := [[.nils]]) (dt := true) rfl rfl rfl rfl rfl (Nat.le_of_ble_eq_true rfl) rfl rfl rfl rfl ?_
            refine W.store (es' := [[iP 1, iP x8]]) (dt := true) rfl rfl rfl rfl rfl (Nat.le_of_ble_eq_true rfl) rfl rfl rfl rfl ?_
            refine W.nil ?_
            refine Ev.ret ?_
            injection h with h; subst h
            exact ⟨_, rfl, Le.tups (.cons (Le.aggs (.cons (.nils 3) (.nil)) rfl) (.cons (.refl _) (.nil)))⟩
           ·replace h := iteF h c16
            refine Ev.skip ?_
            refine W.reg hm ?_
            refine W.addG rfl rfl (show gadd 3 1 = some 4 from rfl) ?_
            refine W.mv rfl (W.nil ?_)
            refine EvR.go ?_
            refine Ev.seq ?_
            refine W.reg hm ?_
            refine W.lss rfl rfl (W.nil ?_)
            refine Ev.seq ?_
            refine Ev.condF rfl rfl ?_
            refine Ev.exit ?_
            refine Ev.seq ?_
            refine W.regD hm ?_
            refine W.idxAO (n := 0) rfl rfl rfl (by decide) rfl (by decide) ?_
            refine W.loadO (p := iP r13.1) rfl rfl rfl rfl ?_
            refine W.idxAO (n := 1) rfl rfl rfl (by decide) rfl (by decide) ?_
            refine W.loadO (p := iP r14.1) rfl rfl rfl rfl ?_
            obtain ⟨r17, k17, h⟩ := obind h
            refine W.call (unified_place_spec n r13.1 r14.1 r17 k17) rfl rfl (Les.refl _) rfl (.inl rfl) rfl ?_
            refine W.idxAO (n := 2) rfl rfl rfl (by decide) rfl (by decide) ?_
            refine W.loadO (p := iP r15.1) rfl rfl rfl rfl ?_
            refine W.idxAO (n := 3) rfl rfl rfl (by decide) rfl (by decide) ?_
            refine W.loadO (p := iP r16.1) rfl rfl rfl rfl ?_
            obtain ⟨r18, k18, h⟩ := obind h
            refine W.call (unified_place_spec n r15.1 r16.1 r18 k18) rfl rfl (Les.refl _) rfl (.inl rfl) rfl ?_
            refine W.mv rfl (W.mv rfl ?_)
            refine W.nil ⟨rfl, ?_⟩
            refine Ev.seq (Ev.seq ?_)
            refine W.reg hm ?_
            refine W.mv rfl (W.sneq rfl rfl ?_)
            refine W.mv rfl ?_
            refine W.split 48 rfl (fun c19 => ?_) (fun c19 => ?_)
            ·replace h := iteT h c19
             refine W.guardF2 rfl c19 ?_
             refine W.guardF2 rfl c19 ?_
             refine W.guardF2 rfl c19 ?_
             refine W.guardF2 rfl c19 ?_
             refine W.guardF2 rfl c19 ?_
             refine W.guardF2 rfl c19 ?_
             refine W.pickT rfl rfl rfl c19 ?_
             refine W.mv rfl (W.guardF2 rfl rfl ?_)
             refine W.guardF2 rfl rfl (W.guardF2 rfl rfl ?_)
             refine W.guardF2 rfl rfl (W.guardF2 rfl rfl ?_)
             refine W.guardF2 rfl rfl (W.pickT rfl rfl rfl rfl ?_)
             refine W.mv rfl (W.guardF2 rfl rfl ?_)
             refine W.guardF2 rfl rfl (W.guardF2 rfl rfl ?_)
             refine W.guardF2 rfl rfl (W.guardF2 rfl rfl ?_)
             refine W.guardF2 rfl rfl (W.guardF2 rfl rfl ?_)
             refine W.guardF2 rfl rfl (W.pickT rfl rfl rfl rfl ?_)
             refine W.nil ?_
             refine Ev.condT rfl rfl ?_
             refine Ev.seq ?_
             refine W.reg hm ?_
             refine W.mv rfl (W.nil ?_)
             refine Ev.ret ?_
             refine ⟨_, Wk.nA (S := ⟨[(4, .bool false), (65540, .bool false), (131074, wP 10000), (131075, wP 10001), (131076, wP 10002), (131077, iP x8), (131080, .str r10.2.1), (131100, .bool (!r10.2.2)), (131101, .str r10.1)], [(10000, eP 30 1 [[.nils]]), (10001, eP 25 2 [[iP 0, iP 0]]), (10002, ⟨0, 65, 8, [[.own 10003 0, iP b2, .bool false, iP b3, iP b4, iP b5, iP b6, .bool b7]], false, false, false⟩), (10003, eP 45 3 (mP w1))], 2⟩), ?_⟩
             refine ⟨_, rfl, ?_⟩
             refine Sq.wEnd nb ?_
             refine W.mv rfl (W.nil ?_)
             refine Ev.ret ?_
             refine ⟨_, Wk.nA (S := ⟨[(4, .bool false), (65538, wP 10000), (65539, wP 10001), (65540, wP 10002), (65541, iP x8), (65544, .str r10.2.1), (65564, .bool (!r10.2.2)), (65565, .str r10.1)], [(10000, eP 30 1 [[.nils]]), (10001, eP 25 2 [[iP 0, iP 0]]), (10002, ⟨0, 65, 8, [[.own 10003 0, iP b2, .bool false, iP b3, iP b4, iP b5, iP b6, .bool b7]], false, false, false⟩), (10003, eP 45 3 (mP w1))], 2⟩), ?_⟩
             refine ⟨_, rfl, ?_⟩
             refine Sq.wEnd nb ?_
             refine W.guardT rfl c4 ?_
             refine W.not rfl ?_
             refine W.pickN rfl rfl rfl c4 ?_
             refine W.nil ?_
             refine Ev.condT rfl rfl ?_
             refine Ev.seq ?_
             refine W.reg hm ?_
             refine W.build (cs := [.nils]) rfl rfl rfl ?_
             refine W.mv rfl ?_
             refine W.build (cs := [iP 1, iP x8]) rfl rfl rfl ?_
             refine W.store (es' := [[.nils]]) (dt := true) rfl rfl rfl rfl rfl (Nat.le_of_ble_eq_true rfl) rfl rfl rfl rfl ?_
             refine W.store (es' := [[iP 1, iP x8]]) (dt := true) rfl rfl rfl rfl rfl (Nat.le_of_ble_eq_true rfl) rfl rfl rfl rfl ?_
             refine W.nil ?_
             refine Ev.ret ?_
             injection h with h; subst h
             exact ⟨_, rfl, Le.tups (.cons (Le.aggs (.cons (.nils 3) (.nil)) rfl) (.cons (.refl _) (.nil)))⟩
            ·replace h := iteF h c19
             refine W.guardT rfl c19 ?_
             refine W.idxAO (n := 1) rfl rfl rfl (by decide) rfl (by decide) ?_
             refine W.guardT rfl c19 ?_
             refine W.loadO (p := iP r14.1) rfl rfl rfl rfl ?_
             refine W.guardT rfl c19 ?_
             refine W.idxAO (n := 3) rfl rfl rfl (by decide) rfl (by decide) ?_
             refine W.guardT rfl c19 ?_
             refine W.loadO (p := iP r16.1) rfl rfl rfl rfl ?_
             refine W.guardT rfl c19 ?_
             obtain ⟨x19, k20, h⟩ := obind h
             refine W.addG rfl rfl k20 ?_
             refine W.guardT rfl c19 ?_
             refine W.eql rfl rfl ?_
             refine W.pickN rfl rfl rfl c19 ?_
             refine W.mv rfl ?_
             refine W.split 56 rfl (fun c21 => ?_) (fun c21 => ?_)
             ·replace h := iteT h c21
              refine W.guardF2 rfl c21 ?_
              refine W.guardF2 rfl c21 ?_
              refine W.guardF2 rfl c21 ?_
              refine W.guardF2 rfl c21 ?_
              refine W.guardF2 rfl c21 ?_
              refine W.guardF2 rfl c21 ?_
              refine W.pickT rfl rfl rfl c21 ?_
              refine W.mv rfl (W.guardF2 rfl rfl ?_)
              refine W.guardF2 rfl rfl (W.guardF2 rfl rfl ?_)
              refine W.guardF2 rfl rfl (W.guardF2 rfl rfl ?_)
              refine W.guardF2 rfl rfl (W.guardF2 rfl rfl ?_)
              refine W.guardF2 rfl rfl (W.pickT rfl rfl rfl rfl ?_)
              refine W.nil ?_
              refine Ev.condT rfl rfl ?_
              refine Ev.seq ?_
              refine W.reg hm ?_
              refine W.mv rfl (W.nil ?_)
              refine Ev.ret ?_
              refine ⟨_, Wk.nA (S := ⟨[(4, .bool false), (65540, .bool false), (131074, wP 10000), (131075, wP 10001), (131076, wP 10002), (131077, iP x8), (131080, .str r10.2.1), (131100, .bool (!r10.2.2)), (131101, .str r10.1)], [(10000, eP 30 1 [[.nils]]), (10001, eP 25 2 [[iP 0, iP 0]]), (10002, ⟨0, 65, 8, [[.own 10003 0, iP b2, .bool false, iP b3, iP b4, iP b5, iP b6, .bool b7]], false, false, false⟩), (10003, eP 45 3 (mP w1))], 2⟩), ?_⟩
              refine ⟨_, rfl, ?_⟩
              refine Sq.wEnd nb ?_
              refine W.mv rfl (W.nil ?_)
              refine Ev.ret ?_
              refine ⟨_, Wk.nA (S := ⟨[(4, .bool false), (65538, wP 10000), (65539, wP 10001), (65540, wP 10002), (65541, iP x8), (65544, .str r10.2.1), (65564, .bool (!r10.2.2)), (65565, .str r10.1)], [(10000, eP 30 1 [[.nils]]), (10001, eP 25 2 [[iP 0, iP 0]]), (10002, ⟨0, 65, 8, [[.own 10003 0, iP b2, .bool false, iP b3, iP b4, iP b5, iP b6, .bool b7]], false, false, false⟩), (10003, eP 45 3 (mP w1))], 2⟩), ?_⟩
              refine ⟨_, rfl, ?_⟩
              refine Sq.wEnd nb ?_
              refine W.guardT rfl c4 ?_
              refine W.not rfl ?_
              refine W.pickN rfl rfl rfl c4 ?_
              refine W.nil ?_
              refine Ev.condT rfl rfl ?_
              refine Ev.seq ?_
              refine W.reg hm ?_
              refine W.build (cs := [.nils]) rfl rfl rfl ?_
              refine W.mv rfl ?_
              refine W.build (cs := [iP 1, iP x8]) rfl rfl rfl ?_
              refine W.store (es' := [[.nils]]) (dt := true) rfl rfl rfl rfl rfl (Nat.le_of_ble_eq_true rfl) rfl rfl rfl rfl ?_
              refine W.store (es' := [[iP 1, iP x8]]) (dt := true) rfl rfl rfl rfl rfl (Nat.le_of_ble_eq_true rfl) rfl rfl rfl rfl ?_
              refine W.nil ?_
              refine Ev.ret ?_
              injection h with h; subst h
              exact ⟨_, rfl, Le.tups (.cons (Le.aggs (.cons (.nils 3) (.nil)) rfl) (.cons (.refl _) (.nil)))⟩
             ·replace h := iteF h c21
              refine W.guardT rfl c21 ?_
              refine W.mv rfl ?_
              refine W.guardT rfl c21 ?_
              refine W.mv rfl ?_
              refine W.guardT rfl c21 ?_
              refine W.nilCheckO rfl rfl ?_
              refine W.guardT rfl c21 ?_
              refine W.fieldAddrO rfl rfl ?_
              refine W.guardT rfl c21 ?_
              refine W.loadO (p := iP b5) rfl rfl rfl rfl ?_
              refine W.guardT rfl c21 ?_
              refine W.lss rfl rfl ?_
              refine W.pickN rfl rfl rfl c21 ?_
              refine W.mv rfl ?_
              refine W.split 64 rfl (fun c22 => ?_) (fun c22 => ?_)
              ·replace h := iteT h c22
               refine W.guardF2 rfl c22 ?_
               refine W.guardF2 rfl c22 ?_
               refine W.guardF2 rfl c22 ?_
               refine W.guardF2 rfl c22 ?_
               refine W.guardF2 rfl c22 ?_
               refine W.guardF2 rfl c22 ?_
               refine W.guardF2 rfl c22 ?_
               refine W.guardF2 rfl c22 ?_
               refine W.pickT rfl rfl rfl c22 ?_
               refine W.nil ?_
               refine Ev.condT rfl rfl ?_
               refine Ev.seq ?_
               refine W.reg hm ?_
               refine W.mv rfl (W.nil ?_)
               refine Ev.ret ?_
               refine ⟨_, Wk.nA (S := ⟨[(4, .bool false), (65540, .bool false), (131074, wP 10000), (131075, wP 10001), (131076, wP 10002), (131077, iP x8), (131080, .str r10.2.1), (131100, .bool (!r10.2.2)), (131101, .str r10.1)], [(10000, eP 30 1 [[.nils]]), (10001, eP 25 2 [[iP 0, iP 0]]), (10002, ⟨0, 65, 8, [[.own 10003 0, iP b2, .bool false, iP b3, iP b4, iP b5, iP b6, .bool b7]], false, false, false⟩), (10003, eP 45 3 (mP w1))], 2⟩), ?_⟩
               refine ⟨_, rfl, ?_⟩
               refine Sq.wEnd nb ?_
               refine W.mv rfl (W.nil ?_)
               refine Ev.ret ?_
               refine ⟨_, Wk.nA (S := ⟨[(4, .bool false), (65538, wP 10000), (65539, wP 10001), (65540, wP 10002), (65541, iP x8), (65544, .str r10.2.1), (65564, .bool (!r10.2.2)), (65565, .str r10.1)], [(10000, eP 30 1 [[.nils]]), (10001, eP 25 2 [[iP 0, iP 0]]), (10002, ⟨0, 65, 8, [[.own 10003 0, iP b2, .bool false, iP b3, iP b4, iP b5, iP b6, .bool b7]], false, false, false⟩), (10003, eP 45 3 (mP w1))], 2⟩), ?_⟩
               refine ⟨_, rfl, ?_⟩
               refine Sq.wEnd nb ?_
               refine W.guardT rfl c4 ?_
               refine W.not rfl ?_
               refine W.pickN rfl rfl rfl c4 ?_
               refine W.nil ?_
               refine Ev.condT rfl rfl ?_
               refine Ev.seq ?_
               refine W.reg hm ?_
               refine W.build (cs := [.nils]) rfl rfl rfl ?_
               refine W.mv rfl ?_
               refine W.build (cs := [iP 1, iP x8]) rfl rfl rfl ?_
               refine W.store (es' := [[.nils]]) (dt := true) rfl rfl rfl rfl rfl (Nat.le_of_ble_eq_true rfl) rfl rfl rfl rfl ?_
               refine W.store (es' := [[iP 1, iP x8]]) (dt := true) rfl rfl rfl rfl rfl (Nat.le_of_ble_eq_true rfl) rfl rfl rfl rfl ?_
               refine W.nil ?_
               refine Ev.ret ?_
               injection h with h; subst h
               exact ⟨_, rfl, Le.tups (.cons (Le.aggs (.cons (.nils 3) (.nil)) rfl) (.cons (.refl _) (.nil)))⟩
              ·replace h := iteF h c22
               refine W.guardT rfl c22 ?_
               refine W.mv rfl ?_
               refine W.guardT rfl c22 ?_
               refine W.mv rfl ?_
               refine W.guardT rfl c22 ?_
               obtain ⟨x20, k23, h⟩ := obind h
               refine W.subG rfl rfl k23 ?_
               refine W.guardT rfl c22 ?_
               refine W.mv rfl ?_
               refine W.guardT rfl c22 ?_
               refine W.nilCheckO rfl rfl ?_
               refine W.guardT rfl c22 ?_
               refine W.fieldAddrO rfl rfl ?_
               refine W.guardT rfl c22 ?_
               refine W.loadO (p := iP b6) rfl rfl rfl rfl ?_
               refine W.guardT rfl c22 ?_
               refine W.neq rfl rfl ?_
               refine W.pickN rfl rfl rfl c22 ?_
               refine W.nil ?_
               refine Ev.cond rfl (fun c24 => ?_) (fun c24 => ?_)
               ·replace h := iteT h c24
                refine Ev.seq ?_
                refine W.reg hm ?_
                refine W.mv rfl (W.nil ?_)
                refine Ev.ret ?_
                refine ⟨_, Wk.nA (S := ⟨[(4, .bool false), (65540, .bool false), (131074, wP 10000), (131075, wP 10001), (131076, wP 10002), (131077, iP x8), (131080, .str r10.2.1), (131100, .bool (!r10.2.2)), (131101, .str r10.1)], [(10000, eP 30 1 [[.nils]]), (10001, eP 25 2 [[iP 0, iP 0]]), (10002, ⟨0, 65, 8, [[.own 10003 0, iP b2, .bool false, iP b3, iP b4, iP b5, iP b6, .bool b7]], false, false, false⟩), (10003, eP 45 3 (mP w1))], 2⟩), ?_⟩
                refine ⟨_, rfl, ?_⟩
                refine Sq.wEnd nb ?_
                refine W.mv rfl (W.nil ?_)
                refine Ev.ret ?_
                refine ⟨_, Wk.nA (S := ⟨[(4, .bool false), (65538, wP 10000), (65539, wP 10001), (65540, wP 10002), (65541, iP x8), (65544, .str r10.2.1), (65564, .bool (!r10.2.2)), (65565, .str r10.1)], [(10000, eP 30 1 [[.nils]]), (10001, eP 25 2 [[iP 0, iP 0]]), (10002, ⟨0, 65, 8, [[.own 10003 0, iP b2, .bool false, iP b3, iP b4, iP b5, iP b6, .bool b7]], false, false, false⟩), (10003, eP 45 3 (mP w1))], 2⟩), ?_⟩
                refine ⟨_, rfl, ?_⟩
                refine Sq.wEnd nb ?_
                refine W.guardT rfl c4 ?_
                refine W.not rfl ?_
                refine W.pickN rfl rfl rfl c4 ?_
                refine W.nil ?_
                refine Ev.condT rfl rfl ?_
                refine Ev.seq ?_
                refine W.reg hm ?_
                refine W.build (cs := [.nils]) rfl rfl rfl ?_
                refine W.mv rfl ?_
                refine W.build (cs := [iP 1, iP x8]) rfl rfl rfl ?_
                refine W.store (es' := [[.nils]]) (dt := true) rfl rfl rfl rfl rfl (Nat.le_of_ble_eq_true rfl) rfl rfl rfl rfl ?_
                refine W.store (es' := [[iP 1, iP x8]]) (dt := true) rfl rfl rfl rfl rfl (Nat.le_of_ble_eq_true rfl) rfl rfl rfl rfl ?_
                refine W.nil ?_
                refine Ev.ret ?_
                injection h with h; subst h
                exact ⟨_, rfl, Le.tups (.cons (Le.aggs (.cons (.nils 3) (.nil)) rfl) (.cons (.refl _) (.nil)))⟩
               ·replace h := iteF h c24
                refine Ev.skip ?_
                refine Ev.seq ?_
                refine Ev.regS rfl ?_
                refine Sq.w 7 nb ?_
                refine W.mv rfl (W.mv rfl ?_)
                refine W.mv rfl (W.nilCheckO rfl rfl ?_)
                refine W.fieldAddrO rfl rfl ?_
                refine W.loadO (p := iP b5) rfl rfl rfl rfl ?_
                obtain ⟨x21, k25, h⟩ := obind h
                refine W.subG rfl rfl k25 ?_
                refine W.nil ?_
                refine Sq.weak ?_ (Wk.nA (S := ⟨[(0, wP 10000), (7, wP 10002), (74, wP 10000), (80, iP x21), (65540, .bool false), (131074, wP 10003), (131075, wP 10004), (131076, wP 10000), (131077, iP x8), (131080, .str r10.2.1), (131100, .bool (!r10.2.2)), (131101, .str r10.1)], [(10000, ⟨0, 65, 8, [[.own 10001 0, iP b2, .bool false, iP b3, iP b4, iP b5, iP b6, .bool b7]], false, false, false⟩), (10001, eP 45 3 (mP w1)), (10002, eP 110 4 [[iP r13.1, iP r14.1, iP r15.1, iP r16.1]]), (10003, eP 30 1 [[.nils]]), (10004, eP 25 2 [[iP 0, iP 0]])], 2⟩))
                refine Sq.call rfl Tryz.c_unified_parser_keep ⟨_, rfl, nb, ?_⟩
                unfold Tryz.l_unified_parser_keep
                refine Ev.seq ?_
                refine W.reg hm ?_
                refine W.mv rfl (W.gtr rfl rfl ?_)
                refine W.nil ?_
                refine Ev.cond rfl (fun c26 => ?_) (fun c26 => ?_)
                ·replace h := iteT h c26
                 refine Ev.seq ?_
                 refine Ev.regS rfl ?_
                 refine Sq.w 4 nb ?_
                 refine W.mv rfl (W.nilCheckO rfl rfl ?_)
                 refine W.fieldAddrO rfl rfl (W.mv rfl ?_)
                 refine W.nil ?_
                 refine Sq.call rfl Tryz.c_diff_Collector_Keep ⟨_, rfl, nb, ?_⟩
                 unfold Tryz.l_diff_Collector_Keep
                 refine Ev.seq ?_
                 refine W.reg hm ?_
                 refine W.mv rfl (W.gtr rfl rfl ?_)
                 refine W.nil ?_
                 refine Ev.condT rfl c26 ?_
                 refine W.reg hm ?_
                 refine W.mv rfl (W.mv rfl ?_)
                 refine W.mv rfl (W.nilCheckO rfl rfl ?_)
                 refine W.fieldAddrO rfl rfl ?_
                 refine W.loadO (p := iP b2) rfl rfl rfl rfl ?_
                 refine W.mv rfl ?_
                 obtain ⟨x22, k27, h⟩ := obind h
                 refine W.addG rfl rfl k27 ?_
                 refine W.nilCheckO rfl rfl (W.fieldAddrO rfl rfl ?_)
                 refine W.store (es' := [[.own 10001 0, iP x22, .bool false, iP b3, iP b4, iP b5, iP b6, .bool b7]]) (dt := false) rfl rfl rfl rfl rfl (Nat.le_of_ble_eq_true rfl) rfl rfl rfl rfl ?_
                 refine W.nilCheckO rfl rfl (W.fieldAddrO rfl rfl ?_)
                 refine W.store (es' := [[.own 10001 0, iP x22, .bool false, iP b3, iP b4, iP b5, iP b6, .bool b7]]) (dt := false) rfl rfl rfl rfl rfl (Nat.le_of_ble_eq_true rfl) rfl rfl rfl rfl ?_
                 refine W.nil ?_
                 refine ⟨_, Wk.nA (S := ⟨[(65536, wP 10000), (65537, iP x21), (131072, wP 10000), (131079, wP 10002), (196612, .bool false), (262146, wP 10003), (262147, wP 10004), (262148, wP 10000), (262149, iP x8), (262152, .str r10.2.1), (262172, .bool (!r10.2.2)), (262173, .str r10.1)], [(10000, ⟨0, 65, 8, [[.own 10001 0, iP x22, .bool false, iP b3, iP b4, iP b5, iP b6, .bool b7]], false, false, false⟩), (10001, eP 45 3 (mP w1)), (10002, eP 110 4 [[iP r13.1, iP r14.1, iP r15.1, iP r16.1]]), (10003, eP 30 1 [[.nils]]), (10004, eP 25 2 [[iP 0, iP 0]])], 2⟩), ?_⟩
                 refine ⟨_, rfl, ?_⟩
                 refine Sq.wEnd nb ?_
                 refine W.nil ?_
                 refine W.reg hm ?_
                 refine W.mv rfl (W.mv rfl ?_)
                 refine W.mv rfl (W.nilCheckO rfl rfl ?_)
                 refine W.fieldAddrO rfl rfl ?_
                 refine W.loadO (p := iP b5) rfl rfl rfl rfl ?_
                 refine W.mv rfl ?_
                 obtain ⟨x23, k28, h⟩ := obind h
                 refine W.addG rfl rfl k28 ?_
                 refine W.nilCheckO rfl rfl (W.fieldAddrO rfl rfl ?_)
                 refine W.store (es' := [[.own 10001 0, iP x22, .bool false, iP b3, iP b4, iP x23, iP b6, .bool b7]]) (dt := false) rfl rfl rfl rfl rfl (Nat.le_of_ble_eq_true rfl) rfl rfl rfl rfl ?_
                 refine W.nilCheckO rfl rfl (W.fieldAddrO rfl rfl ?_)
                 refine W.store (es' := [[.own 10001 0, iP x22, .bool false, iP b3, iP b4, iP x23, iP b6, .bool false]]) (dt := false) rfl rfl rfl rfl rfl (Nat.le_of_ble_eq_true rfl) rfl rfl rfl rfl ?_
                 refine W.nil ?_
                 refine ⟨_, Wk.nA (S := ⟨[(65536, wP 10000), (65543, wP 10002), (131076, .bool false), (196610, wP 10003), (196611, wP 10004), (196612, wP 10000), (196613, iP x8), (196616, .str r10.2.1), (196636, .bool (!r10.2.2)), (196637, .str r10.1)], [(10000, ⟨0, 65, 8, [[.own 10001 0, iP x22, .bool false, iP b3, iP b4, iP x23, iP b6, .bool false]], false, false, false⟩), (10001, eP 45 3 (mP w1)), (10002, eP 110 4 [[iP r13.1, iP r14.1, iP r15.1, iP r16.1]]), (10003, eP 30 1 [[.nils]]), (10004, eP 25 2 [[iP 0, iP 0]])], 2⟩), ?_⟩
                 refine ⟨_, rfl, ?_⟩
                 refine Sq.wEnd nb ?_
                 refine W.nil ?_
                 refine Ev.seq ?_
                 refine W.regD hm ?_
                 refine W.mv rfl (W.mv rfl ?_)
                 refine W.idxAO (n := 1) rfl rfl rfl (by decide) rfl (by decide) ?_
                 refine W.loadO (p := iP r14.1) rfl rfl rfl rfl ?_
                 refine W.idxAO (n := 3) rfl rfl rfl (by decide) rfl (by decide) ?_
                 refine W.loadO (p := iP r16.1) rfl rfl rfl rfl ?_
                 refine W.nilCheckO rfl rfl (W.fieldAddrO rfl rfl ?_)
                 refine W.store (es' := [[.own 10001 0, iP x22, .bool false, iP r14.1, iP b4, iP x23, iP b6, .bool false]]) (dt := false) rfl rfl rfl rfl rfl (Nat.le_of_ble_eq_true rfl) rfl rfl rfl rfl ?_
                 refine W.nilCheckO rfl rfl (W.fieldAddrO rfl rfl ?_)
                 refine W.store (es' := [[.own 10001 0, iP x22, .bool false, iP r14.1, iP r16.1, iP x23, iP b6, .bool false]]) (dt := false) rfl rfl rfl rfl rfl (Nat.le_of_ble_eq_true rfl) rfl rfl rfl rfl ?_
                 refine W.nil ⟨rfl, ?_⟩
                 refine Ev.seq ?_
                 refine W.reg hm ?_
                 refine W.mv rfl (W.nil ?_)
                 refine Ev.ret ?_
                 refine ⟨_, Wk.nA (S := ⟨[(4, .bool true), (65540, .bool false), (131074, wP 10000), (131075, wP 10001), (131076, wP 10002), (131077, iP x8), (131080, .str r10.2.1), (131100, .bool (!r10.2.2)), (131101, .str r10.1)], [(10000, eP 30 1 [[.nils]]), (10001, eP 25 2 [[iP 0, iP 0]]), (10002, ⟨0, 65, 8, [[.own 10003 0, iP x22, .bool false, iP r14.1, iP r16.1, iP x23, iP b6, .bool false]], false, false, false⟩), (10003, eP 45 3 (mP w1))], 2⟩), ?_⟩
                 refine ⟨_, rfl, ?_⟩
                 refine Sq.wEnd nb ?_
                 refine W.mv rfl (W.nil ?_)
                 refine Ev.ret ?_
                 refine ⟨_, Wk.nA (S := ⟨[(4, .bool true), (65538, wP 10000), (65539, wP 10001), (65540, wP 10002), (65541, iP x8), (65544, .str r10.2.1), (65564, .bool (!r10.2.2)), (65565, .str r10.1)], [(10000, eP 30 1 [[.nils]]), (10001, eP 25 2 [[iP 0, iP 0]]), (10002, ⟨0, 65, 8, [[.own 10003 0, iP x22, .bool false, iP r14.1, iP r16.1, iP x23, iP b6, .bool false]], false, false, false⟩), (10003, eP 45 3 (mP w1))], 2⟩), ?_⟩
                 refine ⟨_, rfl, ?_⟩
                 refine Sq.wEnd nb ?_
                 refine W.guardT rfl c4 ?_
                 refine W.not rfl ?_
                 refine W.pickN rfl rfl rfl c4 ?_
                 refine W.nil ?_
                 refine Ev.condF rfl rfl ?_
                 refine Ev.skip ?_
                 refine Ev.seq ?_
                 refine W.reg hm ?_
                 refine W.mv rfl (W.mv rfl ?_)
                 refine W.nil ?_
                 refine W.reg hm ?_
                 refine W.mv rfl ?_
                 obtain ⟨x24, k29, h⟩ := obind h
                 refine W.addG rfl rfl k29 ?_
                 refine W.mv rfl (W.nil ?_)
                 exact ⟨(m1, none, w1, x22, r14.1, r16.1, x23, b6, false, x24, r10.2.1), h, Nat.lt_succ_self _, Wk.nrmTo [2, 3, 4, 5, 6] [(10000, 10000), (10001, 10001), (10002, 10002), (10003, 10003)] rfl rfl⟩
                ·replace h := iteF h c26
                 refine Ev.skip ?_
                 refine ⟨_, Wk.nA (S := ⟨[(65536, wP 10000), (65543, wP 10002), (131076, .bool false), (196610, wP 10003), (196611, wP 10004), (196612, wP 10000), (196613, iP x8), (196616, .str r10.2.1), (196636, .bool (!r10.2.2)), (196637, .str r10.1)], [(10000, ⟨0, 65, 8, [[.own 10001 0, iP b2, .bool false, iP b3, iP b4, iP b5, iP b6, .bool b7]], false, false, false⟩), (10001, eP 45 3 (mP w1)), (10002, eP 110 4 [[iP r13.1, iP r14.1, iP r15.1, iP r16.1]]), (10003, eP 30 1 [[.nils]]), (10004, eP 25 2 [[iP 0, iP 0]])], 2⟩), ?_⟩
                 refine ⟨_, rfl, ?_⟩
                 refine Sq.wEnd nb ?_
                 refine W.nil ?_
                 refine Ev.seq ?_
                 refine W.regD hm ?_
                 refine W.mv rfl (W.mv rfl ?_)
                 refine W.idxAO (n := 1) rfl rfl rfl (by decide) rfl (by decide) ?_
                 refine W.loadO (p := iP r14.1) rfl rfl rfl rfl ?_
                 refine W.idxAO (n := 3) rfl rfl rfl (by decide) rfl (by decide) ?_
                 refine W.loadO (p := iP r16.1) rfl rfl rfl rfl ?_
                 refine W.nilCheckO rfl rfl (W.fieldAddrO rfl rfl ?_)
                 refine W.store (es' := [[.own 10001 0, iP b2, .bool false, iP r14.1, iP b4, iP b5, iP b6, .bool b7]]) (dt := false) rfl rfl rfl rfl rfl (Nat.le_of_ble_eq_true rfl) rfl rfl rfl rfl ?_
                 refine W.nilCheckO rfl rfl (W.fieldAddrO rfl rfl ?_)
                 refine W.store (es' := [[.own 10001 0, iP b2, .bool false, iP r14.1, iP r16.1, iP b5, iP b6, .bool b7]]) (dt := false) rfl rfl rfl rfl rfl (Nat.le_of_ble_eq_true rfl) rfl rfl rfl rfl ?_
                 refine W.nil ⟨rfl, ?_⟩
                 refine Ev.seq ?_
                 refine W.reg hm ?_
                 refine W.mv rfl (W.nil ?_)
                 refine Ev.ret ?_
                 refine ⟨_, Wk.nA (S := ⟨[(4, .bool true), (65540, .bool false), (131074, wP 10000), (131075, wP 10001), (131076, wP 10002), (131077, iP x8), (131080, .str r10.2.1), (131100, .bool (!r10.2.2)), (131101, .str r10.1)], [(10000, eP 30 1 [[.nils]]), (10001, eP 25 2 [[iP 0, iP 0]]), (10002, ⟨0, 65, 8, [[.own 10003 0, iP b2, .bool false, iP r14.1, iP r16.1, iP b5, iP b6, .bool b7]], false, false, false⟩), (10003, eP 45 3 (mP w1))], 2⟩), ?_⟩
                 refine ⟨_, rfl, ?_⟩
                 refine Sq.wEnd nb ?_
                 refine W.mv rfl (W.nil ?_)
                 refine Ev.ret ?_
                 refine ⟨_, Wk.nA (S := ⟨[(4, .bool true), (65538, wP 10000), (65539, wP 10001), (65540, wP 10002), (65541, iP x8), (65544, .str r10.2.1), (65564, .bool (!r10.2.2)), (65565, .str r10.1)], [(10000, eP 30 1 [[.nils]]), (10001, eP 25 2 [[iP 0, iP 0]]), (10002, ⟨0, 65, 8, [[.own 10003 0, iP b2, .bool false, iP r14.1, iP r16.1, iP b5, iP b6, .bool b7]], false, false, false⟩), (10003, eP 45 3 (mP w1))], 2⟩), ?_⟩
                 refine ⟨_, rfl, ?_⟩
                 refine Sq.wEnd nb ?_
                 refine W.guardT rfl c4 ?_
                 refine W.not rfl ?_
                 refine W.pickN rfl rfl rfl c4 ?_
                 refine W.nil ?_
                 refine Ev.condF rfl rfl ?_
                 refine Ev.skip ?_
                 refine Ev.seq ?_
                 refine W.reg hm ?_
                 refine W.mv rfl (W.mv rfl ?_)
                 refine W.nil ?_
                 refine W.reg hm ?_
                 refine W.mv rfl ?_
                 obtain ⟨x25, k30, h⟩ := obind h
                 refine W.addG rfl rfl k30 ?_
                 refine W.mv rfl (W.nil ?_)
                 exact ⟨(m1, none, w1, b2, r14.1, r16.1, b5, b6, b7, x25, r10.2.1), h, Nat.lt_succ_self _, Wk.nrmTo [2, 3, 4, 5, 6] [(10000, 10000), (10001, 10001), (10002, 10002), (10003, 10003)] rfl rfl⟩
      ·replace h := iteF h c6
       refine Ev.skip ?_
       refine Ev.seq (Ev.seq ?_)
       refine W.reg hm ?_
       refine W.mv rfl (W.seql rfl rfl ?_)
       refine W.nil ?_
       refine Ev.cond rfl (fun c31 => ?_) (fun c31 => ?_)
       ·replace h := iteT h c31
        refine Ev.seq ?_
        refine W.reg hm ?_
        refine W.mv rfl (W.nil ?_)
        refine Ev.ret ?_
        refine ⟨_, Wk.nA (S := ⟨[(4, .bool false), (65538, wP 10000), (65539, wP 10001), (65540, wP 10002), (65541, iP x8), (65544, .str r10.2.1), (65564, .bool (!r10.2.2)), (65565, .str r10.1)], [(10000, eP 30 1 [[.nils]]), (10001, eP 25 2 [[iP 0, iP 0]]), (10002, ⟨0, 65, 8, [[.own 10003 0, iP b2, .bool false, iP b3, iP b4, iP b5, iP b6, .bool b7]], false, false, false⟩), (10003, eP 45 3 (mP w1))], 2⟩), ?_⟩
        refine ⟨_, rfl, ?_⟩
        refine Sq.wEnd nb ?_
        refine W.guardT rfl c4 ?_
        refine W.not rfl ?_
        refine W.pickN rfl rfl rfl c4 ?_
        refine W.nil ?_
        refine Ev.condT rfl rfl ?_
        refine Ev.seq ?_
        refine W.reg hm ?_
        refine W.build (cs := [.nils]) rfl rfl rfl ?_
        refine W.mv rfl ?_
        refine W.build (cs := [iP 1, iP x8]) rfl rfl rfl ?_
        refine W.store (es' := [[.nils]]) (dt := true) rfl rfl rfl rfl rfl (Nat.le_of_ble_eq_true rfl) rfl rfl rfl rfl ?_
        refine W.store (es' := [[iP 1, iP x8]]) (dt := true) rfl rfl rfl rfl rfl (Nat.le_of_ble_eq_true rfl) rfl rfl rfl rfl ?_
        refine W.nil ?_
        refine Ev.ret ?_
        injection h with h; subst h
        exact ⟨_, rfl, Le.tups (.cons (Le.aggs (.cons (.nils 3) (.nil)) rfl) (.cons (.refl _) (.nil)))⟩
       ·replace h := iteF h c31
        refine Ev.skip ?_
        refine Ev.seq (Ev.seq ?_)
        refine W.reg hm ?_
        refine W.mv rfl ?_
        obtain ⟨y26, k32, h⟩ := obind h
        refine W.sidxG rfl rfl k32 ?_
        refine W.nil ?_
        refine Ev.block ?_
        refine Ev.seq ?_
        refine W.reg hm ?_
        refine W.eql rfl rfl (W.mv rfl ?_)
        refine W.nil ?_
        refine Ev.cond rfl (fun c33 => ?_) (fun c33 => ?_)
        ·replace h := iteT h c33
         refine Ev.seq ?_
         refine W.regD hm ?_
         refine W.mv rfl (W.mv rfl ?_)
         refine W.mv rfl (W.nilCheckO rfl rfl ?_)
         refine W.fieldAddrO rfl rfl ?_
         refine W.loadO (p := iP b3) rfl rfl rfl rfl ?_
         obtain ⟨x27, k34, h⟩ := obind h
         refine W.subG rfl rfl k34 ?_
         refine W.mv rfl (W.nilCheckO rfl rfl ?_)
         refine W.fieldAddrO rfl rfl ?_
         refine W.loadO (p := iP b4) rfl rfl rfl rfl ?_
         obtain ⟨x28, k35, h⟩ := obind h
         refine W.subG rfl rfl k35 ?_
         refine W.nilCheckO rfl rfl (W.fieldAddrO rfl rfl ?_)
         refine W.store (es' := [[.own 10003 0, iP b2, .bool false, iP x27, iP b4, iP b5, iP b6, .bool b7]]) (dt := false) rfl rfl rfl rfl rfl (Nat.le_of_ble_eq_true rfl) rfl rfl rfl rfl ?_
         refine W.nilCheckO rfl rfl (W.fieldAddrO rfl rfl ?_)
         refine W.store (es' := [[.own 10003 0, iP b2, .bool false, iP x27, iP x28, iP b5, iP b6, .bool b7]]) (dt := false) rfl rfl rfl rfl rfl (Nat.le_of_ble_eq_true rfl) rfl rfl rfl rfl ?_
         refine W.nil ⟨rfl, ?_⟩
         refine Ev.regS rfl ?_
         refine Sq.w 1 nb ?_
         refine W.mv rfl (W.nil ?_)
         refine Sq.call rfl Tryz.c_unified_parser_keep ⟨_, rfl, nb, ?_⟩
         unfold Tryz.l_unified_parser_keep
         refine Ev.seq ?_
         refine W.reg hm ?_
         refine W.mv rfl (W.gtr rfl rfl ?_)
         refine W.nil ?_
         refine Ev.condT rfl rfl ?_
         refine Ev.seq ?_
         refine Ev.regS rfl ?_
         refine Sq.w 4 nb ?_
         refine W.mv rfl (W.nilCheckO rfl rfl ?_)
         refine W.fieldAddrO rfl rfl (W.mv rfl ?_)
         refine W.nil ?_
         refine Sq.call rfl Tryz.c_diff_Collector_Keep ⟨_, rfl, nb, ?_⟩
         unfold Tryz.l_diff_Collector_Keep
         refine Ev.seq ?_
         refine W.reg hm ?_
         refine W.mv rfl (W.gtr rfl rfl ?_)
         refine W.nil ?_
         refine Ev.condT rfl rfl ?_
         refine W.reg hm ?_
         refine W.mv rfl (W.mv rfl ?_)
         refine W.mv rfl (W.nilCheckO rfl rfl ?_)
         refine W.fieldAddrO rfl rfl ?_
         refine W.loadO (p := iP b2) rfl rfl rfl rfl ?_
         refine W.mv rfl ?_
         obtain ⟨x29, k36, h⟩ := obind h
         refine W.addG rfl rfl k36 ?_
         refine W.nilCheckO rfl rfl (W.fieldAddrO rfl rfl ?_)
         refine W.store (es' := [[.own 10003 0, iP x29, .bool false, iP x27, iP x28, iP b5, iP b6, .bool b7]]) (dt := false) rfl rfl rfl rfl rfl (Nat.le_of_ble_eq_true rfl) rfl rfl rfl rfl ?_
         refine W.nilCheckO rfl rfl (W.fieldAddrO rfl rfl ?_)
         refine W.store (es' := [[.own 10003 0, iP x29, .bool false, iP x27, iP x28, iP b5, iP b6, .bool b7]]) (dt := false) rfl rfl rfl rfl rfl (Nat.le_of_ble_eq_true rfl) rfl rfl rfl rfl ?_
         refine W.nil ?_
         refine ⟨_, Wk.nA (S := ⟨[(65536, wP 10000), (65537, iP 1), (131072, wP 10000), (196610, wP 10002), (196611, wP 10003), (196612, wP 10000), (196613, iP x8), (196616, .str r10.2.1), (196636, .bool (!r10.2.2)), (196637, .str r10.1)], [(10000, ⟨0, 65, 8, [[.own 10001 0, iP x29, .bool false, iP x27, iP x28, iP b5, iP b6, .bool b7]], false, false, false⟩), (10001, eP 45 3 (mP w1)), (10002, eP 30 1 [[.nils]]), (10003, eP 25 2 [[iP 0, iP 0]])], 2⟩), ?_⟩
         refine ⟨_, rfl, ?_⟩
         refine Sq.wEnd nb ?_
         refine W.nil ?_
         refine W.reg hm ?_
         refine W.mv rfl (W.mv rfl ?_)
         refine W.mv rfl (W.nilCheckO rfl rfl ?_)
         refine W.fieldAddrO rfl rfl ?_
         refine W.loadO (p := iP b5) rfl rfl rfl rfl ?_
         refine W.mv rfl ?_
         obtain ⟨x30, k37, h⟩ := obind h
         refine W.addG rfl rfl k37 ?_
         refine W.nilCheckO rfl rfl (W.fieldAddrO rfl rfl ?_)
         refine W.store (es' := [[.own 10001 0, iP x29, .bool false, iP x27, iP x28, iP x30, iP b6, .bool b7]]) (dt := false) rfl rfl rfl rfl rfl (Nat.le_of_ble_eq_true rfl) rfl rfl rfl rfl ?_
         refine W.nilCheckO rfl rfl (W.fieldAddrO rfl rfl ?_)
         refine W.store (es' := [[.own 10001 0, iP x29, .bool false, iP x27, iP x28, iP x30, iP b6, .bool false]]) (dt := false) rfl rfl rfl rfl rfl (Nat.le_of_ble_eq_true rfl) rfl rfl rfl rfl ?_
         refine W.nil ?_
         refine ⟨_, Wk.nA (S := ⟨[(65536, wP 10000), (131074, wP 10002), (131075, wP 10003), (131076, wP 10000), (131077, iP x8), (131080, .str r10.2.1), (131100, .bool (!r10.2.2)), (131101, .str r10.1)], [(10000, ⟨0, 65, 8, [[.own 10001 0, iP x29, .bool false, iP x27, iP x28, iP x30, iP b6, .bool false]], false, false, false⟩), (10001, eP 45 3 (mP w1)), (10002, eP 30 1 [[.nils]]), (10003, eP 25 2 [[iP 0, iP 0]])], 2⟩), ?_⟩
         refine ⟨_, rfl, ?_⟩
         refine Sq.wEnd nb ?_
         refine W.nil ?_
         refine Ev.seq ?_
         refine W.reg hm ?_
         refine W.mv rfl (W.nilCheckO rfl rfl ?_)
         refine W.fieldAddrO rfl rfl ?_
         refine W.loadO (p := iP x27) rfl rfl rfl rfl ?_
         refine W.geq rfl rfl (W.mv rfl ?_)
         refine W.split 110 rfl (fun c38 => ?_) (fun c38 => ?_)
         ·replace h := iteT h c38
          refine W.guardT rfl c38 ?_
          refine W.mv rfl ?_
          refine W.guardT rfl c38 ?_
          refine W.nilCheckO rfl rfl ?_
          refine W.guardT rfl c38 ?_
          refine W.fieldAddrO rfl rfl ?_
          refine W.guardT rfl c38 ?_
          refine W.loadO (p := iP x28) rfl rfl rfl rfl ?_
          refine W.guardT rfl c38 ?_
          refine W.geq rfl rfl ?_
          refine W.pickT rfl rfl rfl c38 ?_
          refine W.mv rfl (W.nil ?_)
          refine Ev.ret ?_
          refine ⟨_, Wk.nA (S := ⟨[(4, .bool (decide (0 ≤ x28))), (65538, wP 10000), (65539, wP 10001), (65540, wP 10002), (65541, iP x8), (65544, .str r10.2.1), (65564, .bool (!r10.2.2)), (65565, .str r10.1)], [(10000, eP 30 1 [[.nils]]), (10001, eP 25 2 [[iP 0, iP 0]]), (10002, ⟨0, 65, 8, [[.own 10003 0, iP x29, .bool false, iP x27, iP x28, iP x30, iP b6, .bool false]], false, false, false⟩), (10003, eP 45 3 (mP w1))], 2⟩), ?_⟩
          refine ⟨_, rfl, ?_⟩
          refine Sq.wEnd nb ?_
          refine W.guardT rfl c4 ?_
          refine W.not rfl ?_
          refine W.pickN rfl rfl rfl c4 ?_
          refine W.nil ?_
          refine Ev.cond rfl (fun c39 => ?_) (fun c39 => ?_)
          ·replace h := iteT h c39
           refine Ev.seq ?_
           refine W.reg hm ?_
           refine W.build (cs := [.nils]) rfl rfl rfl ?_
           refine W.mv rfl ?_
           refine W.build (cs := [iP 1, iP x8]) rfl rfl rfl ?_
           refine W.store (es' := [[.nils]]) (dt := true) rfl rfl rfl rfl rfl (Nat.le_of_ble_eq_true rfl) rfl rfl rfl rfl ?_
           refine W.store (es' := [[iP 1, iP x8]]) (dt := true) rfl rfl rfl rfl rfl (Nat.le_of_ble_eq_true rfl) rfl rfl rfl rfl ?_
           refine W.nil ?_
           refine Ev.ret ?_
           injection h with h; subst h
           exact ⟨_, rfl, Le.tups (.cons (Le.aggs (.cons (.nils 3) (.nil)) rfl) (.cons (.refl _) (.nil)))⟩
          ·replace h := iteF h c39
           refine Ev.skip ?_
           refine Ev.seq ?_
           refine W.reg hm ?_
           refine W.mv rfl (W.mv rfl ?_)
           refine W.nil ?_
           refine W.reg hm ?_
           refine W.mv rfl ?_
           obtain ⟨x31, k40, h⟩ := obind h
           refine W.addG rfl rfl k40 ?_
           refine W.mv rfl (W.nil ?_)
           exact ⟨(m1, none, w1, x29, x27, x28, x30, b6, false, x31, r10.2.1), h, Nat.lt_succ_self _, Wk.nrmTo [2, 3, 4, 5, 6] [(10000, 10000), (10001, 10001), (10002, 10002), (10003, 10003)] rfl rfl⟩
         ·replace h := iteF h c38
          refine W.guardF1 rfl c38 ?_
          refine W.guardF1 rfl c38 ?_
          refine W.guardF1 rfl c38 ?_
          refine W.guardF1 rfl c38 ?_
          refine W.guardF1 rfl c38 ?_
          refine W.pickN rfl rfl rfl c38 ?_
          refine W.mv rfl (W.nil ?_)
          refine Ev.ret ?_
          refine ⟨_, Wk.nA (S := ⟨[(4, .bool false), (65538, wP 10000), (65539, wP 10001), (65540, wP 10002), (65541, iP x8), (65544, .str r10.2.1), (65564, .bool (!r10.2.2)), (65565, .str r10.1)], [(10000, eP 30 1 [[.nils]]), (10001, eP 25 2 [[iP 0, iP 0]]), (10002, ⟨0, 65, 8, [[.own 10003 0, iP x29, .bool false, iP x27, iP x28, iP x30, iP b6, .bool false]], false, false, false⟩), (10003, eP 45 3 (mP w1))], 2⟩), ?_⟩
          refine ⟨_, rfl, ?_⟩
          refine Sq.wEnd nb ?_
          refine W.guardT rfl c4 ?_
          refine W.not rfl ?_
          refine W.pickN rfl rfl rfl c4 ?_
          refine W.nil ?_
          refine Ev.condT rfl rfl ?_
          refine Ev.seq ?_
          refine W.reg hm ?_
          refine W.build (cs := [.nils]) rfl rfl rfl ?_
          refine W.mv rfl ?_
          refine W.build (cs := [iP 1, iP x8]) rfl rfl rfl ?_
          refine W.store (es' := [[.nils]]) (dt := true) rfl rfl rfl rfl rfl (Nat.le_of_ble_eq_true rfl) rfl rfl rfl rfl ?_
          refine W.store (es' := [[iP 1, iP x8]]) (dt := true) rfl rfl rfl rfl rfl (Nat.le_of_ble_eq_true rfl) rfl rfl rfl rfl ?_
          refine W.nil ?_
          refine Ev.ret ?_
          injection h with h; subst h
          exact ⟨_, rfl, Le.tups (.cons (Le.aggs (.cons (.nils 3) (.nil)) rfl) (.cons (.refl _) (.nil)))⟩
        ·replace h := iteF h c33
         refine Ev.seq ?_
         refine W.reg hm ?_
         refine W.eql rfl rfl (W.mv rfl ?_)
         refine W.nil ?_
         refine Ev.cond rfl (fun c41 => ?_) (fun c41 => ?_)
         ·replace h := iteT h c41
          refine Ev.seq (Ev.seq ?_)
          refine W.reg hm ?_
          refine W.mv rfl (W.nilCheckO rfl rfl ?_)
          refine W.fieldAddrO rfl rfl ?_
          refine W.loadO (p := .bool b7) rfl rfl rfl rfl ?_
          refine W.nil ?_
          refine Ev.cond rfl (fun c42 => ?_) (fun c42 => ?_)
          ·replace h := iteT h c42
           refine Ev.seq ?_
           refine W.reg hm ?_
           refine W.mv rfl (W.nil ?_)
           refine Ev.ret ?_
           refine ⟨_, Wk.nA (S := ⟨[(4, .bool false), (65538, wP 10000), (65539, wP 10001), (65540, wP 10002), (65541, iP x8), (65544, .str r10.2.1), (65564, .bool (!r10.2.2)), (65565, .str r10.1)], [(10000, eP 30 1 [[.nils]]), (10001, eP 25 2 [[iP 0, iP 0]]), (10002, ⟨0, 65, 8, [[.own 10003 0, iP b2, .bool false, iP b3, iP b4, iP b5, iP b6, .bool b7]], false, false, false⟩), (10003, eP 45 3 (mP w1))], 2⟩), ?_⟩
           refine ⟨_, rfl, ?_⟩
           refine Sq.wEnd nb ?_
           refine W.guardT rfl c4 ?_
           refine W.not rfl ?_
           refine W.pickN rfl rfl rfl c4 ?_
           refine W.nil ?_
           refine Ev.condT rfl rfl ?_
           refine Ev.seq ?_
           refine W.reg hm ?_
           refine W.build (cs := [.nils]) rfl rfl rfl ?_
           refine W.mv rfl ?_
           refine W.build (cs := [iP 1, iP x8]) rfl rfl rfl ?_
           refine W.store (es' := [[.nils]]) (dt := true) rfl rfl rfl rfl rfl (Nat.le_of_ble_eq_true rfl) rfl rfl rfl rfl ?_
           refine W.store (es' := [[iP 1, iP x8]]) (dt := true) rfl rfl rfl rfl rfl (Nat.le_of_ble_eq_true rfl) rfl rfl rfl rfl ?_
           refine W.nil ?_
           refine Ev.ret ?_
           injection h with h; subst h
           exact ⟨_, rfl, Le.tups (.cons (Le.aggs (.cons (.nils 3) (.nil)) rfl) (.cons (.refl _) (.nil)))⟩
          ·replace h := iteF h c42
           refine Ev.skip ?_
           refine Ev.seq ?_
           refine W.regD hm ?_
           refine W.mv rfl (W.mv rfl ?_)
           refine W.mv rfl (W.mv rfl ?_)
           refine W.nilCheckO rfl rfl (W.fieldAddrO rfl rfl ?_)
           refine W.loadO (p := iP b3) rfl rfl rfl rfl ?_
           obtain ⟨x32, k43, h⟩ := obind h
           refine W.subG rfl rfl k43 ?_
           refine W.mv rfl (W.nilCheckO rfl rfl ?_)
           refine W.fieldAddrO rfl rfl ?_
           refine W.loadO (p := iP b5) rfl rfl rfl rfl ?_
           obtain ⟨x33, k44, h⟩ := obind h
           refine W.addG rfl rfl k44 ?_
           refine W.mv rfl (W.nilCheckO rfl rfl ?_)
           refine W.fieldAddrO rfl rfl ?_
           refine W.loadO (p := iP b6) rfl rfl rfl rfl ?_
           obtain ⟨x34, k45, h⟩ := obind h
           refine W.subG rfl rfl k45 ?_
           refine W.nilCheckO rfl rfl (W.fieldAddrO rfl rfl ?_)
           refine W.store (es' := [[.own 10003 0, iP b2, .bool false, iP x32, iP b4, iP b5, iP b6, .bool b7]]) (dt := false) rfl rfl rfl rfl rfl (Nat.le_of_ble_eq_true rfl) rfl rfl rfl rfl ?_
           refine W.nilCheckO rfl rfl (W.fieldAddrO rfl rfl ?_)
           refine W.store (es' := [[.own 10003 0, iP b2, .bool false, iP x32, iP b4, iP x33, iP b6, .bool b7]]) (dt := false) rfl rfl rfl rfl rfl (Nat.le_of_ble_eq_true rfl) rfl rfl rfl rfl ?_
           refine W.nilCheckO rfl rfl (W.fieldAddrO rfl rfl ?_)
           refine W.store (es' := [[.own 10003 0, iP b2, .bool false, iP x32, iP b4, iP x33, iP x34, .bool b7]]) (dt := false) rfl rfl rfl rfl rfl (Nat.le_of_ble_eq_true rfl) rfl rfl rfl rfl ?_
           refine W.nil ⟨rfl, ?_⟩
           refine Ev.regX 5 hm rfl rfl rfl rfl ?_
           refine W.mv rfl (W.nilCheckO rfl rfl ?_)
           refine W.fieldAddrO rfl rfl (W.mv rfl ?_)
           obtain ⟨s35, k46, h⟩ := obind h
           refine W.ssliceG rfl k46 (ix0 (gcut_some k46).1) ?_
           refine W.nil ⟨rfl, ?_⟩
           refine Sq.call rfl Tryz.c_diff_Collector_Delete ⟨_, rfl, nb, ?_⟩
           unfold Tryz.l_diff_Collector_Delete
           refine Ev.seq ?_
           refine Ev.regS rfl ?_
           refine Sq.w 1 nb ?_
           refine W.mv rfl (W.nil ?_)
           refine Sq.call rfl Tryz.c_diff_Collector_hunk ⟨_, rfl, nb, ?_⟩
           unfold Tryz.l_diff_Collector_hunk
           refine Ev.seq ?_
           refine W.reg hm ?_
           refine W.mv rfl (W.nil ?_)
           refine Ev.seq (Ev.seq ?_)
           refine W.reg hm ?_
           refine W.mv rfl (W.nilCheckO rfl rfl ?_)
           refine W.fieldAddrO rfl rfl ?_
           refine W.loadO (p := .bool false) rfl rfl rfl rfl ?_
           refine W.not rfl (W.nil ?_)
           refine Ev.condT rfl rfl ?_
           refine W.regD hm ?_
           refine W.mv rfl (W.mv rfl ?_)
           refine W.mv rfl (W.nilCheckO rfl rfl ?_)
           refine W.fieldAddrO rfl rfl ?_
           refine W.loadO (p := .own 10003 0) rfl rfl rfl rfl ?_
           refine W.mv rfl (W.nilCheckO rfl rfl ?_)
           refine W.fieldAddrO rfl rfl ?_
           refine W.loadO (p := iP b2) rfl rfl rfl rfl ?_
           refine W.build (cs := [iP b2, .nils, .nils]) rfl rfl rfl ?_
           refine W.mkSlice (dt := true) (es := [[iP b2, .nils, .nils]]) rfl rfl rfl rfl rfl rfl ?_
           obtain ⟨w36, k47, h⟩ := obind h
           refine W.append (es' := List.map SAtOldNew.cells w1 ++ [[iP b2, .nils, .nils]]) (dt := true) rfl rfl rfl rfl rfl rfl rfl rfl (xapp k47) rfl (by simp) ?_
           refine W.nilCheckO rfl rfl (W.fieldAddrO rfl rfl ?_)
           refine W.store (es' := [[.own 20 2, iP b2, .bool false, iP x32, iP b4, iP x33, iP x34, .bool b7]]) (dt := false) rfl rfl rfl rfl rfl (Nat.le_of_ble_eq_true rfl) rfl rfl rfl rfl ?_
           refine W.nilCheckO rfl rfl (W.fieldAddrO rfl rfl ?_)
           refine W.store (es' := [[.own 20 2, iP b2, .bool true, iP x32, iP b4, iP x33, iP x34, .bool b7]]) (dt := false) rfl rfl rfl rfl rfl (Nat.le_of_ble_eq_true rfl) rfl rfl rfl rfl ?_
           refine W.nil ⟨rfl, ?_⟩
           refine Ev.seq ?_
           refine W.regD hm ?_
           refine W.mv rfl (W.nilCheckO rfl rfl ?_)
           refine W.fieldAddrO rfl rfl ?_
           refine W.loadO (p := .own 20 2) rfl rfl rfl rfl ?_
           refine W.mv rfl (W.nilCheckO rfl rfl ?_)
           refine W.fieldAddrO rfl rfl ?_
           refine W.loadO (p := .own 20 2) rfl rfl rfl rfl ?_
           refine W.len (n := w1.length + 1) rfl rfl xlen ?_
           obtain ⟨x37, k48, h⟩ := obind h
           refine W.subG rfl rfl k48 ?_
           refine W.idxO (i := w1.length) rfl rfl rfl rfl (xsub k48).1 (xsub k48).2 xlt ?_
           refine W.mv rfl ?_
           refine W.nil ⟨rfl, ?_⟩
           refine Ev.ret ?_
           refine ⟨_, Wk.nA (S := ⟨[(2, .pown 10000 0 (w1.length) 0), (65536, wP 10001), (65537, .str s35), (131072, wP 10001), (196610, wP 10002), (196611, wP 10003), (196612, wP 10001), (196613, iP x8), (196616, .str r10.2.1), (196636, .bool (!r10.2.2)), (196637, .str r10.1)], [(10000, eP 45 3 (List.map SAtOldNew.cells w1 ++ [[iP b2, .nils, .nils]])), (10001, ⟨0, 65, 8, [[.own 10000 0, iP b2, .bool true, iP x32, iP b4, iP x33, iP x34, .bool b7]], false, false, false⟩), (10002, eP 30 1 [[.nils]]), (10003, eP 25 2 [[iP 0, iP 0]])], 2⟩), ?_⟩
           refine ⟨_, rfl, ?_⟩
           refine Sq.wEnd nb ?_
           refine W.mv rfl (W.nil ?_)
           refine Ev.seq ?_
           refine W.reg hm ?_
           refine W.mv rfl (W.mv rfl ?_)
           refine W.nilCheckO rfl rfl (W.fieldAddrO rfl rfl ?_)
           refine W.loadO (p := .nils) rfl rfl xget rfl ?_
           refine W.mv rfl ?_
           refine W.mkSlice (dt := true) (es := [[.str s35]]) rfl rfl rfl rfl rfl rfl ?_
           obtain ⟨w38, k49, h⟩ := obind h
           refine W.appN true (c := cS) (ys := ([s35] : List (List UInt8))) rfl rfl rfl rfl k49 rfl ?_
           refine W.nilCheckO rfl rfl (W.fieldAddrO rfl rfl ?_)
           refine W.store (es' := List.map SAtOldNew.cells w1 ++ [[iP b2, .own 14 2, .nils]]) (cs' := [iP b2, .own 14 2, .nils]) (dt := false) rfl rfl rfl xget rfl (Nat.le_of_ble_eq_true rfl) rfl rfl xset rfl ?_
           refine W.nil ?_
           refine W.reg hm ?_
           refine W.mv rfl (W.nilCheckO rfl rfl ?_)
           refine W.fieldAddrO rfl rfl ?_
           refine W.loadO (p := iP b2) rfl rfl rfl rfl ?_
           obtain ⟨x39, k50, h⟩ := obind h
           refine W.addG rfl rfl k50 ?_
           refine W.nilCheckO rfl rfl (W.fieldAddrO rfl rfl ?_)
           refine W.store (es' := [[.own 10000 0, iP x39, .bool true, iP x32, iP b4, iP x33, iP x34, .bool b7]]) (dt := false) rfl rfl rfl rfl rfl (Nat.le_of_ble_eq_true rfl) rfl rfl rfl rfl ?_
           refine W.nil ?_
           refine ⟨_, Wk.nrmX (S := ⟨[(65536, wP 10000), (131074, wP 10003), (131075, wP 10004), (131076, wP 10000), (131077, iP x8), (131080, .str r10.2.1), (131100, .bool (!r10.2.2)), (131101, .str r10.1)], [(10000, ⟨0, 65, 8, [[.own 10001 0, iP x39, .bool true, iP x32, iP b4, iP x33, iP x34, .bool b7]], false, false, false⟩), (10001, ⟨0, 45, 3, List.map SAtOldNew.cells w1 ++ [[iP b2, .own 10002 0, .nils]], false, false, false⟩), (10002, eP 9 1 (mP w38)), (10003, eP 30 1 [[.nils]]), (10004, eP 25 2 [[iP 0, iP 0]])], 2⟩) [65536, 131074, 131075, 131076, 131077, 131080, 131100, 131101] [(10001, 10000), (10000, 10001), (14, 10002), (10002, 10003), (10003, 10004)] (fun es => ⟨[(65536, wP 10000), (131074, wP 10003), (131075, wP 10004), (131076, wP 10000), (131077, iP x8), (131080, .str r10.2.1), (131100, .bool (!r10.2.2)), (131101, .str r10.1)], [(10000, ⟨0, 65, 8, [[.own 10001 0, iP x39, .bool true, iP x32, iP b4, iP x33, iP x34, .bool b7]], false, false, false⟩), (10001, ⟨0, 45, 3, es, false, false, false⟩), (10002, eP 9 1 (mP w38)), (10003, eP 30 1 [[.nils]]), (10004, eP 25 2 [[iP 0, iP 0]])], 2⟩) w1 SAtOldNew.cells [iP b2, .own 14 2, .nils] (fun _ => rfl), ?_⟩
           refine ⟨_, rfl, ?_⟩
           refine Sq.wEnd nb ?_
           refine W.nil ?_
           refine Ev.seq ?_
           refine W.reg hm ?_
           refine W.mv rfl (W.nilCheckO rfl rfl ?_)
           refine W.fieldAddrO rfl rfl ?_
           refine W.loadO (p := iP x32) rfl rfl rfl rfl ?_
           refine W.geq rfl rfl (W.mv rfl ?_)
           refine W.split 110 rfl (fun c51 => ?_) (fun c51 => ?_)
           ·replace h := iteT h c51
            refine W.guardT rfl c51 ?_
            refine W.mv rfl ?_
            refine W.guardT rfl c51 ?_
            refine W.nilCheckO rfl rfl ?_
            refine W.guardT rfl c51 ?_
            refine W.fieldAddrO rfl rfl ?_
            refine W.guardT rfl c51 ?_
            refine W.loadO (p := iP b4) rfl rfl rfl rfl ?_
            refine W.guardT rfl c51 ?_
            refine W.geq rfl rfl ?_
            refine W.pickT rfl rfl rfl c51 ?_
            refine W.mv rfl (W.nil ?_)
            refine Ev.ret ?_
            refine ⟨_, Wk.nrmX (S := ⟨[(4, .bool (decide (0 ≤ b4))), (65538, wP 10000), (65539, wP 10001), (65540, wP 10002), (65541, iP x8), (65544, .str r10.2.1), (65564, .bool (!r10.2.2)), (65565, .str r10.1)], [(10000, eP 30 1 [[.nils]]), (10001, eP 25 2 [[iP 0, iP 0]]), (10002, ⟨0, 65, 8, [[.own 10003 0, iP x39, .bool true, iP x32, iP b4, iP x33, iP x34, .bool b7]], false, false, false⟩), (10003, ⟨0, 45, 3, List.map SAtOldNew.cells w1 ++ [[iP b2, .own 10004 0, .nils]], false, false, false⟩), (10004, eP 9 1 (mP w38))], 2⟩) [4, 65538, 65539, 65540, 65541, 65544, 65564, 65565] [(10003, 10000), (10004, 10001), (10000, 10002), (10001, 10003), (10002, 10004)] (fun es => ⟨[(4, .bool (decide (0 ≤ b4))), (65538, wP 10000), (65539, wP 10001), (65540, wP 10002), (65541, iP x8), (65544, .str r10.2.1), (65564, .bool (!r10.2.2)), (65565, .str r10.1)], [(10000, eP 30 1 [[.nils]]), (10001, eP 25 2 [[iP 0, iP 0]]), (10002, ⟨0, 65, 8, [[.own 10003 0, iP x39, .bool true, iP x32, iP b4, iP x33, iP x34, .bool b7]], false, false, false⟩), (10003, ⟨0, 45, 3, es, false, false, false⟩), (10004, eP 9 1 (mP w38))], 2⟩) w1 SAtOldNew.cells [iP b2, .own 10002 0, .nils] (fun _ => rfl), ?_⟩
            refine ⟨_, rfl, ?_⟩
            refine Sq.wEnd nb ?_
            refine W.guardT rfl c4 ?_
            refine W.not rfl ?_
            refine W.pickN rfl rfl rfl c4 ?_
            refine W.nil ?_
            refine Ev.cond rfl (fun c52 => ?_) (fun c52 => ?_)
            ·replace h := iteT h c52
             refine Ev.seq ?_
             refine W.reg hm ?_
             refine W.build (cs := [.nils]) rfl rfl rfl ?_
             refine W.mv rfl ?_
             refine W.build (cs := [iP 1, iP x8]) rfl rfl rfl ?_
             refine W.store (es' := [[.nils]]) (dt := true) rfl rfl rfl rfl rfl (Nat.le_of_ble_eq_true rfl) rfl rfl rfl rfl ?_
             refine W.store (es' := [[iP 1, iP x8]]) (dt := true) rfl rfl rfl rfl rfl (Nat.le_of_ble_eq_true rfl) rfl rfl rfl rfl ?_
             refine W.nil ?_
             refine Ev.ret ?_
             injection h with h; subst h
             exact ⟨_, rfl, Le.tups (.cons (Le.aggs (.cons (.nils 3) (.nil)) rfl) (.cons (.refl _) (.nil)))⟩
            ·replace h := iteF h c52
             refine Ev.skip ?_
             refine Ev.seq ?_
             refine W.reg hm ?_
             refine W.mv rfl (W.mv rfl ?_)
             refine W.nil ?_
             refine W.reg hm ?_
             refine W.mv rfl ?_
             obtain ⟨x40, k53, h⟩ := obind h
             refine W.addG rfl rfl k53 ?_
             refine W.mv rfl (W.nil ?_)
             exact ⟨(m1, (some (b2, w38, ([] : List (List UInt8)))), w1, x39, x32, b4, x33, x34, b7, x40, r10.2.1), h, Nat.lt_succ_self _, (Wk.ownNilAt (es' := List.map SAtOldNew.cells w1 ++ [[iP b2, .own 10004 0, .own 20002 2]]) 10003 0 w1.length 2 20002 9 1 rfl xget rfl rfl xset rfl (eq_false (by decide)) true).trans (Wk.nrmX [2, 3, 4, 5, 6] [(10000, 10000), (10001, 10001), (10002, 10002), (10003, 10003), (10004, 10090), (20002, 10091)] (fun es => ⟨[(2, wP 10000), (3, wP 10001), (4, wP 10002), (5, iP x40), (6, .str r10.2.1)], [(10000, eP 30 1 [[.nils]]), (10001, eP 25 2 [[iP 0, iP 0]]), (10002, ⟨0, 65, 8, [[.own 10003 0, iP x39, .bool true, iP x32, iP b4, iP x33, iP x34, .bool b7]], false, false, false⟩), (10003, ⟨0, 45, 3, es, false, false, false⟩), (10090, eP 9 1 (mP w38)), (10091, eP 9 1 (mP ([] : List (List UInt8))))], 2⟩) w1 SAtOldNew.cells [iP b2, .own 10004 0, .own 20002 2] (fun _ => rfl))⟩
           ·replace h := iteF h c51
            refine W.guardF1 rfl c51 ?_
            refine W.guardF1 rfl c51 ?_
            refine W.guardF1 rfl c51 ?_
            refine W.guardF1 rfl c51 ?_
            refine W.guardF1 rfl c51 ?_
            refine W.pickN rfl rfl rfl c51 ?_
            refine W.mv rfl (W.nil ?_)
            refine Ev.ret ?_
            refine ⟨_, Wk.nrmX (S := ⟨[(4, .bool false), (65538, wP 10000), (65539, wP 10001), (65540, wP 10002), (65541, iP x8), (65544, .str r10.2.1), (65564, .bool (!r10.2.2)), (65565, .str r10.1)], [(10000, eP 30 1 [[.nils]]), (10001, eP 25 2 [[iP 0, iP 0]]), (10002, ⟨0, 65, 8, [[.own 10003 0, iP x39, .bool true, iP x32, iP b4, iP x33, iP x34, .bool b7]], false, false, false⟩), (10003, ⟨0, 45, 3, List.map SAtOldNew.cells w1 ++ [[iP b2, .own 10004 0, .nils]], false, false, false⟩), (10004, eP 9 1 (mP w38))], 2⟩) [4, 65538, 65539, 65540, 65541, 65544, 65564, 65565] [(10003, 10000), (10004, 10001), (10000, 10002), (10001, 10003), (10002, 10004)] (fun es => ⟨[(4, .bool false), (65538, wP 10000), (65539, wP 10001), (65540, wP 10002), (65541, iP x8), (65544, .str r10.2.1), (65564, .bool (!r10.2.2)), (65565, .str r10.1)], [(10000, eP 30 1 [[.nils]]), (10001, eP 25 2 [[iP 0, iP 0]]), (10002, ⟨0, 65, 8, [[.own 10003 0, iP x39, .bool true, iP x32, iP b4, iP x33, iP x34, .bool b7]], false, false, false⟩), (10003, ⟨0, 45, 3, es, false, false, false⟩), (10004, eP 9 1 (mP w38))], 2⟩) w1 SAtOldNew.cells [iP b2, .own 10002 0, .nils] (fun _ => rfl), ?_⟩
            refine ⟨_, rfl, ?_⟩
            refine Sq.wEnd nb ?_
            refine W.guardT rfl c4 ?_
            refine W.not rfl ?_
            refine W.pickN rfl rfl rfl c4 ?_
            refine W.nil ?_
            refine Ev.condT rfl rfl ?_
            refine Ev.seq ?_
            refine W.reg hm ?_
            refine W.build (cs := [.nils]) rfl rfl rfl ?_
            refine W.mv rfl ?_
            refine W.build (cs := [iP 1, iP x8]) rfl rfl rfl ?_
            refine W.store (es' := [[.nils]]) (dt := true) rfl rfl rfl rfl rfl (Nat.le_of_ble_eq_true rfl) rfl rfl rfl rfl ?_
            refine W.store (es' := [[iP 1, iP x8]]) (dt := true) rfl rfl rfl rfl rfl (Nat.le_of_ble_eq_true rfl) rfl rfl rfl rfl ?_
            refine W.nil ?_
            refine Ev.ret ?_
            injection h with h; subst h
            exact ⟨_, rfl, Le.tups (.cons (Le.aggs (.cons (.nils 3) (.nil)) rfl) (.cons (.refl _) (.nil)))⟩
         ·replace h := iteF h c41
          refine Ev.seq ?_
          refine W.reg hm ?_
          refine W.eql rfl rfl (W.mv rfl ?_)
          refine W.nil ?_
          refine Ev.cond rfl (fun c54 => ?_) (fun c54 => ?_)
          ·replace h := iteT h c54
           refine Ev.seq ?_
           refine W.regD hm ?_
           refine W.mv rfl (W.mv rfl ?_)
           refine W.mv rfl (W.mv rfl ?_)
           refine W.nilCheckO rfl rfl (W.fieldAddrO rfl rfl ?_)
           refine W.loadO (p := iP b4) rfl rfl rfl rfl ?_
           obtain ⟨x41, k55, h⟩ := obind h
           refine W.subG rfl rfl k55 ?_
           refine W.mv rfl (W.nilCheckO rfl rfl ?_)
           refine W.fieldAddrO rfl rfl ?_
           refine W.loadO (p := iP b6) rfl rfl rfl rfl ?_
           obtain ⟨x42, k56, h⟩ := obind h
           refine W.addG rfl rfl k56 ?_
           refine W.nilCheckO rfl rfl (W.fieldAddrO rfl rfl ?_)
           refine W.store (es' := [[.own 10003 0, iP b2, .bool false, iP b3, iP x41, iP b5, iP b6, .bool b7]]) (dt := false) rfl rfl rfl rfl rfl (Nat.le_of_ble_eq_true rfl) rfl rfl rfl rfl ?_
           refine W.nilCheckO rfl rfl (W.fieldAddrO rfl rfl ?_)
           refine W.store (es' := [[.own 10003 0, iP b2, .bool false, iP b3, iP x41, iP b5, iP x42, .bool b7]]) (dt := false) rfl rfl rfl rfl rfl (Nat.le_of_ble_eq_true rfl) rfl rfl rfl rfl ?_
           refine W.nilCheckO rfl rfl (W.fieldAddrO rfl rfl ?_)
           refine W.store (es' := [[.own 10003 0, iP b2, .bool false, iP b3, iP x41, iP b5, iP x42, .bool true]]) (dt := false) rfl rfl rfl rfl rfl (Nat.le_of_ble_eq_true rfl) rfl rfl rfl rfl ?_
           refine W.nil ⟨rfl, ?_⟩
           refine Ev.regX 5 hm rfl rfl rfl rfl ?_
           refine W.mv rfl (W.nilCheckO rfl rfl ?_)
           refine W.fieldAddrO rfl rfl (W.mv rfl ?_)
           obtain ⟨s43, k57, h⟩ := obind h
           refine W.ssliceG rfl k57 (ix0 (gcut_some k57).1) ?_
           refine W.nil ⟨rfl, ?_⟩
           refine Sq.call rfl Tryz.c_diff_Collector_Insert ⟨_, rfl, nb, ?_⟩
           unfold Tryz.l_diff_Collector_Insert
           refine Ev.seq ?_
           refine Ev.regS rfl ?_
           refine Sq.w 1 nb ?_
           refine W.mv rfl (W.nil ?_)
           refine Sq.call rfl Tryz.c_diff_Collector_hunk ⟨_, rfl, nb, ?_⟩
           unfold Tryz.l_diff_Collector_hunk
           refine Ev.seq ?_
           refine W.reg hm ?_
           refine W.mv rfl (W.nil ?_)
           refine Ev.seq (Ev.seq ?_)
           refine W.reg hm ?_
           refine W.mv rfl (W.nilCheckO rfl rfl ?_)
           refine W.fieldAddrO rfl rfl ?_
           refine W.loadO (p := .bool false) rfl rfl rfl rfl ?_
           refine W.not rfl (W.nil ?_)
           refine Ev.condT rfl rfl ?_
           refine W.regD hm ?_
           refine W.mv rfl (W.mv rfl ?_)
           refine W.mv rfl (W.nilCheckO rfl rfl ?_)
           refine W.fieldAddrO rfl rfl ?_
           refine W.loadO (p := .own 10003 0) rfl rfl rfl rfl ?_
           refine W.mv rfl (W.nilCheckO rfl rfl ?_)
           refine W.fieldAddrO rfl rfl ?_
           refine W.loadO (p := iP b2) rfl rfl rfl rfl ?_
           refine W.build (cs := [iP b2, .nils, .nils]) rfl rfl rfl ?_
           refine W.mkSlice (dt := true) (es := [[iP b2, .nils, .nils]]) rfl rfl rfl rfl rfl rfl ?_
           obtain ⟨w44, k58, h⟩ := obind h
           refine W.append (es' := List.map SAtOldNew.cells w1 ++ [[iP b2, .nils, .nils]]) (dt := true) rfl rfl rfl rfl rfl rfl rfl rfl (xapp k58) rfl (by simp) ?_
           refine W.nilCheckO rfl rfl (W.fieldAddrO rfl rfl ?_)
           refine W.store (es' := [[.own 20 2, iP b2, .bool false, iP b3, iP x41, iP b5, iP x42, .bool true]]) (dt := false) rfl rfl rfl rfl rfl (Nat.le_of_ble_eq_true rfl) rfl rfl rfl rfl ?_
           refine W.nilCheckO rfl rfl (W.fieldAddrO rfl rfl ?_)
           refine W.store (es' := [[.own 20 2, iP b2, .bool true, iP b3, iP x41, iP b5, iP x42, .bool true]]) (dt := false) rfl rfl rfl rfl rfl (Nat.le_of_ble_eq_true rfl) rfl rfl rfl rfl ?_
           refine W.nil ⟨rfl, ?_⟩
           refine Ev.seq ?_
           refine W.regD hm ?_
           refine W.mv rfl (W.nilCheckO rfl rfl ?_)
           refine W.fieldAddrO rfl rfl ?_
           refine W.loadO (p := .own 20 2) rfl rfl rfl rfl ?_
           refine W.mv rfl (W.nilCheckO rfl rfl ?_)
           refine W.fieldAddrO rfl rfl ?_
           refine W.loadO (p := .own 20 2) rfl rfl rfl rfl ?_
           refine W.len (n := w1.length + 1) rfl rfl xlen ?_
           obtain ⟨x45, k59, h⟩ := obind h
           refine W.subG rfl rfl k59 ?_
           refine W.idxO (i := w1.length) rfl rfl rfl rfl (xsub k59).1 (xsub k59).2 xlt ?_
           refine W.mv rfl ?_
           refine W.nil ⟨rfl, ?_⟩
           refine Ev.ret ?_
           refine ⟨_, Wk.nA (S := ⟨[(2, .pown 10000 0 (w1.length) 0), (65537, .str s43), (131072, wP 10001), (196610, wP 10002), (196611, wP 10003), (196612, wP 10001), (196613, iP x8), (196616, .str r10.2.1), (196636, .bool (!r10.2.2)), (196637, .str r10.1)], [(10000, eP 45 3 (List.map SAtOldNew.cells w1 ++ [[iP b2, .nils, .nils]])), (10001, ⟨0, 65, 8, [[.own 10000 0, iP b2, .bool true, iP b3, iP x41, iP b5, iP x42, .bool true]], false, false, false⟩), (10002, eP 30 1 [[.nils]]), (10003, eP 25 2 [[iP 0, iP 0]])], 2⟩), ?_⟩
           refine ⟨_, rfl, ?_⟩
           refine Sq.wEnd nb ?_
           refine W.mv rfl (W.nil ?_)
           refine W.reg hm ?_
           refine W.mv rfl (W.mv rfl ?_)
           refine W.nilCheckO rfl rfl (W.fieldAddrO rfl rfl ?_)
           refine W.loadO (p := .nils) rfl rfl xget rfl ?_
           refine W.mv rfl ?_
           refine W.mkSlice (dt := true) (es := [[.str s43]]) rfl rfl rfl rfl rfl rfl ?_
           obtain ⟨w46, k60, h⟩ := obind h
           refine W.appN true (c := cS) (ys := ([s43] : List (List UInt8))) rfl rfl rfl rfl k60 rfl ?_
           refine W.nilCheckO rfl rfl (W.fieldAddrO rfl rfl ?_)
           refine W.store (es' := List.map SAtOldNew.cells w1 ++ [[iP b2, .nils, .own 14 2]]) (cs' := [iP b2, .nils, .own 14 2]) (dt := false) rfl rfl rfl xget rfl (Nat.le_of_ble_eq_true rfl) rfl rfl xset rfl ?_
           refine W.nil ?_
           refine ⟨_, Wk.nrmX (S := ⟨[(65536, wP 10000), (131074, wP 10003), (131075, wP 10004), (131076, wP 10000), (131077, iP x8), (131080, .str r10.2.1), (131100, .bool (!r10.2.2)), (131101, .str r10.1)], [(10000, ⟨0, 65, 8, [[.own 10001 0, iP b2, .bool true, iP b3, iP x41, iP b5, iP x42, .bool true]], false, false, false⟩), (10001, ⟨0, 45, 3, List.map SAtOldNew.cells w1 ++ [[iP b2, .nils, .own 10002 0]], false, false, false⟩), (10002, eP 9 1 (mP w46)), (10003, eP 30 1 [[.nils]]), (10004, eP 25 2 [[iP 0, iP 0]])], 2⟩) [65536, 131074, 131075, 131076, 131077, 131080, 131100, 131101] [(10001, 10000), (10000, 10001), (14, 10002), (10002, 10003), (10003, 10004)] (fun es => ⟨[(65536, wP 10000), (131074, wP 10003), (131075, wP 10004), (131076, wP 10000), (131077, iP x8), (131080, .str r10.2.1), (131100, .bool (!r10.2.2)), (131101, .str r10.1)], [(10000, ⟨0, 65, 8, [[.own 10001 0, iP b2, .bool true, iP b3, iP x41, iP b5, iP x42, .bool true]], false, false, false⟩), (10001, ⟨0, 45, 3, es, false, false, false⟩), (10002, eP 9 1 (mP w46)), (10003, eP 30 1 [[.nils]]), (10004, eP 25 2 [[iP 0, iP 0]])], 2⟩) w1 SAtOldNew.cells [iP b2, .nils, .own 14 2] (fun _ => rfl), ?_⟩
           refine ⟨_, rfl, ?_⟩
           refine Sq.wEnd nb ?_
           refine W.nil ?_
           refine Ev.seq ?_
           refine W.reg hm ?_
           refine W.mv rfl (W.nilCheckO rfl rfl ?_)
           refine W.fieldAddrO rfl rfl ?_
           refine W.loadO (p := iP b3) rfl rfl rfl rfl ?_
           refine W.geq rfl rfl (W.mv rfl ?_)
           refine W.split 110 rfl (fun c61 => ?_) (fun c61 => ?_)
           ·replace h := iteT h c61
            refine W.guardT rfl c61 ?_
            refine W.mv rfl ?_
            refine W.guardT rfl c61 ?_
            refine W.nilCheckO rfl rfl ?_
            refine W.guardT rfl c61 ?_
            refine W.fieldAddrO rfl rfl ?_
            refine W.guardT rfl c61 ?_
            refine W.loadO (p := iP x41) rfl rfl rfl rfl ?_
            refine W.guardT rfl c61 ?_
            refine W.geq rfl rfl ?_
            refine W.pickT rfl rfl rfl c61 ?_
            refine W.mv rfl (W.nil ?_)
            refine Ev.ret ?_
            refine ⟨_, Wk.nrmX (S := ⟨[(4, .bool (decide (0 ≤ x41))), (65538, wP 10000), (65539, wP 10001), (65540, wP 10002), (65541, iP x8), (65544, .str r10.2.1), (65564, .bool (!r10.2.2)), (65565, .str r10.1)], [(10000, eP 30 1 [[.nils]]), (10001, eP 25 2 [[iP 0, iP 0]]), (10002, ⟨0, 65, 8, [[.own 10003 0, iP b2, .bool true, iP b3, iP x41, iP b5, iP x42, .bool true]], false, false, false⟩), (10003, ⟨0, 45, 3, List.map SAtOldNew.cells w1 ++ [[iP b2, .nils, .own 10004 0]], false, false, false⟩), (10004, eP 9 1 (mP w46))], 2⟩) [4, 65538, 65539, 65540, 65541, 65544, 65564, 65565] [(10003, 10000), (10004, 10001), (10000, 10002), (10001, 10003), (10002, 10004)] (fun es => ⟨[(4, .bool (decide (0 ≤ x41))), (65538, wP 10000), (65539, wP 10001), (65540, wP 10002), (65541, iP x8), (65544, .str r10.2.1), (65564, .bool (!r10.2.2)), (65565, .str r10.1)], [(10000, eP 30 1 [[.nils]]), (10001, eP 25 2 [[iP 0, iP 0]]), (10002, ⟨0, 65, 8, [[.own 10003 0, iP b2, .bool true, iP b3, iP x41, iP b5, iP x42, .bool true]], false, false, false⟩), (10003, ⟨0, 45, 3, es, false, false, false⟩), (10004, eP 9 1 (mP w46))], 2⟩) w1 SAtOldNew.cells [iP b2, .nils, .own 10002 0] (fun _ => rfl), ?_⟩
            refine ⟨_, rfl, ?_⟩
            refine Sq.wEnd nb ?_
            refine W.guardT rfl c4 ?_
            refine W.not rfl ?_
            refine W.pickN rfl rfl rfl c4 ?_
            refine W.nil ?_
            refine Ev.cond rfl (fun c62 => ?_) (fun c62 => ?_)
            ·replace h := iteT h c62
             refine Ev.seq ?_
             refine W.reg hm ?_
             refine W.build (cs := [.nils]) rfl rfl rfl ?_
             refine W.mv rfl ?_
             refine W.build (cs := [iP 1, iP x8]) rfl rfl rfl ?_
             refine W.store (es' := [[.nils]]) (dt := true) rfl rfl rfl rfl rfl (Nat.le_of_ble_eq_true rfl) rfl rfl rfl rfl ?_
             refine W.store (es' := [[iP 1, iP x8]]) (dt := true) rfl rfl rfl rfl rfl (Nat.le_of_ble_eq_true rfl) rfl rfl rfl rfl ?_
             refine W.nil ?_
             refine Ev.ret ?_
             injection h with h; subst h
             exact ⟨_, rfl, Le.tups (.cons (Le.aggs (.cons (.nils 3) (.nil)) rfl) (.cons (.refl _) (.nil)))⟩
            ·replace h := iteF h c62
             refine Ev.skip ?_
             refine Ev.seq ?_
             refine W.reg hm ?_
             refine W.mv rfl (W.mv rfl ?_)
             refine W.nil ?_
             refine W.reg hm ?_
             refine W.mv rfl ?_
             obtain ⟨x47, k63, h⟩ := obind h
             refine W.addG rfl rfl k63 ?_
             refine W.mv rfl (W.nil ?_)
             exact ⟨(m1, (some (b2, ([] : List (List UInt8)), w46)), w1, b2, b3, x41, b5, x42, true, x47, r10.2.1), h, Nat.lt_succ_self _, (Wk.ownNilAt (es' := List.map SAtOldNew.cells w1 ++ [[iP b2, .own 20001 2, .own 10004 0]]) 10003 0 w1.length 1 20001 9 1 rfl xget rfl rfl xset rfl (eq_false (by decide)) true).trans (Wk.nrmX [2, 3, 4, 5, 6] [(10000, 10000), (10001, 10001), (10002, 10002), (10003, 10003), (20001, 10090), (10004, 10091)] (fun es => ⟨[(2, wP 10000), (3, wP 10001), (4, wP 10002), (5, iP x47), (6, .str r10.2.1)], [(10000, eP 30 1 [[.nils]]), (10001, eP 25 2 [[iP 0, iP 0]]), (10002, ⟨0, 65, 8, [[.own 10003 0, iP b2, .bool true, iP b3, iP x41, iP b5, iP x42, .bool true]], false, false, false⟩), (10003, ⟨0, 45, 3, es, false, false, false⟩), (10090, eP 9 1 (mP ([] : List (List UInt8)))), (10091, eP 9 1 (mP w46))], 2⟩) w1 SAtOldNew.cells [iP b2, .own 20001 2, .own 10004 0] (fun _ => rfl))⟩
           ·replace h := iteF h c61
            refine W.guardF1 rfl c61 ?_
            refine W.guardF1 rfl c61 ?_
            refine W.guardF1 rfl c61 ?_
            refine W.guardF1 rfl c61 ?_
            refine W.guardF1 rfl c61 ?_
            refine W.pickN rfl rfl rfl c61 ?_
            refine W.mv rfl (W.nil ?_)
            refine Ev.ret ?_
            refine ⟨_, Wk.nrmX (S := ⟨[(4, .bool false), (65538, wP 10000), (65539, wP 10001), (65540, wP 10002), (65541, iP x8), (65544, .str r10.2.1), (65564, .bool (!r10.2.2)), (65565, .str r10.1)], [(10000, eP 30 1 [[.nils]]), (10001, eP 25 2 [[iP 0, iP 0]]), (10002, ⟨0, 65, 8, [[.own 10003 0, iP b2, .bool true, iP b3, iP x41, iP b5, iP x42, .bool true]], false, false, false⟩), (10003, ⟨0, 45, 3, List.map SAtOldNew.cells w1 ++ [[iP b2, .nils, .own 10004 0]], false, false, false⟩), (10004, eP 9 1 (mP w46))], 2⟩) [4, 65538, 65539, 65540, 65541, 65544, 65564, 65565] [(10003, 10000), (10004, 10001), (10000, 10002), (10001, 10003), (10002, 10004)] (fun es => ⟨[(4, .bool false), (65538, wP 10000), (65539, wP 10001), (65540, wP 10002), (65541, iP x8), (65544, .str r10.2.1), (65564, .bool (!r10.2.2)), (65565, .str r10.1)], [(10000, eP 30 1 [[.nils]]), (10001, eP 25 2 [[iP 0, iP 0]]), (10002, ⟨0, 65, 8, [[.own 10003 0, iP b2, .bool true, iP b3, iP x41, iP b5, iP x42, .bool true]], false, false, false⟩), (10003, ⟨0, 45, 3, es, false, false, false⟩), (10004, eP 9 1 (mP w46))], 2⟩) w1 SAtOldNew.cells [iP b2, .nils, .own 10002 0] (fun _ => rfl), ?_⟩
            refine ⟨_, rfl, ?_⟩
            refine Sq.wEnd nb ?_
            refine W.guardT rfl c4 ?_
            refine W.not rfl ?_
            refine W.pickN rfl rfl rfl c4 ?_
            refine W.nil ?_
            refine Ev.condT rfl rfl ?_
            refine Ev.seq ?_
            refine W.reg hm ?_
            refine W.build (cs := [.nils]) rfl rfl rfl ?_
            refine W.mv rfl ?_
            refine W.build (cs := [iP 1, iP x8]) rfl rfl rfl ?_
            refine W.store (es' := [[.nils]]) (dt := true) rfl rfl rfl rfl rfl (Nat.le_of_ble_eq_true rfl) rfl rfl rfl rfl ?_
            refine W.store (es' := [[iP 1, iP x8]]) (dt := true) rfl rfl rfl rfl rfl (Nat.le_of_ble_eq_true rfl) rfl rfl rfl rfl ?_
            refine W.nil ?_
            refine Ev.ret ?_
            injection h with h; subst h
            exact ⟨_, rfl, Le.tups (.cons (Le.aggs (.cons (.nils 3) (.nil)) rfl) (.cons (.refl _) (.nil)))⟩
          ·replace h := iteF h c54
           refine Ev.seq ?_
           refine W.reg hm ?_
           refine W.mv rfl (W.nil ?_)
           refine Ev.ret ?_
           refine ⟨_, Wk.nA (S := ⟨[(4, .bool false), (65538, wP 10000), (65539, wP 10001), (65540, wP 10002), (65541, iP x8), (65544, .str r10.2.1), (65564, .bool (!r10.2.2)), (65565, .str r10.1)], [(10000, eP 30 1 [[.nils]]), (10001, eP 25 2 [[iP 0, iP 0]]), (10002, ⟨0, 65, 8, [[.own 10003 0, iP b2, .bool false, iP b3, iP b4, iP b5, iP b6, .bool b7]], false, false, false⟩), (10003, eP 45 3 (mP w1))], 2⟩), ?_⟩
           refine ⟨_, rfl, ?_⟩
           refine Sq.wEnd nb ?_
           refine W.guardT rfl c4 ?_
           refine W.not rfl ?_
           refine W.pickN rfl rfl rfl c4 ?_
           refine W.nil ?_
           refine Ev.condT rfl rfl ?_
           refine Ev.seq ?_
           refine W.reg hm ?_
           refine W.build (cs := [.nils]) rfl rfl rfl ?_
           refine W.mv rfl ?_
           refine W.build (cs := [iP 1, iP x8]) rfl rfl rfl ?_
           refine W.store (es' := [[.nils]]) (dt := true) rfl rfl rfl rfl rfl (Nat.le_of_ble_eq_true rfl) rfl rfl rfl rfl ?_
           refine W.store (es' := [[iP 1, iP x8]]) (dt := true) rfl rfl rfl rfl rfl (Nat.le_of_ble_eq_true rfl) rfl rfl rfl rfl ?_
           refine W.nil ?_
           refine Ev.ret ?_
           injection h with h; subst h
           exact ⟨_, rfl, Le.tups (.cons (Le.aggs (.cons (.nils 3) (.nil)) rfl) (.cons (.refl _) (.nil)))⟩
    ·replace h := iteF h c2
     refine Ev.exit ?_
     refine Ev.seq (Ev.seq ?_)
     refine W.reg hm ?_
     refine W.fieldAddrO rfl rfl ?_
     refine W.loadO (p := iP b3) rfl rfl rfl rfl ?_
     refine W.fieldAddrO rfl rfl ?_
     refine W.loadO (p := iP b4) rfl rfl rfl rfl ?_
     obtain ⟨x48, k64, h⟩ := obind h
     refine W.addG rfl rfl k64 ?_
     refine W.gtr rfl rfl (W.nil ?_)
     refine Ev.cond rfl (fun c65 => ?_) (fun c65 => ?_)
     ·replace h := iteT h c65
      refine Ev.seq ?_
      refine W.reg hm ?_
      refine W.build (cs := [.nils]) rfl rfl rfl ?_
      refine W.mv rfl ?_
      refine W.build (cs := [iP 1, iP x8]) rfl rfl rfl ?_
      refine W.store (es' := [[.nils]]) (dt := true) rfl rfl rfl rfl rfl (Nat.le_of_ble_eq_true rfl) rfl rfl rfl rfl ?_
      refine W.store (es' := [[iP 1, iP x8]]) (dt := true) rfl rfl rfl rfl rfl (Nat.le_of_ble_eq_true rfl) rfl rfl rfl rfl ?_
      refine W.nil ?_
      refine Ev.ret ?_
      injection h with h; subst h
      exact ⟨_, rfl, Le.tups (.cons (Le.aggs (.cons (.nils 3) (.nil)) rfl) (.cons (.refl _) (.nil)))⟩
     ·replace h := iteF h c65
      refine Ev.skip ?_
      refine Ev.seq ?_
      refine Ev.regS rfl ?_
      refine Sq.w 1 nb ?_
      refine W.fieldAddrO rfl rfl (W.nil ?_)
      refine Sq.call rfl Tryz.c_diff_Collector_Patch ⟨_, rfl, nb, ?_⟩
      unfold Tryz.l_diff_Collector_Patch
      refine Ev.seq ?_
      refine W.reg hm ?_
      refine W.alloc (dt := true) rfl rfl rfl ?_
      refine W.nil ?_
      refine Ev.seq ?_
      refine W.reg hm ?_
      refine W.mv rfl (W.nilCheckO rfl rfl ?_)
      refine W.fieldAddrO rfl rfl ?_
      refine W.loadO (p := .own 10003 0) rfl rfl rfl rfl ?_
      refine W.build (cs := [.own 10003 0]) rfl rfl rfl ?_
      refine W.store (es' := [[.own 10003 0]]) (dt := false) rfl rfl rfl rfl rfl (Nat.le_of_ble_eq_true rfl) rfl rfl rfl rfl ?_
      refine W.nil ?_
      refine Ev.ret ?_
      refine ⟨_, Wk.nA (S := ⟨[(2, wP 10000), (65538, wP 10002), (65539, wP 10003)], [(10000, ⟨0, 30, 1, [[.own 10001 0]], false, false, false⟩), (10001, eP 45 3 (mP w1)), (10002, eP 30 1 [[.nils]]), (10003, eP 25 2 [[iP 0, iP 0]])], 2⟩), ?_⟩
      refine ⟨_, rfl, ?_⟩
      refine Sq.wEnd nb ?_
      refine W.alloc (dt := true) rfl rfl rfl ?_
      refine W.store (es' := [[.own 10001 0]]) (dt := false) rfl rfl rfl rfl rfl (Nat.le_of_ble_eq_true rfl) rfl rfl rfl rfl ?_
      refine W.nil ?_
      refine Ev.seq (Ev.seq ?_)
      refine Ev.weak ?_ (Wk.frz 10001 0 rfl rfl)
      refine W.reg hm ?_
      refine W.loadO (p := .agg [lP w1]) rfl rfl rfl rfl ?_
      obtain ⟨r49, k66, h⟩ := obind h
      refine W.call (textpatch_Second_spec n (⟨w1⟩ : SHunks) (-2) r49 k66) rfl rfl (Les.refl _) rfl (.inl rfl) rfl ?_
      refine W.alloc (dt := true) rfl rfl rfl ?_
      refine W.store (es' := [[iP r49.Code, iP r49.Index]]) (dt := true) rfl rfl rfl rfl rfl (Nat.le_of_ble_eq_true rfl) rfl rfl rfl rfl ?_
      refine W.nil ?_
      refine Ev.seq ?_
      refine W.reg hm ?_
      refine W.loadO (p := .agg [iP r49.Code, iP r49.Index]) rfl rfl rfl rfl ?_
      refine W.build (cs := [iP 0, iP 0]) rfl rfl rfl ?_
      refine W.eqs rfl rfl rfl (W.nil ?_)
      refine Ev.cond rfl (fun c67 => ?_) (fun c67 => ?_)
      ·replace h := iteT h c67
       refine Ev.seq ?_
       refine W.regD hm ?_
       refine W.build (cs := [.nils]) rfl rfl rfl ?_
       refine W.loadO (p := .agg [iP r49.Code, iP r49.Index]) rfl rfl rfl rfl ?_
       refine W.store (es' := [[.nils]]) (dt := true) rfl rfl rfl rfl rfl (Nat.le_of_ble_eq_true rfl) rfl rfl rfl rfl ?_
       refine W.store (es' := [[iP r49.Code, iP r49.Index]]) (dt := true) rfl rfl rfl rfl rfl (Nat.le_of_ble_eq_true rfl) rfl rfl rfl rfl ?_
       refine W.nil ⟨rfl, ?_⟩
       refine Ev.ret ?_
       injection h with h; subst h
       exact ⟨_, rfl, Le.tups (.cons (Le.aggs (.cons (.nils 3) (.nil)) rfl) (.cons (.refl _) (.nil)))⟩
      ·replace h := iteF h c67
       refine Ev.skip ?_
       refine Ev.seq ?_
       refine W.reg hm ?_
       refine W.loadO (p := .agg [lP w1]) rfl rfl rfl rfl ?_
       refine W.build (cs := [iP 0, iP 0]) rfl rfl rfl ?_
       refine W.store (es' := [[lP w1]]) (dt := true) rfl rfl rfl rfl rfl (Nat.le_of_ble_eq_true rfl) rfl rfl rfl rfl ?_
       refine W.store (es' := [[iP 0, iP 0]]) (dt := true) rfl rfl rfl rfl rfl (Nat.le_of_ble_eq_true rfl) rfl rfl rfl rfl ?_
       refine W.nil ?_
       refine Ev.ret ?_
       injection h with h; subst h
       exact ⟨_, rfl, .refl _⟩
   | some x9 =>
    obtain ⟨xa, xo, xn⟩ := x9
    rw [unified_Parse_l1] at h
    dsimp only
    refine Ev.seq (Ev.seq ?_)
    refine W.reg hm ?_
    refine W.mv rfl (W.sneq rfl rfl ?_)
    refine W.nil ?_
    refine Ev.cond rfl (fun c68 => ?_) (fun c68 => ?_)
    ·replace h := iteT h c68
     refine Ev.skip ?_
     refine Ev.block ?_
     refine Ev.seq ?_
     refine W.reg hm ?_
     refine W.mv rfl ?_
     obtain ⟨r50, k69, h⟩ := obind h
     refine W.call (strings_Cut_spec n x9 ([10] : List UInt8) r50 k69) rfl rfl (Les.refl _) rfl (.inl rfl) rfl ?_
     refine W.mv rfl (W.extract rfl rfl ?_)
     refine W.extract rfl rfl (W.extract rfl rfl ?_)
     refine W.mv rfl (W.mv rfl ?_)
     refine W.mv rfl (W.nil ?_)
     refine Ev.seq (Ev.seq ?_)
     refine Ev.regS rfl ?_
     refine Sq.w 4 nb ?_
     refine W.mv rfl (W.not rfl ?_)
     refine W.mv rfl ?_
     refine W.split 28 rfl (fun c70 => ?_) (fun c70 => ?_)
     ·replace h := iteT h c70
      refine W.guardF2 rfl c70 ?_
      refine W.nil ?_
      refine Sq.off rfl (.inl (lookT rfl c70)) ?_
      refine Sq.wEnd nb ?_
      refine W.guardF2 rfl c70 ?_
      refine W.pickT rfl rfl rfl c70 ?_
      refine W.nil ?_
      refine Ev.condT rfl rfl ?_
      refine Ev.seq ?_
      refine W.reg hm ?_
      refine W.build (cs := [.nils]) rfl rfl rfl ?_
      refine W.mv rfl ?_
      refine W.build (cs := [iP 1, iP x8]) rfl rfl rfl ?_
      refine W.store (es' := [[.nils]]) (dt := true) rfl rfl rfl rfl rfl (Nat.le_of_ble_eq_true rfl) rfl rfl rfl rfl ?_
      refine W.store (es' := [[iP 1, iP x8]]) (dt := true) rfl rfl rfl rfl rfl (Nat.le_of_ble_eq_true rfl) rfl rfl rfl rfl ?_
      refine W.nil ?_
      refine Ev.ret ?_
      injection h with h; subst h
      exact ⟨_, rfl, Le.tups (.cons (Le.aggs (.cons (.nils 3) (.nil)) rfl) (.cons (.refl _) (.nil)))⟩
     ·replace h := iteF h c70
      refine W.guardT rfl c70 ?_
      refine W.mv rfl (W.nil ?_)
      refine Sq.callG rfl Tryz.c_unified_parser_line (lookT rfl c70) ⟨_, rfl, nb, ?_⟩
      unfold Tryz.l_unified_parser_line
      refine Ev.seq ?_
      refine W.reg hm ?_
      refine W.mv rfl (W.nil ?_)
      refine Ev.seq (Ev.seq ?_)
      refine W.regD hm ?_
      refine W.mv rfl (W.nilCheckO rfl rfl ?_)
      refine W.fieldAddrO rfl rfl ?_
      refine W.loadO (p := iP b3) rfl rfl rfl rfl ?_
      refine W.mv rfl (W.nilCheckO rfl rfl ?_)
      refine W.fieldAddrO rfl rfl ?_
      refine W.loadO (p := iP b4) rfl rfl rfl rfl ?_
      obtain ⟨x51, k71, h⟩ := obind h
      refine W.addG rfl rfl k71 ?_
      refine W.eql rfl rfl ?_
      refine W.nil ⟨rfl, ?_⟩
      refine Ev.cond rfl (fun c72 => ?_) (fun c72 => ?_)
      ·replace h := iteT h c72
       refine Ev.seq ?_
       refine Ev.regS rfl ?_
       refine Sq.w 2 nb ?_
       refine W.mv rfl (W.mv rfl ?_)
       refine W.nil ?_
       refine Sq.call rfl Tryz.c_unified_parser_header ⟨_, rfl, nb, ?_⟩
       unfold Tryz.l_unified_parser_header
       refine Ev.seq ?_
       refine W.reg hm ?_
       refine W.mv rfl (W.nil ?_)
       refine Ev.seq ?_
       refine W.reg hm ?_
       refine W.mv rfl ?_
       obtain ⟨r52, k73, h⟩ := obind h
       refine W.call (strings_CutPrefix_spec n r50.1 ([64, 64, 32, 45] : List UInt8) r52 k73) rfl rfl (Les.refl _) rfl (.inl rfl) rfl ?_
       refine W.mv rfl (W.extract rfl rfl ?_)
       refine W.extract rfl rfl (W.mv rfl ?_)
       refine W.mv rfl (W.nil ?_)
       refine Ev.seq (Ev.seq ?_)
       refine W.reg hm ?_
       refine W.mv rfl (W.not rfl ?_)
       refine W.nil ?_
       refine Ev.cond rfl (fun c74 => ?_) (fun c74 => ?_)
       ·replace h := iteT h c74
        refine Ev.seq ?_
        refine W.reg hm ?_
        refine W.mv rfl (W.nil ?_)
        refine Ev.ret ?_
        refine ⟨_, Wk.nrmX (S := ⟨[(4, .bool false), (65540, .bool false), (131074, wP 10000), (131075, wP 10001), (131076, wP 10002), (131077, iP x8), (131080, .str r50.2.1), (131100, .bool (!r50.2.2)), (131101, .str r50.1)], [(10000, eP 30 1 [[.nils]]), (10001, eP 25 2 [[iP 0, iP 0]]), (10002, ⟨0, 65, 8, [[.own 10003 0, iP b2, .bool true, iP b3, iP b4, iP b5, iP b6, .bool b7]], false, false, false⟩), (10003, ⟨0, 45, 3, List.map SAtOldNew.cells w1 ++ [[iP xa, .own 10004 0, .own 10005 0]], false, false, false⟩), (10004, eP 9 1 (mP xo)), (10005, eP 9 1 (mP xn))], 2⟩) [4, 65540, 131074, 131075, 131076, 131077, 131080, 131100, 131101] [(10000, 10000), (10001, 10001), (10002, 10002), (10003, 10003), (10090, 10004), (10091, 10005)] (fun es => ⟨[(4, .bool false), (65540, .bool false), (131074, wP 10000), (131075, wP 10001), (131076, wP 10002), (131077, iP x8), (131080, .str r50.2.1), (131100, .bool (!r50.2.2)), (131101, .str r50.1)], [(10000, eP 30 1 [[.nils]]), (10001, eP 25 2 [[iP 0, iP 0]]), (10002, ⟨0, 65, 8, [[.own 10003 0, iP b2, .bool true, iP b3, iP b4, iP b5, iP b6, .bool b7]], false, false, false⟩), (10003, ⟨0, 45, 3, es, false, false, false⟩), (10004, eP 9 1 (mP xo)), (10005, eP 9 1 (mP xn))], 2⟩) w1 SAtOldNew.cells [iP xa, .own 10090 0, .own 10091 0] (fun _ => rfl), ?_⟩
        refine ⟨_, rfl, ?_⟩
        refine Sq.wEnd nb ?_
        refine W.mv rfl (W.nil ?_)
        refine Ev.ret ?_
        refine ⟨_, Wk.nrmX (S := ⟨[(4, .bool false), (65538, wP 10000), (65539, wP 10001), (65540, wP 10002), (65541, iP x8), (65544, .str r50.2.1), (65564, .bool (!r50.2.2)), (65565, .str r50.1)], [(10000, eP 30 1 [[.nils]]), (10001, eP 25 2 [[iP 0, iP 0]]), (10002, ⟨0, 65, 8, [[.own 10003 0, iP b2, .bool true, iP b3, iP b4, iP b5, iP b6, .bool b7]], false, false, false⟩), (10003, ⟨0, 45, 3, List.map SAtOldNew.cells w1 ++ [[iP xa, .own 10004 0, .own 10005 0]], false, false, false⟩), (10004, eP 9 1 (mP xo)), (10005, eP 9 1 (mP xn))], 2⟩) [4, 65538, 65539, 65540, 65541, 65544, 65564, 65565] [(10000, 10000), (10001, 10001), (10002, 10002), (10003, 10003), (10004, 10004), (10005, 10005)] (fun es => ⟨[(4, .bool false), (65538, wP 10000), (65539, wP 10001), (65540, wP 10002), (65541, iP x8), (65544, .str r50.2.1), (65564, .bool (!r50.2.2)), (65565, .str r50.1)], [(10000, eP 30 1 [[.nils]]), (10001, eP 25 2 [[iP 0, iP 0]]), (10002, ⟨0, 65, 8, [[.own 10003 0, iP b2, .bool true, iP b3, iP b4, iP b5, iP b6, .bool b7]], false, false, false⟩), (10003, ⟨0, 45, 3, es, false, false, false⟩), (10004, eP 9 1 (mP xo)), (10005, eP 9 1 (mP xn))], 2⟩) w1 SAtOldNew.cells [iP xa, .own 10004 0, .own 10005 0] (fun _ => rfl), ?_⟩
        refine ⟨_, rfl, ?_⟩
        refine Sq.wEnd nb ?_
        refine W.guardT rfl c70 ?_
        refine W.not rfl ?_
        refine W.pickN rfl rfl rfl c70 ?_
        refine W.nil ?_
        refine Ev.condT rfl rfl ?_
        refine Ev.seq ?_
        refine W.reg hm ?_
        refine W.build (cs := [.nils]) rfl rfl rfl ?_
        refine W.mv rfl ?_
        refine W.build (cs := [iP 1, iP x8]) rfl rfl rfl ?_
        refine W.store (es' := [[.nils]]) (dt := true) rfl rfl rfl rfl rfl (Nat.le_of_ble_eq_true rfl) rfl rfl rfl rfl ?_
        refine W.store (es' := [[iP 1, iP x8]]) (dt := true) rfl rfl rfl rfl rfl (Nat.le_of_ble_eq_true rfl) rfl rfl rfl rfl ?_
        refine W.nil ?_
        refine Ev.ret ?_
        injection h with h; subst h
        exact ⟨_, rfl, Le.tups (.cons (Le.aggs (.cons (.nils 3) (.nil)) rfl) (.cons (.refl _) (.nil)))⟩
       ·replace h := iteF h c74
        refine Ev.skip ?_
        refine Ev.seq ?_
        refine W.reg hm ?_
        refine W.alloc (dt := true) rfl rfl rfl ?_
        refine W.nil ?_
        refine Ev.seq (Ev.seq ?_)
        refine W.reg hm ?_
        refine W.build (cs := [.str ([44] : List UInt8), .str ([32, 43] : List UInt8), .str ([44] : List UInt8), .str ([32, 64, 64] : List UInt8)]) rfl rfl rfl ?_
        refine W.mv rfl (W.nil ?_)
        refine Ev.block ?_
        refine Ev.unroll 5 ?_
        refine EvR.go ?_
        refine Ev.seq ?_
        refine W.reg hm ?_
        refine W.lss rfl rfl (W.nil ?_)
        refine Ev.seq ?_
        refine Ev.condT rfl rfl ?_
        refine Ev.skip ?_
        refine Ev.seq ?_
        refine Ev.block ?_
        refine Ev.seq ?_
        refine W.reg hm ?_
        refine W.mv rfl ?_
        refine W.vidx rfl rfl (by decide) (by decide) rfl ?_
        refine W.mv rfl (W.mv rfl ?_)
        refine W.nil ?_
        refine Ev.seq ?_
        refine W.reg hm ?_
        refine W.mv rfl (W.mv rfl ?_)
        refine W.mv rfl ?_
        obtain ⟨r53, k75, h⟩ := obind h
        refine W.call (unified_number_spec n r52.1 ([44] : List UInt8) r53 k75) rfl rfl (Les.refl _) rfl (.inl rfl) rfl ?_
        refine W.mv rfl (W.extract rfl rfl ?_)
        refine W.extract rfl rfl (W.extract rfl rfl ?_)
        refine W.idxAO (n := 0) rfl rfl rfl (by decide) rfl (by decide) ?_
        refine W.store (es' := [[iP r53.1, iP 0, iP 0, iP 0]]) (dt := true) rfl rfl rfl rfl rfl (Nat.le_of_ble_eq_true rfl) rfl rfl rfl rfl ?_
        refine W.mv rfl (W.mv rfl ?_)
        refine W.nil ?_
        refine Ev.seq ?_
        refine W.reg hm ?_
        refine W.mv rfl (W.not rfl ?_)
        refine W.nil ?_
        refine Ev.cond rfl (fun c76 => ?_) (fun c76 => ?_)
        ·replace h := iteT h c76
         refine Ev.seq ?_
         refine W.reg hm ?_
         refine W.mv rfl (W.nil ?_)
         refine Ev.ret ?_
         refine ⟨_, Wk.nrmX (S := ⟨[(4, .bool false), (65540, .bool false), (131074, wP 10000), (131075, wP 10001), (131076, wP 10002), (131077, iP x8), (131080, .str r50.2.1), (131100, .bool (!r50.2.2)), (131101, .str r50.1)], [(10000, eP 30 1 [[.nils]]), (10001, eP 25 2 [[iP 0, iP 0]]), (10002, ⟨0, 65, 8, [[.own 10003 0, iP b2, .bool true, iP b3, iP b4, iP b5, iP b6, .bool b7]], false, false, false⟩), (10003, ⟨0, 45, 3, List.map SAtOldNew.cells w1 ++ [[iP xa, .own 10004 0, .own 10005 0]], false, false, false⟩), (10004, eP 9 1 (mP xo)), (10005, eP 9 1 (mP xn))], 2⟩) [4, 65540, 131074, 131075, 131076, 131077, 131080, 131100, 131101] [(10000, 10000), (10001, 10001), (10002, 10002), (10003, 10003), (10090, 10004), (10091, 10005)] (fun es => ⟨[(4, .bool false), (65540, .bool false), (131074, wP 10000), (131075, wP 10001), (131076, wP 10002), (131077, iP x8), (131080, .str r50.2.1), (131100, .bool (!r50.2.2)), (131101, .str r50.1)], [(10000, eP 30 1 [[.nils]]), (10001, eP 25 2 [[iP 0, iP 0]]), (10002, ⟨0, 65, 8, [[.own 10003 0, iP b2, .bool true, iP b3, iP b4, iP b5, iP b6, .bool b7]], false, false, false⟩), (10003, ⟨0, 45, 3, es, false, false, false⟩), (10004, eP 9 1 (mP xo)), (10005, eP 9 1 (mP xn))], 2⟩) w1 SAtOldNew.cells [iP xa, .own 10090 0, .own 10091 0] (fun _ => rfl), ?_⟩
         refine ⟨_, rfl, ?_⟩
         refine Sq.wEnd nb ?_
         refine W.mv rfl (W.nil ?_)
         refine Ev.ret ?_
         refine ⟨_, Wk.nrmX (S := ⟨[(4, .bool false), (65538, wP 10000), (65539, wP 10001), (65540, wP 10002), (65541, iP x8), (65544, .str r50.2.1), (65564, .bool (!r50.2.2)), (65565, .str r50.1)], [(10000, eP 30 1 [[.nils]]), (10001, eP 25 2 [[iP 0, iP 0]]), (10002, ⟨0, 65, 8, [[.own 10003 0, iP b2, .bool true, iP b3, iP b4, iP b5, iP b6, .bool b7]], false, false, false⟩), (10003, ⟨0, 45, 3, List.map SAtOldNew.cells w1 ++ [[iP xa, .own 10004 0, .own 10005 0]], false, false, false⟩), (10004, eP 9 1 (mP xo)), (10005, eP 9 1 (mP xn))], 2⟩) [4, 65538, 65539, 65540, 65541, 65544, 65564, 65565] [(10000, 10000), (10001, 10001), (10002, 10002), (10003, 10003), (10004, 10004), (10005, 10005)] (fun es => ⟨[(4, .bool false), (65538, wP 10000), (65539, wP 10001), (65540, wP 10002), (65541, iP x8), (65544, .str r50.2.1), (65564, .bool (!r50.2.2)), (65565, .str r50.1)], [(10000, eP 30 1 [[.nils]]), (10001, eP 25 2 [[iP 0, iP 0]]), (10002, ⟨0, 65, 8, [[.own 10003 0, iP b2, .bool true, iP b3, iP b4, iP b5, iP b6, .bool b7]], false, false, false⟩), (10003, ⟨0, 45, 3, es, false, false, false⟩), (10004, eP 9 1 (mP xo)), (10005, eP 9 1 (mP xn))], 2⟩) w1 SAtOldNew.cells [iP xa, .own 10004 0, .own 10005 0] (fun _ => rfl), ?_⟩
         refine ⟨_, rfl, ?_⟩
         refine Sq.wEnd nb ?_
         refine W.guardT rfl c70 ?_
         refine W.not rfl ?_
         refine W.pickN rfl rfl rfl c70 ?_
         refine W.nil ?_
         refine Ev.condT rfl rfl ?_
         refine Ev.seq ?_
         refine W.reg hm ?_
         refine W.build (cs := [.nils]) rfl rfl rfl ?_
         refine W.mv rfl ?_
         refine W.build (cs := [iP 1, iP x8]) rfl rfl rfl ?_
         refine W.store (es' := [[.nils]]) (dt := true) rfl rfl rfl rfl rfl (Nat.le_of_ble_eq_true rfl) rfl rfl rfl rfl ?_
         refine W.store (es' := [[iP 1, iP x8]]) (dt := true) rfl rfl rfl rfl rfl (Nat.le_of_ble_eq_true rfl) rfl rfl rfl rfl ?_
         refine W.nil ?_
         refine Ev.ret ?_
         injection h with h; subst h
         exact ⟨_, rfl, Le.tups (.cons (Le.aggs (.cons (.nils 3) (.nil)) rfl) (.cons (.refl _) (.nil)))⟩
        ·replace h := iteF h c76
         refine Ev.skip ?_
         refine W.reg hm ?_
         refine W.addG rfl rfl (show gadd 0 1 = some 1 from rfl) ?_
         refine W.mv rfl (W.nil ?_)
         refine EvR.go ?_
         refine Ev.seq ?_
         refine W.reg hm ?_
         refine W.lss rfl rfl (W.nil ?_)
         refine Ev.seq ?_
         refine Ev.condT rfl rfl ?_
         refine Ev.skip ?_
         refine Ev.seq ?_
         refine Ev.block ?_
         refine Ev.seq ?_
         refine W.reg hm ?_
         refine W.mv rfl ?_
         refine W.vidx rfl rfl (by decide) (by decide) rfl ?_
         refine W.mv rfl (W.mv rfl ?_)
         refine W.nil ?_
         refine Ev.seq ?_
         refine W.reg hm ?_
         refine W.mv rfl (W.mv rfl ?_)
         refine W.mv rfl ?_
         obtain ⟨r54, k77, h⟩ := obind h
         refine W.call (unified_number_spec n r53.2.1 ([32, 43] : List UInt8) r54 k77) rfl rfl (Les.refl _) rfl (.inl rfl) rfl ?_
         refine W.mv rfl (W.extract rfl rfl ?_)
         refine W.extract rfl rfl (W.extract rfl rfl ?_)
         refine W.idxAO (n := 1) rfl rfl rfl (by decide) rfl (by decide) ?_
         refine W.store (es' := [[iP r53.1, iP r54.1, iP 0, iP 0]]) (dt := true) rfl rfl rfl rfl rfl (Nat.le_of_ble_eq_true rfl) rfl rfl rfl rfl ?_
         refine W.mv rfl (W.mv rfl ?_)
         refine W.nil ?_
         refine Ev.seq ?_
         refine W.reg hm ?_
         refine W.mv rfl (W.not rfl ?_)
         refine W.nil ?_
         refine Ev.cond rfl (fun c78 => ?_) (fun c78 => ?_)
         ·replace h := iteT h c78
          refine Ev.seq ?_
          refine W.reg hm ?_
          refine W.mv rfl (W.nil ?_)
          refine Ev.ret ?_
          refine ⟨_, Wk.nrmX (S := ⟨[(4, .bool false), (65540, .bool false), (131074, wP 10000), (131075, wP 10001), (131076, wP 10002), (131077, iP x8), (131080, .str r50.2.1), (131100, .bool (!r50.2.2)), (131101, .str r50.1)], [(10000, eP 30 1 [[.nils]]), (10001, eP 25 2 [[iP 0, iP 0]]), (10002, ⟨0, 65, 8, [[.own 10003 0, iP b2, .bool true, iP b3, iP b4, iP b5, iP b6, .bool b7]], false, false, false⟩), (10003, ⟨0, 45, 3, List.map SAtOldNew.cells w1 ++ [[iP xa, .own 10004 0, .own 10005 0]], false, false, false⟩), (10004, eP 9 1 (mP xo)), (10005, eP 9 1 (mP xn))], 2⟩) [4, 65540, 131074, 131075, 131076, 131077, 131080, 131100, 131101] [(10000, 10000), (10001, 10001), (10002, 10002), (10003, 10003), (10090, 10004), (10091, 10005)] (fun es => ⟨[(4, .bool false), (65540, .bool false), (131074, wP 10000), (131075, wP 10001), (131076, wP 10002), (131077, iP x8), (131080, .str r50.2.1), (131100, .bool (!r50.2.2)), (131101, .str r50.1)], [(10000, eP 30 1 [[.nils]]), (10001, eP 25 2 [[iP 0, iP 0]]), (10002, ⟨0, 65, 8, [[.own 10003 0, iP b2, .bool true, iP b3, iP b4, iP b5, iP b6, .bool b7]], false, false, false⟩), (10003, ⟨0, 45, 3, es, false, false, false⟩), (10004, eP 9 1 (mP xo)), (10005, eP 9 1 (mP xn))], 2⟩) w1 SAtOldNew.cells [iP xa, .own 10090 0, .own 10091 0] (fun _ => rfl), ?_⟩
          refine ⟨_, rfl, ?_⟩
          refine Sq.wEnd nb ?_
          refine W.mv rfl (W.nil ?_)
          refine Ev.ret ?_
          refine ⟨_, Wk.nrmX (S := ⟨[(4, .bool false), (65538, wP 10000), (65539, wP 10001), (65540, wP 10002), (65541, iP x8), (65544, .str r50.2.1), (65564, .bool (!r50.2.2)), (65565, .str r50.1)], [(10000, eP 30 1 [[.nils]]), (10001, eP 25 2 [[iP 0, iP 0]]), (10002, ⟨0, 65, 8, [[.own 10003 0, iP b2, .bool true, iP b3, iP b4, iP b5, iP b6, .bool b7]], false, false, false⟩), (10003, ⟨0, 45, 3, List.map SAtOldNew.cells w1 ++ [[iP xa, .own 10004 0, .own 10005 0]], false, false, false⟩), (10004, eP 9 1 (mP xo)), (10005, eP 9 1 (mP xn))], 2⟩) [4, 65538, 65539, 65540, 65541, 65544, 65564, 65565] [(10000, 10000), (10001, 10001), (10002, 10002), (10003, 10003), (10004, 10004), (10005, 10005)] (fun es => ⟨[(4, .bool false), (65538, wP 10000), (65539, wP 10001), (65540, wP 10002), (65541, iP x8), (65544, .str r50.2.1), (65564, .bool (!r50.2.2)), (65565, .str r50.1)], [(10000, eP 30 1 [[.nils]]), (10001, eP 25 2 [[iP 0, iP 0]]), (10002, ⟨0, 65, 8, [[.own 10003 0, iP b2, .bool true, iP b3, iP b4, iP b5, iP b6, .bool b7]], false, false, false⟩), (10003, ⟨0, 45, 3, es, false, false, false⟩), (10004, eP 9 1 (mP xo)), (10005, eP 9 1 (mP xn))], 2⟩) w1 SAtOldNew.cells [iP xa, .own 10004 0, .own 10005 0] (fun _ => rfl), ?_⟩
          refine ⟨_, rfl, ?_⟩
          refine Sq.wEnd nb ?_
          refine W.guardT rfl c70 ?_
          refine W.not rfl ?_
          refine W.pickN rfl rfl rfl c70 ?_
          refine W.nil ?_
          refine Ev.condT rfl rfl ?_
          refine Ev.seq ?_
          refine W.reg hm ?_
          refine W.build (cs := [.nils]) rfl rfl rfl ?_
          refine W.mv rfl ?_
          refine W.build (cs := [iP 1, iP x8]) rfl rfl rfl ?_
          refine W.store (es' := [[.nils]]) (dt := true) rfl rfl rfl rfl rfl (Nat.le_of_ble_eq_true rfl) rfl rfl rfl rfl ?_
          refine W.store (es' := [[iP 1, iP x8]]) (dt := true) rfl rfl rfl rfl rfl (Nat.le_of_ble_eq_true rfl) rfl rfl rfl rfl ?_
          refine W.nil ?_
          refine Ev.ret ?_
          injection h with h; subst h
          exact ⟨_, rfl, Le.tups (.cons (Le.aggs (.cons (.nils 3) (.nil)) rfl) (.cons (.refl _) (.nil)))⟩
         ·replace h := iteF h c78
          refine Ev.skip ?_
          refine W.reg hm ?_
          refine W.addG rfl rfl (show gadd 1 1 = some 2 from rfl) ?_
          refine W.mv rfl (W.nil ?_)
          refine EvR.go ?_
          refine Ev.seq ?_
          refine W.reg hm ?_
          refine W.lss rfl rfl (W.nil ?_)
          refine Ev.seq ?_
          refine Ev.condT rfl rfl ?_
          refine Ev.skip ?_
          refine Ev.seq ?_
          refine Ev.block ?_
          refine Ev.seq ?_
          refine W.reg hm ?_
          refine W.mv rfl ?_
          refine W.vidx rfl rfl (by decide) (by decide) rfl ?_
          refine W.mv rfl (W.mv rfl ?_)
          refine W.nil ?_
          refine Ev.seq ?_
          refine W.reg hm ?_
          refine W.mv rfl (W.mv rfl ?_)
          refine W.mv rfl ?_
          obtain ⟨r55, k79, h⟩ := obind h
          refine W.call (unified_number_spec n r54.2.1 ([44] : List UInt8) r55 k79) rfl rfl (Les.refl _) rfl (.inl rfl) rfl ?_
          refine W.mv rfl (W.extract rfl rfl ?_)
          refine W.extract rfl rfl (W.extract rfl rfl ?_)
          refine W.idxAO (n := 2) rfl rfl rfl (by decide) rfl (by decide) ?_
          refine W.store (es' := [[iP r53.1, iP r54.1, iP r55.1, iP 0]]) (dt := true) rfl rfl rfl rfl rfl (Nat.le_of_ble_eq_true rfl) rfl rfl rfl rfl ?_
          refine W.mv rfl (W.mv rfl ?_)
          refine W.nil ?_
          refine Ev.seq ?_
          refine W.reg hm ?_
          refine W.mv rfl (W.not rfl ?_)
          refine W.nil ?_
          refine Ev.cond rfl (fun c80 => ?_) (fun c80 => ?_)
          ·replace h := iteT h c80
           refine Ev.seq ?_
           refine W.reg hm ?_
           refine W.mv rfl (W.nil ?_)
           refine Ev.ret ?_
           refine ⟨_, Wk.nrmX (S := ⟨[(4, .bool false), (65540, .bool false), (131074, wP 10000), (131075, wP 10001), (131076, wP 10002), (131077, iP x8), (131080, .str r50.2.1), (131100, .bool (!r50.2.2)), (131101, .str r50.1)], [(10000, eP 30 1 [[.nils]]), (10001, eP 25 2 [[iP 0, iP 0]]), (10002, ⟨0, 65, 8, [[.own 10003 0, iP b2, .bool true, iP b3, iP b4, iP b5, iP b6, .bool b7]], false, false, false⟩), (10003, ⟨0, 45, 3, List.map SAtOldNew.cells w1 ++ [[iP xa, .own 10004 0, .own 10005 0]], false, false, false⟩), (10004, eP 9 1 (mP xo)), (10005, eP 9 1 (mP xn))], 2⟩) [4, 65540, 131074, 131075, 131076, 131077, 131080, 131100, 131101] [(10000, 10000), (10001, 10001), (10002, 10002), (10003, 10003), (10090, 10004), (10091, 10005)] (fun es => ⟨[(4, .bool false), (65540, .bool false), (131074, wP 10000), (131075, wP 10001), (131076, wP 10002), (131077, iP x8), (131080, .str r50.2.1), (131100, .bool (!r50.2.2)), (131101, .str r50.1)], [(10000, eP 30 1 [[.nils]]), (10001, eP 25 2 [[iP 0, iP 0]]), (10002, ⟨0, 65, 8, [[.own 10003 0, iP b2, .bool true, iP b3, iP b4, iP b5, iP b6, .bool b7]], false, false, false⟩), (10003, ⟨0, 45, 3, es, false, false, false⟩), (10004, eP 9 1 (mP xo)), (10005, eP 9 1 (mP xn))], 2⟩) w1 SAtOldNew.cells [iP xa, .own 10090 0, .own 10091 0] (fun _ => rfl), ?_⟩
           refine ⟨_, rfl, ?_⟩
           refine Sq.wEnd nb ?_
           refine W.mv rfl (W.nil ?_)
           refine Ev.ret ?_
           refine ⟨_, Wk.nrmX (S := ⟨[(4, .bool false), (65538, wP 10000), (65539, wP 10001), (65540, wP 10002), (65541, iP x8), (65544, .str r50.2.1), (65564, .bool (!r50.2.2)), (65565, .str r50.1)], [(10000, eP 30 1 [[.nils]]), (10001, eP 25 2 [[iP 0, iP 0]]), (10002, ⟨0, 65, 8, [[.own 10003 0, iP b2, .bool true, iP b3, iP b4, iP b5, iP b6, .bool b7]], false, false, false⟩), (10003, ⟨0, 45, 3, List.map SAtOldNew.cells w1 ++ [[iP xa, .own 10004 0, .own 10005 0]], false, false, false⟩), (10004, eP 9 1 (mP xo)), (10005, eP 9 1 (mP xn))], 2⟩) [4, 65538, 65539, 65540, 65541, 65544, 65564, 65565] [(10000, 10000), (10001, 10001), (10002, 10002), (10003, 10003), (10004, 10004), (10005, 10005)] (fun es => ⟨[(4, .bool false), (65538, wP 10000), (65539, wP 10001), (65540, wP 10002), (65541, iP x8), (65544, .str r50.2.1), (65564, .bool (!r50.2.2)), (65565, .str r50.1)], [(10000, eP 30 1 [[.nils]]), (10001, eP 25 2 [[iP 0, iP 0]]), (10002, ⟨0, 65, 8, [[.own 10003 0, iP b2, .bool true, iP b3, iP b4, iP b5, iP b6, .bool b7]], false, false, false⟩), (10003, ⟨0, 45, 3, es, false, false, false⟩), (10004, eP 9 1 (mP xo)), (10005, eP 9 1 (mP xn))], 2⟩) w1 SAtOldNew.cells [iP xa, .own 10004 0, .own 10005 0] (fun _ => rfl), ?_⟩
           refine ⟨_, rfl, ?_⟩
           refine Sq.wEnd nb ?_
           refine W.guardT rfl c70 ?_
           refine W.not rfl ?_
           refine W.pickN rfl rfl rfl c70 ?_
           refine W.nil ?_
           refine Ev.condT rfl rfl ?_
           refine Ev.seq ?_
           refine W.reg hm ?_
           refine W.build (cs := [.nils]) rfl rfl rfl ?_
           refine W.mv rfl ?_
           refine W.build (cs := [iP 1, iP x8]) rfl rfl rfl ?_
           refine W.store (es' := [[.nils]]) (dt := true) rfl rfl rfl rfl rfl (Nat.le_of_ble_eq_true rfl) rfl rfl rfl rfl ?_
           refine W.store (es' := [[iP 1, iP x8]]) (dt := true) rfl rfl rfl rfl rfl (Nat.le_of_ble_eq_true rfl) rfl rfl rfl rfl ?_
           refine W.nil ?_
           refine Ev.ret ?_
           injection h with h; subst h
           exact ⟨_, rfl, Le.tups (.cons (Le.aggs (.cons (.nils 3) (.nil)) rfl) (.cons (.refl _) (.nil)))⟩
          ·replace h := iteF h c80
           refine Ev.skip ?_
           refine W.reg hm ?_
           refine W.addG rfl rfl (show gadd 2 1 = some 3 from rfl) ?_
           refine W.mv rfl (W.nil ?_)
           refine EvR.go ?_
           refine Ev.seq ?_
           refine W.reg hm ?_
           refine W.lss rfl rfl (W.nil ?_)
           refine Ev.seq ?_
           refine Ev.condT rfl rfl ?_
           refine Ev.skip ?_
           refine Ev.seq ?_
           refine Ev.block ?_
           refine Ev.seq ?_
           refine W.reg hm ?_
           refine W.mv rfl ?_
           refine W.vidx rfl rfl (by decide) (by decide) rfl ?_
           refine W.mv rfl (W.mv rfl ?_)
           refine W.nil ?_
           refine Ev.seq ?_
           refine W.reg hm ?_
           refine W.mv rfl (W.mv rfl ?_)
           refine W.mv rfl ?_
           obtain ⟨r56, k81, h⟩ := obind h
           refine W.call (unified_number_spec n r55.2.1 ([32, 64, 64] : List UInt8) r56 k81) rfl rfl (Les.refl _) rfl (.inl rfl) rfl ?_
           refine W.mv rfl (W.extract rfl rfl ?_)
           refine W.extract rfl rfl (W.extract rfl rfl ?_)
           refine W.idxAO (n := 3) rfl rfl rfl (by decide) rfl (by decide) ?_
           refine W.store (es' := [[iP r53.1, iP r54.1, iP r55.1, iP r56.1]]) (dt := true) rfl rfl rfl rfl rfl (Nat.le_of_ble_eq_true rfl) rfl rfl rfl rfl ?_
           refine W.mv rfl (W.mv rfl ?_)
           refine W.nil ?_
           refine Ev.seq ?_
           refine W.reg hm ?_
           refine W.mv rfl (W.not rfl ?_)
           refine W.nil ?_
           refine Ev.cond rfl (fun c82 => ?_) (fun c82 => ?_)
           ·replace h := iteT h c82
            refine Ev.seq ?_
            refine W.reg hm ?_
            refine W.mv rfl (W.nil ?_)
            refine Ev.ret ?_
            refine ⟨_, Wk.nrmX (S := ⟨[(4, .bool false), (65540, .bool false), (131074, wP 10000), (131075, wP 10001), (131076, wP 10002), (131077, iP x8), (131080, .str r50.2.1), (131100, .bool (!r50.2.2)), (131101, .str r50.1)], [(10000, eP 30 1 [[.nils]]), (10001, eP 25 2 [[iP 0, iP 0]]), (10002, ⟨0, 65, 8, [[.own 10003 0, iP b2, .bool true, iP b3, iP b4, iP b5, iP b6, .bool b7]], false, false, false⟩), (10003, ⟨0, 45, 3, List.map SAtOldNew.cells w1 ++ [[iP xa, .own 10004 0, .own 10005 0]], false, false, false⟩), (10004, eP 9 1 (mP xo)), (10005, eP 9 1 (mP xn))], 2⟩) [4, 65540, 131074, 131075, 131076, 131077, 131080, 131100, 131101] [(10000, 10000), (10001, 10001), (10002, 10002), (10003, 10003), (10090, 10004), (10091, 10005)] (fun es => ⟨[(4, .bool false), (65540, .bool false), (131074, wP 10000), (131075, wP 10001), (131076, wP 10002), (131077, iP x8), (131080, .str r50.2.1), (131100, .bool (!r50.2.2)), (131101, .str r50.1)], [(10000, eP 30 1 [[.nils]]), (10001, eP 25 2 [[iP 0, iP 0]]), (10002, ⟨0, 65, 8, [[.own 10003 0, iP b2, .bool true, iP b3, iP b4, iP b5, iP b6, .bool b7]], false, false, false⟩), (10003, ⟨0, 45, 3, es, false, false, false⟩), (10004, eP 9 1 (mP xo)), (10005, eP 9 1 (mP xn))], 2⟩) w1 SAtOldNew.cells [iP xa, .own 10090 0, .own 10091 0] (fun _ => rfl), ?_⟩
            refine ⟨_, rfl, ?_⟩
            refine Sq.wEnd nb ?_
            refine W.mv rfl (W.nil ?_)
            refine Ev.ret ?_
            refine ⟨_, Wk.nrmX (S := ⟨[(4, .bool false), (65538, wP 10000), (65539, wP 10001), (65540, wP 10002), (65541, iP x8), (65544, .str r50.2.1), (65564, .bool (!r50.2.2)), (65565, .str r50.1)], [(10000, eP 30 1 [[.nils]]), (10001, eP 25 2 [[iP 0, iP 0]]), (10002, ⟨0, 65, 8, [[.own 10003 0, iP b2, .bool true, iP b3, iP b4, iP b5, iP b6, .bool b7]], false, false, false⟩), (10003, ⟨0, 45, 3, List.map SAtOldNew.cells w1 ++ [[iP xa, .own 10004 0, .own 10005 0]], false, false, false⟩), (10004, eP 9 1 (mP xo)), (10005, eP 9 1 (mP xn))], 2⟩) [4, 65538, 65539, 65540, 65541, 65544, 65564, 65565] [(10000, 10000), (10001, 10001), (10002, 10002), (10003, 10003), (10004, 10004), (10005, 10005)] (fun es => ⟨[(4, .bool false), (65538, wP 10000), (65539, wP 10001), (65540, wP 10002), (65541, iP x8), (65544, .str r50.2.1), (65564, .bool (!r50.2.2)), (65565, .str r50.1)], [(10000, eP 30 1 [[.nils]]), (10001, eP 25 2 [[iP 0, iP 0]]), (10002, ⟨0, 65, 8, [[.own 10003 0, iP b2, .bool true, iP b3, iP b4, iP b5, iP b6, .bool b7]], false, false, false⟩), (10003, ⟨0, 45, 3, es, false, false, false⟩), (10004, eP 9 1 (mP xo)), (10005, eP 9 1 (mP xn))], 2⟩) w1 SAtOldNew.cells [iP xa, .own 10004 0, .own 10005 0] (fun _ => rfl), ?_⟩
            refine ⟨_, rfl, ?_⟩
            refine Sq.wEnd nb ?_
            refine W.guardT rfl c70 ?_
            refine W.not rfl ?_
            refine W.pickN rfl rfl rfl c70 ?_
            refine W.nil ?_
            refine Ev.condT rfl rfl ?_
            refine Ev.seq ?_
            refine W.reg hm ?_
            refine W.build (cs := [.nils]) rfl rfl rfl ?_
            refine W.mv rfl ?_
            refine W.build (cs := [iP 1, iP x8]) rfl rfl rfl ?_
            refine W.store (es' := [[.nils]]) (dt := true) rfl rfl rfl rfl rfl (Nat.le_of_ble_eq_true rfl) rfl rfl rfl rfl ?_
            refine W.store (es' := [[iP 1, iP x8]]) (dt := true) rfl rfl rfl rfl rfl (Nat.le_of_ble_eq_true rfl) rfl rfl rfl rfl ?_
            refine W.nil ?_
            refine Ev.ret ?_
            injection h with h; subst h
            exact ⟨_, rfl, Le.tups (.cons (Le.aggs (.cons (.nils 3) (.nil)) rfl) (.cons (.refl _) (.nil)))⟩
           ·replace h := iteF h c82
            refine Ev.skip ?_
            refine W.reg hm ?_
            refine W.addG rfl rfl (show gadd 3 1 = some 4 from rfl) ?_
            refine W.mv rfl (W.nil ?_)
            refine EvR.go ?_
            refine Ev.seq ?_
            refine W.reg hm ?_
            refine W.lss rfl rfl (W.nil ?_)
            refine Ev.seq ?_
            refine Ev.condF rfl rfl ?_
            refine Ev.exit ?_
            refine Ev.seq ?_
            refine W.regD hm ?_
            refine W.idxAO (n := 0) rfl rfl rfl (by decide) rfl (by decide) ?_
            refine W.loadO (p := iP r53.1) rfl rfl rfl rfl ?_
            refine W.idxAO (n := 1) rfl rfl rfl (by decide) rfl (by decide) ?_
            refine W.loadO (p := iP r54.1) rfl rfl rfl rfl ?_
            obtain ⟨r57, k83, h⟩ := obind h
            refine W.call (unified_place_spec n r53.1 r54.1 r57 k83) rfl rfl (Les.refl _) rfl (.inl rfl) rfl ?_
            refine W.idxAO (n := 2) rfl rfl rfl (by decide) rfl (by decide) ?_
            refine W.loadO (p := iP r55.1) rfl rfl rfl rfl ?_
            refine W.idxAO (n := 3) rfl rfl rfl (by decide) rfl (by decide) ?_
            refine W.loadO (p := iP r56.1) rfl rfl rfl rfl ?_
            obtain ⟨r58, k84, h⟩ := obind h
            refine W.call (unified_place_spec n r55.1 r56.1 r58 k84) rfl rfl (Les.refl _) rfl (.inl rfl) rfl ?_
            refine W.mv rfl (W.mv rfl ?_)
            refine W.nil ⟨rfl, ?_⟩
            refine Ev.seq (Ev.seq ?_)
            refine W.reg hm ?_
            refine W.mv rfl (W.sneq rfl rfl ?_)
            refine W.mv rfl ?_
            refine W.split 48 rfl (fun c85 => ?_) (fun c85 => ?_)
            ·replace h := iteT h c85
             refine W.guardF2 rfl c85 ?_
             refine W.guardF2 rfl c85 ?_
             refine W.guardF2 rfl c85 ?_
             refine W.guardF2 rfl c85 ?_
             refine W.guardF2 rfl c85 ?_
             refine W.guardF2 rfl c85 ?_
             refine W.pickT rfl rfl rfl c85 ?_
             refine W.mv rfl (W.guardF2 rfl rfl ?_)
             refine W.guardF2 rfl rfl (W.guardF2 rfl rfl ?_)
             refine W.guardF2 rfl rfl (W.guardF2 rfl rfl ?_)
             refine W.guardF2 rfl rfl (W.pickT rfl rfl rfl rfl ?_)
             refine W.mv rfl (W.guardF2 rfl rfl ?_)
             refine W.guardF2 rfl rfl (W.guardF2 rfl rfl ?_)
             refine W.guardF2 rfl rfl (W.guardF2 rfl rfl ?_)
             refine W.guardF2 rfl rfl (W.guardF2 rfl rfl ?_)
             refine W.guardF2 rfl rfl (W.pickT rfl rfl rfl rfl ?_)
             refine W.nil ?_
             refine Ev.condT rfl rfl ?_
             refine Ev.seq ?_
             refine W.reg hm ?_
             refine W.mv rfl (W.nil ?_)
             refine Ev.ret ?_
             refine ⟨_, Wk.nrmX (S := ⟨[(4, .bool false), (65540, .bool false), (131074, wP 10000), (131075, wP 10001), (131076, wP 10002), (131077, iP x8), (131080, .str r50.2.1), (131100, .bool (!r50.2.2)), (131101, .str r50.1)], [(10000, eP 30 1 [[.nils]]), (10001, eP 25 2 [[iP 0, iP 0]]), (10002, ⟨0, 65, 8, [[.own 10003 0, iP b2, .bool true, iP b3, iP b4, iP b5, iP b6, .bool b7]], false, false, false⟩), (10003, ⟨0, 45, 3, List.map SAtOldNew.cells w1 ++ [[iP xa, .own 10004 0, .own 10005 0]], false, false, false⟩), (10004, eP 9 1 (mP xo)), (10005, eP 9 1 (mP xn))], 2⟩) [4, 65540, 131074, 131075, 131076, 131077, 131080, 131100, 131101] [(10000, 10000), (10001, 10001), (10002, 10002), (10003, 10003), (10090, 10004), (10091, 10005)] (fun es => ⟨[(4, .bool false), (65540, .bool false), (131074, wP 10000), (131075, wP 10001), (131076, wP 10002), (131077, iP x8), (131080, .str r50.2.1), (131100, .bool (!r50.2.2)), (131101, .str r50.1)], [(10000, eP 30 1 [[.nils]]), (10001, eP 25 2 [[iP 0, iP 0]]), (10002, ⟨0, 65, 8, [[.own 10003 0, iP b2, .bool true, iP b3, iP b4, iP b5, iP b6, .bool b7]], false, false, false⟩), (10003, ⟨0, 45, 3, es, false, false, false⟩), (10004, eP 9 1 (mP xo)), (10005, eP 9 1 (mP xn))], 2⟩) w1 SAtOldNew.cells [iP xa, .own 10090 0, .own 10091 0] (fun _ => rfl), ?_⟩
             refine ⟨_, rfl, ?_⟩
             refine Sq.wEnd nb ?_
             refine W.mv rfl (W.nil ?_)
             refine Ev.ret ?_
             refine ⟨_, Wk.nrmX (S := ⟨[(4, .bool false), (65538, wP 10000), (65539, wP 10001), (65540, wP 10002), (65541, iP x8), (65544, .str r50.2.1), (65564, .bool (!r50.2.2)), (65565, .str r50.1)], [(10000, eP 30 1 [[.nils]]), (10001, eP 25 2 [[iP 0, iP 0]]), (10002, ⟨0, 65, 8, [[.own 10003 0, iP b2, .bool true, iP b3, iP b4, iP b5, iP b6, .bool b7]], false, false, false⟩), (10003, ⟨0, 45, 3, List.map SAtOldNew.cells w1 ++ [[iP xa, .own 10004 0, .own 10005 0]], false, false, false⟩), (10004, eP 9 1 (mP xo)), (10005, eP 9 1 (mP xn))], 2⟩) [4, 65538, 65539, 65540, 65541, 65544, 65564, 65565] [(10000, 10000), (10001, 10001), (10002, 10002), (10003, 10003), (10004, 10004), (10005, 10005)] (fun es => ⟨[(4, .bool false), (65538, wP 10000), (65539, wP 10001), (65540, wP 10002), (65541, iP x8), (65544, .str r50.2.1), (65564, .bool (!r50.2.2)), (65565, .str r50.1)], [(10000, eP 30 1 [[.nils]]), (10001, eP 25 2 [[iP 0, iP 0]]), (10002, ⟨0, 65, 8, [[.own 10003 0, iP b2, .bool true, iP b3, iP b4, iP b5, iP b6, .bool b7]], false, false, false⟩), (10003, ⟨0, 45, 3, es, false, false, false⟩), (10004, eP 9 1 (mP xo)), (10005, eP 9 1 (mP xn))], 2⟩) w1 SAtOldNew.cells [iP xa, .own 10004 0, .own 10005 0] (fun _ => rfl), ?_⟩
             refine ⟨_, rfl, ?_⟩
             refine Sq.wEnd nb ?_
             refine W.guardT rfl c70 ?_
             refine W.not rfl ?_
             refine W.pickN rfl rfl rfl c70 ?_
             refine W.nil ?_
             refine Ev.condT rfl rfl ?_
             refine Ev.seq ?_
             refine W.reg hm ?_
             refine W.build (cs := [.nils]) rfl rfl rfl ?_
             refine W.mv rfl ?_
             refine W.build (cs := [iP 1, iP x8]) rfl rfl rfl ?_
             refine W.store (es' := [[.nils]]) (dt := true) rfl rfl rfl rfl rfl (Nat.le_of_ble_eq_true rfl) rfl rfl rfl rfl ?_
             refine W.store (es' := [[iP 1, iP x8]]) (dt := true) rfl rfl rfl rfl rfl (Nat.le_of_ble_eq_true rfl) rfl rfl rfl rfl ?_
             refine W.nil ?_
             refine Ev.ret ?_
             injection h with h; subst h
             exact ⟨_, rfl, Le.tups (.cons (Le.aggs (.cons (.nils 3) (.nil)) rfl) (.cons (.refl _) (.nil)))⟩
            ·replace h := iteF h c85
             refine W.guardT rfl c85 ?_
             refine W.idxAO (n := 1) rfl rfl rfl (by decide) rfl (by decide) ?_
             refine W.guardT rfl c85 ?_
             refine W.loadO (p := iP r54.1) rfl rfl rfl rfl ?_
             refine W.guardT rfl c85 ?_
             refine W.idxAO (n := 3) rfl rfl rfl (by decide) rfl (by decide) ?_
             refine W.guardT rfl c85 ?_
             refine W.loadO (p := iP r56.1) rfl rfl rfl rfl ?_
             refine W.guardT rfl c85 ?_
             obtain ⟨x59, k86, h⟩ := obind h
             refine W.addG rfl rfl k86 ?_
             refine W.guardT rfl c85 ?_
             refine W.eql rfl rfl ?_
             refine W.pickN rfl rfl rfl c85 ?_
             refine W.mv rfl ?_
             refine W.split 56 rfl (fun c87 => ?_) (fun c87 => ?_)
             ·replace h := iteT h c87
              refine W.guardF2 rfl c87 ?_
              refine W.guardF2 rfl c87 ?_
              refine W.guardF2 rfl c87 ?_
              refine W.guardF2 rfl c87 ?_
              refine W.guardF2 rfl c87 ?_
              refine W.guardF2 rfl c87 ?_
              refine W.pickT rfl rfl rfl c87 ?_
              refine W.mv rfl (W.guardF2 rfl rfl ?_)
              refine W.guardF2 rfl rfl (W.guardF2 rfl rfl ?_)
              refine W.guardF2 rfl rfl (W.guardF2 rfl rfl ?_)
              refine W.guardF2 rfl rfl (W.guardF2 rfl rfl ?_)
              refine W.guardF2 rfl rfl (W.pickT rfl rfl rfl rfl ?_)
              refine W.nil ?_
              refine Ev.condT rfl rfl ?_
              refine Ev.seq ?_
              refine W.reg hm ?_
              refine W.mv rfl (W.nil ?_)
              refine Ev.ret ?_
              refine ⟨_, Wk.nrmX (S := ⟨[(4, .bool false), (65540, .bool false), (131074, wP 10000), (131075, wP 10001), (131076, wP 10002), (131077, iP x8), (131080, .str r50.2.1), (131100, .bool (!r50.2.2)), (131101, .str r50.1)], [(10000, eP 30 1 [[.nils]]), (10001, eP 25 2 [[iP 0, iP 0]]), (10002, ⟨0, 65, 8, [[.own 10003 0, iP b2, .bool true, iP b3, iP b4, iP b5, iP b6, .bool b7]], false, false, false⟩), (10003, ⟨0, 45, 3, List.map SAtOldNew.cells w1 ++ [[iP xa, .own 10004 0, .own 10005 0]], false, false, false⟩), (10004, eP 9 1 (mP xo)), (10005, eP 9 1 (mP xn))], 2⟩) [4, 65540, 131074, 131075, 131076, 131077, 131080, 131100, 131101] [(10000, 10000), (10001, 10001), (10002, 10002), (10003, 10003), (10090, 10004), (10091, 10005)] (fun es => ⟨[(4, .bool false), (65540, .bool false), (131074, wP 10000), (131075, wP 10001), (131076, wP 10002), (131077, iP x8), (131080, .str r50.2.1), (131100, .bool (!r50.2.2)), (131101, .str r50.1)], [(10000, eP 30 1 [[.nils]]), (10001, eP 25 2 [[iP 0, iP 0]]), (10002, ⟨0, 65, 8, [[.own 10003 0, iP b2, .bool true, iP b3, iP b4, iP b5, iP b6, .bool b7]], false, false, false⟩), (10003, ⟨0, 45, 3, es, false, false, false⟩), (10004, eP 9 1 (mP xo)), (10005, eP 9 1 (mP xn))], 2⟩) w1 SAtOldNew.cells [iP xa, .own 10090 0, .own 10091 0] (fun _ => rfl), ?_⟩
              refine ⟨_, rfl, ?_⟩
              refine Sq.wEnd nb ?_
              refine W.mv rfl (W.nil ?_)
              refine Ev.ret ?_
              refine ⟨_, Wk.nrmX (S := ⟨[(4, .bool false), (65538, wP 10000), (65539, wP 10001), (65540, wP 10002), (65541, iP x8), (65544, .str r50.2.1), (65564, .bool (!r50.2.2)), (65565, .str r50.1)], [(10000, eP 30 1 [[.nils]]), (10001, eP 25 2 [[iP 0, iP 0]]), (10002, ⟨0, 65, 8, [[.own 10003 0, iP b2, .bool true, iP b3, iP b4, iP b5, iP b6, .bool b7]], false, false, false⟩), (10003, ⟨0, 45, 3, List.map SAtOldNew.cells w1 ++ [[iP xa, .own 10004 0, .own 10005 0]], false, false, false⟩), (10004, eP 9 1 (mP xo)), (10005, eP 9 1 (mP xn))], 2⟩) [4, 65538, 65539, 65540, 65541, 65544, 65564, 65565] [(10000, 10000), (10001, 10001), (10002, 10002), (10003, 10003), (10004, 10004), (10005, 10005)] (fun es => ⟨[(4, .bool false), (65538, wP 10000), (65539, wP 10001), (65540, wP 10002), (65541, iP x8), (65544, .str r50.2.1), (65564, .bool (!r50.2.2)), (65565, .str r50.1)], [(10000, eP 30 1 [[.nils]]), (10001, eP 25 2 [[iP 0, iP 0]]), (10002, ⟨0, 65, 8, [[.own 10003 0, iP b2, .bool true, iP b3, iP b4, iP b5, iP b6, .bool b7]], false, false, false⟩), (10003, ⟨0, 45, 3, es, false, false, false⟩), (10004, eP 9 1 (mP xo)), (10005, eP 9 1 (mP xn))], 2⟩) w1 SAtOldNew.cells [iP xa, .own 10004 0, .own 10005 0] (fun _ => rfl), ?_⟩
              refine ⟨_, rfl, ?_⟩
              refine Sq.wEnd nb ?_
              refine W.guardT rfl c70 ?_
              refine W.not rfl ?_
              refine W.pickN rfl rfl rfl c70 ?_
              refine W.nil ?_
              refine Ev.condT rfl rfl ?_
              refine Ev.seq ?_
              refine W.reg hm ?_
              refine W.build (cs := [.nils]) rfl rfl rfl ?_
              refine W.mv rfl ?_
              refine W.build (cs := [iP 1, iP x8]) rfl rfl rfl ?_
              refine W.store (es' := [[.nils]]) (dt := true) rfl rfl rfl rfl rfl (Nat.le_of_ble_eq_true rfl) rfl rfl rfl rfl ?_
              refine W.store (es' := [[iP 1, iP x8]]) (dt := true) rfl rfl rfl rfl rfl (Nat.le_of_ble_eq_true rfl) rfl rfl rfl rfl ?_
              refine W.nil ?_
              refine Ev.ret ?_
              injection h with h; subst h
              exact ⟨_, rfl, Le.tups (.cons (Le.aggs (.cons (.nils 3) (.nil)) rfl) (.cons (.refl _) (.nil)))⟩
             ·replace h := iteF h c87
              refine W.guardT rfl c87 ?_
              refine W.mv rfl ?_
              refine W.guardT rfl c87 ?_
              refine W.mv rfl ?_
              refine W.guardT rfl c87 ?_
              refine W.nilCheckO rfl rfl ?_
              refine W.guardT rfl c87 ?_
              refine W.fieldAddrO rfl rfl ?_
              refine W.guardT rfl c87 ?_
              refine W.loadO (p := iP b5) rfl rfl rfl rfl ?_
              refine W.guardT rfl c87 ?_
              refine W.lss rfl rfl ?_
              refine W.pickN rfl rfl rfl c87 ?_
              refine W.mv rfl ?_
              refine W.split 64 rfl (fun c88 => ?_) (fun c88 => ?_)
              ·replace h := iteT h c88
               refine W.guardF2 rfl c88 ?_
               refine W.guardF2 rfl c88 ?_
               refine W.guardF2 rfl c88 ?_
               refine W.guardF2 rfl c88 ?_
               refine W.guardF2 rfl c88 ?_
               refine W.guardF2 rfl c88 ?_
               refine W.guardF2 rfl c88 ?_
               refine W.guardF2 rfl c88 ?_
               refine W.pickT rfl rfl rfl c88 ?_
               refine W.nil ?_
               refine Ev.condT rfl rfl ?_
               refine Ev.seq ?_
               refine W.reg hm ?_
               refine W.mv rfl (W.nil ?_)
               refine Ev.ret ?_
               refine ⟨_, Wk.nrmX (S := ⟨[(4, .bool false), (65540, .bool false), (131074, wP 10000), (131075, wP 10001), (131076, wP 10002), (131077, iP x8), (131080, .str r50.2.1), (131100, .bool (!r50.2.2)), (131101, .str r50.1)], [(10000, eP 30 1 [[.nils]]), (10001, eP 25 2 [[iP 0, iP 0]]), (10002, ⟨0, 65, 8, [[.own 10003 0, iP b2, .bool true, iP b3, iP b4, iP b5, iP b6, .bool b7]], false, false, false⟩), (10003, ⟨0, 45, 3, List.map SAtOldNew.cells w1 ++ [[iP xa, .own 10004 0, .own 10005 0]], false, false, false⟩), (10004, eP 9 1 (mP xo)), (10005, eP 9 1 (mP xn))], 2⟩) [4, 65540, 131074, 131075, 131076, 131077, 131080, 131100, 131101] [(10000, 10000), (10001, 10001), (10002, 10002), (10003, 10003), (10090, 10004), (10091, 10005)] (fun es => ⟨[(4, .bool false), (65540, .bool false), (131074, wP 10000), (131075, wP 10001), (131076, wP 10002), (131077, iP x8), (131080, .str r50.2.1), (131100, .bool (!r50.2.2)), (131101, .str r50.1)], [(10000, eP 30 1 [[.nils]]), (10001, eP 25 2 [[iP 0, iP 0]]), (10002, ⟨0, 65, 8, [[.own 10003 0, iP b2, .bool true, iP b3, iP b4, iP b5, iP b6, .bool b7]], false, false, false⟩), (10003, ⟨0, 45, 3, es, false, false, false⟩), (10004, eP 9 1 (mP xo)), (10005, eP 9 1 (mP xn))], 2⟩) w1 SAtOldNew.cells [iP xa, .own 10090 0, .own 10091 0] (fun _ => rfl), ?_⟩
               refine ⟨_, rfl, ?_⟩
               refine Sq.wEnd nb ?_
               refine W.mv rfl (W.nil ?_)
               refine Ev.ret ?_
               refine ⟨_, Wk.nrmX (S := ⟨[(4, .bool false), (65538, wP 10000), (65539, wP 10001), (65540, wP 10002), (65541, iP x8), (65544, .str r50.2.1), (65564, .bool (!r50.2.2)), (65565, .str r50.1)], [(10000, eP 30 1 [[.nils]]), (10001, eP 25 2 [[iP 0, iP 0]]), (10002, ⟨0, 65, 8, [[.own 10003 0, iP b2, .bool true, iP b3, iP b4, iP b5, iP b6, .bool b7]], false, false, false⟩), (10003, ⟨0, 45, 3, List.map SAtOldNew.cells w1 ++ [[iP xa, .own 10004 0, .own 10005 0]], false, false, false⟩), (10004, eP 9 1 (mP xo)), (10005, eP 9 1 (mP xn))], 2⟩) [4, 65538, 65539, 65540, 65541, 65544, 65564, 65565] [(10000, 10000), (10001, 10001), (10002, 10002), (10003, 10003), (10004, 10004), (10005, 10005)] (fun es => ⟨[(4, .bool false), (65538, wP 10000), (65539, wP 10001), (65540, wP 10002), (65541, iP x8), (65544, .str r50.2.1), (65564, .bool (!r50.2.2)), (65565, .str r50.1)], [(10000, eP 30 1 [[.nils]]), (10001, eP 25 2 [[iP 0, iP 0]]), (10002, ⟨0, 65, 8, [[.own 10003 0, iP b2, .bool true, iP b3, iP b4, iP b5, iP b6, .bool b7]], false, false, false⟩), (10003, ⟨0, 45, 3, es, false, false, false⟩), (10004, eP 9 1 (mP xo)), (10005, eP 9 1 (mP xn))], 2⟩) w1 SAtOldNew.cells [iP xa, .own 10004 0, .own 10005 0] (fun _ => rfl), ?_⟩
               refine ⟨_, rfl, ?_⟩
               refine Sq.wEnd nb ?_
               refine W.guardT rfl c70 ?_
               refine W.not rfl ?_
               refine W.pickN rfl rfl rfl c70 ?_
               refine W.nil ?_
               refine Ev.condT rfl rfl ?_
               refine Ev.seq ?_
               refine W.reg hm ?_
               refine W.build (cs := [.nils]) rfl rfl rfl ?_
               refine W.mv rfl ?_
               refine W.build (cs := [iP 1, iP x8]) rfl rfl rfl ?_
               refine W.store (es' := [[.nils]]) (dt := true) rfl rfl rfl rfl rfl (Nat.le_of_ble_eq_true rfl) rfl rfl rfl rfl ?_
               refine W.store (es' := [[iP 1, iP x8]]) (dt := true) rfl rfl rfl rfl rfl (Nat.le_of_ble_eq_true rfl) rfl rfl rfl rfl ?_
               refine W.nil ?_
               refine Ev.ret ?_
               injection h with h; subst h
               exact ⟨_, rfl, Le.tups (.cons (Le.aggs (.cons (.nils 3) (.nil)) rfl) (.cons (.refl _) (.nil)))⟩
              ·replace h := iteF h c88
               refine W.guardT rfl c88 ?_
               refine W.mv rfl ?_
               refine W.guardT rfl c88 ?_
               refine W.mv rfl ?_
               refine W.guardT rfl c88 ?_
               obtain ⟨x60, k89, h⟩ := obind h
               refine W.subG rfl rfl k89 ?_
               refine W.guardT rfl c88 ?_
               refine W.mv rfl ?_
               refine W.guardT rfl c88 ?_
               refine W.nilCheckO rfl rfl ?_
               refine W.guardT rfl c88 ?_
               refine W.fieldAddrO rfl rfl ?_
               refine W.guardT rfl c88 ?_
               refine W.loadO (p := iP b6) rfl rfl rfl rfl ?_
               refine W.guardT rfl c88 ?_
               refine W.neq rfl rfl ?_
               refine W.pickN rfl rfl rfl c88 ?_
               refine W.nil ?_
               refine Ev.cond rfl (fun c90 => ?_) (fun c90 => ?_)
               ·replace h := iteT h c90
                refine Ev.seq ?_
                refine W.reg hm ?_
                refine W.mv rfl (W.nil ?_)
                refine Ev.ret ?_
                refine ⟨_, Wk.nrmX (S := ⟨[(4, .bool false), (65540, .bool false), (131074, wP 10000), (131075, wP 10001), (131076, wP 10002), (131077, iP x8), (131080, .str r50.2.1), (131100, .bool (!r50.2.2)), (131101, .str r50.1)], [(10000, eP 30 1 [[.nils]]), (10001, eP 25 2 [[iP 0, iP 0]]), (10002, ⟨0, 65, 8, [[.own 10003 0, iP b2, .bool true, iP b3, iP b4, iP b5, iP b6, .bool b7]], false, false, false⟩), (10003, ⟨0, 45, 3, List.map SAtOldNew.cells w1 ++ [[iP xa, .own 10004 0, .own 10005 0]], false, false, false⟩), (10004, eP 9 1 (mP xo)), (10005, eP 9 1 (mP xn))], 2⟩) [4, 65540, 131074, 131075, 131076, 131077, 131080, 131100, 131101] [(10000, 10000), (10001, 10001), (10002, 10002), (10003, 10003), (10090, 10004), (10091, 10005)] (fun es => ⟨[(4, .bool false), (65540, .bool false), (131074, wP 10000), (131075, wP 10001), (131076, wP 10002), (131077, iP x8), (131080, .str r50.2.1), (131100, .bool (!r50.2.2)), (131101, .str r50.1)], [(10000, eP 30 1 [[.nils]]), (10001, eP 25 2 [[iP 0, iP 0]]), (10002, ⟨0, 65, 8, [[.own 10003 0, iP b2, .bool true, iP b3, iP b4, iP b5, iP b6, .bool b7]], false, false, false⟩), (10003, ⟨0, 45, 3, es, false, false, false⟩), (10004, eP 9 1 (mP xo)), (10005, eP 9 1 (mP xn))], 2⟩) w1 SAtOldNew.cells [iP xa, .own 10090 0, .own 10091 0] (fun _ => rfl), ?_⟩
                refine ⟨_, rfl, ?_⟩
                refine Sq.wEnd nb ?_
                refine W.mv rfl (W.nil ?_)
                refine Ev.ret ?_
                refine ⟨_, Wk.nrmX (S := ⟨[(4, .bool false), (65538, wP 10000), (65539, wP 10001), (65540, wP 10002), (65541, iP x8), (65544, .str r50.2.1), (65564, .bool (!r50.2.2)), (65565, .str r50.1)], [(10000, eP 30 1 [[.nils]]), (10001, eP 25 2 [[iP 0, iP 0]]), (10002, ⟨0, 65, 8, [[.own 10003 0, iP b2, .bool true, iP b3, iP b4, iP b5, iP b6, .bool b7]], false, false, false⟩), (10003, ⟨0, 45, 3, List.map SAtOldNew.cells w1 ++ [[iP xa, .own 10004 0, .own 10005 0]], false, false, false⟩), (10004, eP 9 1 (mP xo)), (10005, eP 9 1 (mP xn))], 2⟩) [4, 65538, 65539, 65540, 65541, 65544, 65564, 65565] [(10000, 10000), (10001, 10001), (10002, 10002), (10003, 10003), (10004, 10004), (10005, 10005)] (fun es => ⟨[(4, .bool false), (65538, wP 10000), (65539, wP 10001), (65540, wP 10002), (65541, iP x8), (65544, .str r50.2.1), (65564, .bool (!r50.2.2)), (65565, .str r50.1)], [(10000, eP 30 1 [[.nils]]), (10001, eP 25 2 [[iP 0, iP 0]]), (10002, ⟨0, 65, 8, [[.own 10003 0, iP b2, .bool true, iP b3, iP b4, iP b5, iP b6, .bool b7]], false, false, false⟩), (10003, ⟨0, 45, 3, es, false, false, false⟩), (10004, eP 9 1 (mP xo)), (10005, eP 9 1 (mP xn))], 2⟩) w1 SAtOldNew.cells [iP xa, .own 10004 0, .own 10005 0] (fun _ => rfl), ?_⟩
                refine ⟨_, rfl, ?_⟩
                refine Sq.wEnd nb ?_
                refine W.guardT rfl c70 ?_
                refine W.not rfl ?_
                refine W.pickN rfl rfl rfl c70 ?_
                refine W.nil ?_
                refine Ev.condT rfl rfl ?_
                refine Ev.seq ?_
                refine W.reg hm ?_
                refine W.build (cs := [.nils]) rfl rfl rfl ?_
                refine W.mv rfl ?_
                refine W.build (cs := [iP 1, iP x8]) rfl rfl rfl ?_
                refine W.store (es' := [[.nils]]) (dt := true) rfl rfl rfl rfl rfl (Nat.le_of_ble_eq_true rfl) rfl rfl rfl rfl ?_
                refine W.store (es' := [[iP 1, iP x8]]) (dt := true) rfl rfl rfl rfl rfl (Nat.le_of_ble_eq_true rfl) rfl rfl rfl rfl ?_
                refine W.nil ?_
                refine Ev.ret ?_
                injection h with h; subst h
                exact ⟨_, rfl, Le.tups (.cons (Le.aggs (.cons (.nils 3) (.nil)) rfl) (.cons (.refl _) (.nil)))⟩
               ·replace h := iteF h c90
                refine Ev.skip ?_
                refine Ev.seq ?_
                refine Ev.regS rfl ?_
                refine Sq.w 7 nb ?_
                refine W.mv rfl (W.mv rfl ?_)
                refine W.mv rfl (W.nilCheckO rfl rfl ?_)
                refine W.fieldAddrO rfl rfl ?_
                refine W.loadO (p := iP b5) rfl rfl rfl rfl ?_
                obtain ⟨x61, k91, h⟩ := obind h
                refine W.subG rfl rfl k91 ?_
                refine W.nil ?_
                refine Sq.weak ?_ (Wk.nrmX (S := ⟨[(0, wP 10000), (7, wP 10004), (74, wP 10000), (80, iP x61), (65540, .bool false), (131074, wP 10005), (131075, wP 10006), (131076, wP 10000), (131077, iP x8), (131080, .str r50.2.1), (131100, .bool (!r50.2.2)), (131101, .str r50.1)], [(10000, ⟨0, 65, 8, [[.own 10001 0, iP b2, .bool true, iP b3, iP b4, iP b5, iP b6, .bool b7]], false, false, false⟩), (10001, ⟨0, 45, 3, List.map SAtOldNew.cells w1 ++ [[iP xa, .own 10002 0, .own 10003 0]], false, false, false⟩), (10002, eP 9 1 (mP xo)), (10003, eP 9 1 (mP xn)), (10004, eP 110 4 [[iP r53.1, iP r54.1, iP r55.1, iP r56.1]]), (10005, eP 30 1 [[.nils]]), (10006, eP 25 2 [[iP 0, iP 0]])], 2⟩) [0, 7, 74, 80, 65540, 131074, 131075, 131076, 131077, 131080, 131100, 131101] [(10002, 10000), (10003, 10001), (10090, 10002), (10091, 10003), (7, 10004), (10000, 10005), (10001, 10006)] (fun es => ⟨[(0, wP 10000), (7, wP 10004), (74, wP 10000), (80, iP x61), (65540, .bool false), (131074, wP 10005), (131075, wP 10006), (131076, wP 10000), (131077, iP x8), (131080, .str r50.2.1), (131100, .bool (!r50.2.2)), (131101, .str r50.1)], [(10000, ⟨0, 65, 8, [[.own 10001 0, iP b2, .bool true, iP b3, iP b4, iP b5, iP b6, .bool b7]], false, false, false⟩), (10001, ⟨0, 45, 3, es, false, false, false⟩), (10002, eP 9 1 (mP xo)), (10003, eP 9 1 (mP xn)), (10004, eP 110 4 [[iP r53.1, iP r54.1, iP r55.1, iP r56.1]]), (10005, eP 30 1 [[.nils]]), (10006, eP 25 2 [[iP 0, iP 0]])], 2⟩) w1 SAtOldNew.cells [iP xa, .own 10090 0, .own 10091 0] (fun _ => rfl))
                refine Sq.call rfl Tryz.c_unified_parser_keep ⟨_, rfl, nb, ?_⟩
                unfold Tryz.l_unified_parser_keep
                refine Ev.seq ?_
                refine W.reg hm ?_
                refine W.mv rfl (W.gtr rfl rfl ?_)
                refine W.nil ?_
                refine Ev.cond rfl (fun c92 => ?_) (fun c92 => ?_)
                ·replace h := iteT h c92
                 refine Ev.seq ?_
                 refine Ev.regS rfl ?_
                 refine Sq.w 4 nb ?_
                 refine W.mv rfl (W.nilCheckO rfl rfl ?_)
                 refine W.fieldAddrO rfl rfl (W.mv rfl ?_)
                 refine W.nil ?_
                 refine Sq.call rfl Tryz.c_diff_Collector_Keep ⟨_, rfl, nb, ?_⟩
                 unfold Tryz.l_diff_Collector_Keep
                 refine Ev.seq ?_
                 refine W.reg hm ?_
                 refine W.mv rfl (W.gtr rfl rfl ?_)
                 refine W.nil ?_
                 refine Ev.condT rfl c92 ?_
                 refine W.reg hm ?_
                 refine W.mv rfl (W.mv rfl ?_)
                 refine W.mv rfl (W.nilCheckO rfl rfl ?_)
                 refine W.fieldAddrO rfl rfl ?_
                 refine W.loadO (p := iP b2) rfl rfl rfl rfl ?_
                 refine W.mv rfl ?_
                 obtain ⟨x62, k93, h⟩ := obind h
                 refine W.addG rfl rfl k93 ?_
                 refine W.nilCheckO rfl rfl (W.fieldAddrO rfl rfl ?_)
                 refine W.store (es' := [[.own 10001 0, iP x62, .bool true, iP b3, iP b4, iP b5, iP b6, .bool b7]]) (dt := false) rfl rfl rfl rfl rfl (Nat.le_of_ble_eq_true rfl) rfl rfl rfl rfl ?_
                 refine W.nilCheckO rfl rfl (W.fieldAddrO rfl rfl ?_)
                 refine W.store (es' := [[.own 10001 0, iP x62, .bool false, iP b3, iP b4, iP b5, iP b6, .bool b7]]) (dt := false) rfl rfl rfl rfl rfl (Nat.le_of_ble_eq_true rfl) rfl rfl rfl rfl ?_
                 refine W.nil ?_
                 refine ⟨_, Wk.nrmX (S := ⟨[(65536, wP 10000), (65537, iP x61), (131072, wP 10000), (131079, wP 10004), (196612, .bool false), (262146, wP 10005), (262147, wP 10006), (262148, wP 10000), (262149, iP x8), (262152, .str r50.2.1), (262172, .bool (!r50.2.2)), (262173, .str r50.1)], [(10000, ⟨0, 65, 8, [[.own 10001 0, iP x62, .bool false, iP b3, iP b4, iP b5, iP b6, .bool b7]], false, false, false⟩), (10001, ⟨0, 45, 3, List.map SAtOldNew.cells w1 ++ [[iP xa, .own 10002 0, .own 10003 0]], false, false, false⟩), (10002, eP 9 1 (mP xo)), (10003, eP 9 1 (mP xn)), (10004, eP 110 4 [[iP r53.1, iP r54.1, iP r55.1, iP r56.1]]), (10005, eP 30 1 [[.nils]]), (10006, eP 25 2 [[iP 0, iP 0]])], 2⟩) [65536, 65537, 131072, 131079, 196612, 262146, 262147, 262148, 262149, 262152, 262172, 262173] [(10000, 10000), (10001, 10001), (10002, 10002), (10003, 10003), (10004, 10004), (10005, 10005), (10006, 10006)] (fun es => ⟨[(65536, wP 10000), (65537, iP x61), (131072, wP 10000), (131079, wP 10004), (196612, .bool false), (262146, wP 10005), (262147, wP 10006), (262148, wP 10000), (262149, iP x8), (262152, .str r50.2.1), (262172, .bool (!r50.2.2)), (262173, .str r50.1)], [(10000, ⟨0, 65, 8, [[.own 10001 0, iP x62, .bool false, iP b3, iP b4, iP b5, iP b6, .bool b7]], false, false, false⟩), (10001, ⟨0, 45, 3, es, false, false, false⟩), (10002, eP 9 1 (mP xo)), (10003, eP 9 1 (mP xn)), (10004, eP 110 4 [[iP r53.1, iP r54.1, iP r55.1, iP r56.1]]), (10005, eP 30 1 [[.nils]]), (10006, eP 25 2 [[iP 0, iP 0]])], 2⟩) w1 SAtOldNew.cells [iP xa, .own 10002 0, .own 10003 0] (fun _ => rfl), ?_⟩
                 refine ⟨_, rfl, ?_⟩
                 refine Sq.wEnd nb ?_
                 refine W.nil ?_
                 refine W.reg hm ?_
                 refine W.mv rfl (W.mv rfl ?_)
                 refine W.mv rfl (W.nilCheckO rfl rfl ?_)
                 refine W.fieldAddrO rfl rfl ?_
                 refine W.loadO (p := iP b5) rfl rfl rfl rfl ?_
                 refine W.mv rfl ?_
                 obtain ⟨x63, k94, h⟩ := obind h
                 refine W.addG rfl rfl k94 ?_
                 refine W.nilCheckO rfl rfl (W.fieldAddrO rfl rfl ?_)
                 refine W.store (es' := [[.own 10001 0, iP x62, .bool false, iP b3, iP b4, iP x63, iP b6, .bool b7]]) (dt := false) rfl rfl rfl rfl rfl (Nat.le_of_ble_eq_true rfl) rfl rfl rfl rfl ?_
                 refine W.nilCheckO rfl rfl (W.fieldAddrO rfl rfl ?_)
                 refine W.store (es' := [[.own 10001 0, iP x62, .bool false, iP b3, iP b4, iP x63, iP b6, .bool false]]) (dt := false) rfl rfl rfl rfl rfl (Nat.le_of_ble_eq_true rfl) rfl rfl rfl rfl ?_
                 refine W.nil ?_
                 refine ⟨_, Wk.nrmX (S := ⟨[(65536, wP 10000), (65543, wP 10004), (131076, .bool false), (196610, wP 10005), (196611, wP 10006), (196612, wP 10000), (196613, iP x8), (196616, .str r50.2.1), (196636, .bool (!r50.2.2)), (196637, .str r50.1)], [(10000, ⟨0, 65, 8, [[.own 10001 0, iP x62, .bool false, iP b3, iP b4, iP x63, iP b6, .bool false]], false, false, false⟩), (10001, ⟨0, 45, 3, List.map SAtOldNew.cells w1 ++ [[iP xa, .own 10002 0, .own 10003 0]], false, false, false⟩), (10002, eP 9 1 (mP xo)), (10003, eP 9 1 (mP xn)), (10004, eP 110 4 [[iP r53.1, iP r54.1, iP r55.1, iP r56.1]]), (10005, eP 30 1 [[.nils]]), (10006, eP 25 2 [[iP 0, iP 0]])], 2⟩) [65536, 65543, 131076, 196610, 196611, 196612, 196613, 196616, 196636, 196637] [(10000, 10000), (10001, 10001), (10002, 10002), (10003, 10003), (10004, 10004), (10005, 10005), (10006, 10006)] (fun es => ⟨[(65536, wP 10000), (65543, wP 10004), (131076, .bool false), (196610, wP 10005), (196611, wP 10006), (196612, wP 10000), (196613, iP x8), (196616, .str r50.2.1), (196636, .bool (!r50.2.2)), (196637, .str r50.1)], [(10000, ⟨0, 65, 8, [[.own 10001 0, iP x62, .bool false, iP b3, iP b4, iP x63, iP b6, .bool false]], false, false, false⟩), (10001, ⟨0, 45, 3, es, false, false, false⟩), (10002, eP 9 1 (mP xo)), (10003, eP 9 1 (mP xn)), (10004, eP 110 4 [[iP r53.1, iP r54.1, iP r55.1, iP r56.1]]), (10005, eP 30 1 [[.nils]]), (10006, eP 25 2 [[iP 0, iP 0]])], 2⟩) w1 SAtOldNew.cells [iP xa, .own 10002 0, .own 10003 0] (fun _ => rfl), ?_⟩
                 refine ⟨_, rfl, ?_⟩
                 refine Sq.wEnd nb ?_
                 refine W.nil ?_
                 refine Ev.seq ?_
                 refine W.regD hm ?_
                 refine W.mv rfl (W.mv rfl ?_)
                 refine W.idxAO (n := 1) rfl rfl rfl (by decide) rfl (by decide) ?_
                 refine W.loadO (p := iP r54.1) rfl rfl rfl rfl ?_
                 refine W.idxAO (n := 3) rfl rfl rfl (by decide) rfl (by decide) ?_
                 refine W.loadO (p := iP r56.1) rfl rfl rfl rfl ?_
                 refine W.nilCheckO rfl rfl (W.fieldAddrO rfl rfl ?_)
                 refine W.store (es' := [[.own 10001 0, iP x62, .bool false, iP r54.1, iP b4, iP x63, iP b6, .bool false]]) (dt := false) rfl rfl rfl rfl rfl (Nat.le_of_ble_eq_true rfl) rfl rfl rfl rfl ?_
                 refine W.nilCheckO rfl rfl (W.fieldAddrO rfl rfl ?_)
                 refine W.store (es' := [[.own 10001 0, iP x62, .bool false, iP r54.1, iP r56.1, iP x63, iP b6, .bool false]]) (dt := false) rfl rfl rfl rfl rfl (Nat.le_of_ble_eq_true rfl) rfl rfl rfl rfl ?_
                 refine W.nil ⟨rfl, ?_⟩
                 refine Ev.seq ?_
                 refine W.reg hm ?_
                 refine W.mv rfl (W.nil ?_)
                 refine Ev.ret ?_
                 refine ⟨_, Wk.nrmX (S := ⟨[(4, .bool true), (65540, .bool false), (131074, wP 10000), (131075, wP 10001), (131076, wP 10002), (131077, iP x8), (131080, .str r50.2.1), (131100, .bool (!r50.2.2)), (131101, .str r50.1)], [(10000, eP 30 1 [[.nils]]), (10001, eP 25 2 [[iP 0, iP 0]]), (10002, ⟨0, 65, 8, [[.own 10003 0, iP x62, .bool false, iP r54.1, iP r56.1, iP x63, iP b6, .bool false]], false, false, false⟩), (10003, ⟨0, 45, 3, List.map SAtOldNew.cells w1 ++ [[iP xa, .own 10004 0, .own 10005 0]], false, false, false⟩), (10004, eP 9 1 (mP xo)), (10005, eP 9 1 (mP xn))], 2⟩) [4, 65540, 131074, 131075, 131076, 131077, 131080, 131100, 131101] [(10005, 10000), (10006, 10001), (10000, 10002), (10001, 10003), (10002, 10004), (10003, 10005)] (fun es => ⟨[(4, .bool true), (65540, .bool false), (131074, wP 10000), (131075, wP 10001), (131076, wP 10002), (131077, iP x8), (131080, .str r50.2.1), (131100, .bool (!r50.2.2)), (131101, .str r50.1)], [(10000, eP 30 1 [[.nils]]), (10001, eP 25 2 [[iP 0, iP 0]]), (10002, ⟨0, 65, 8, [[.own 10003 0, iP x62, .bool false, iP r54.1, iP r56.1, iP x63, iP b6, .bool false]], false, false, false⟩), (10003, ⟨0, 45, 3, es, false, false, false⟩), (10004, eP 9 1 (mP xo)), (10005, eP 9 1 (mP xn))], 2⟩) w1 SAtOldNew.cells [iP xa, .own 10002 0, .own 10003 0] (fun _ => rfl), ?_⟩
                 refine ⟨_, rfl, ?_⟩
                 refine Sq.wEnd nb ?_
                 refine W.mv rfl (W.nil ?_)
                 refine Ev.ret ?_
                 refine ⟨_, Wk.nrmX (S := ⟨[(4, .bool true), (65538, wP 10000), (65539, wP 10001), (65540, wP 10002), (65541, iP x8), (65544, .str r50.2.1), (65564, .bool (!r50.2.2)), (65565, .str r50.1)], [(10000, eP 30 1 [[.nils]]), (10001, eP 25 2 [[iP 0, iP 0]]), (10002, ⟨0, 65, 8, [[.own 10003 0, iP x62, .bool false, iP r54.1, iP r56.1, iP x63, iP b6, .bool false]], false, false, false⟩), (10003, ⟨0, 45, 3, List.map SAtOldNew.cells w1 ++ [[iP xa, .own 10004 0, .own 10005 0]], false, false, false⟩), (10004, eP 9 1 (mP xo)), (10005, eP 9 1 (mP xn))], 2⟩) [4, 65538, 65539, 65540, 65541, 65544, 65564, 65565] [(10000, 10000), (10001, 10001), (10002, 10002), (10003, 10003), (10004, 10004), (10005, 10005)] (fun es => ⟨[(4, .bool true), (65538, wP 10000), (65539, wP 10001), (65540, wP 10002), (65541, iP x8), (65544, .str r50.2.1), (65564, .bool (!r50.2.2)), (65565, .str r50.1)], [(10000, eP 30 1 [[.nils]]), (10001, eP 25 2 [[iP 0, iP 0]]), (10002, ⟨0, 65, 8, [[.own 10003 0, iP x62, .bool false, iP r54.1, iP r56.1, iP x63, iP b6, .bool false]], false, false, false⟩), (10003, ⟨0, 45, 3, es, false, false, false⟩), (10004, eP 9 1 (mP xo)), (10005, eP 9 1 (mP xn))], 2⟩) w1 SAtOldNew.cells [iP xa, .own 10004 0, .own 10005 0] (fun _ => rfl), ?_⟩
                 refine ⟨_, rfl, ?_⟩
                 refine Sq.wEnd nb ?_
                 refine W.guardT rfl c70 ?_
                 refine W.not rfl ?_
                 refine W.pickN rfl rfl rfl c70 ?_
                 refine W.nil ?_
                 refine Ev.condF rfl rfl ?_
                 refine Ev.skip ?_
                 refine Ev.seq ?_
                 refine W.reg hm ?_
                 refine W.mv rfl (W.mv rfl ?_)
                 refine W.nil ?_
                 refine W.reg hm ?_
                 refine W.mv rfl ?_
                 obtain ⟨x64, k95, h⟩ := obind h
                 refine W.addG rfl rfl k95 ?_
                 refine W.mv rfl (W.nil ?_)
                 exact ⟨(m1, none, (w1 ++ [(⟨xa, xo, xn⟩ : SAtOldNew)]), x62, r54.1, r56.1, x63, b6, false, x64, r50.2.1), h, Nat.lt_succ_self _, (Wk.nrmX (S := ⟨[(2, wP 10000), (3, wP 10001), (4, wP 10002), (5, iP x64), (6, .str r50.2.1), (29, .str r50.1), (30, .bool true), (31, .bool false)], [(10000, eP 30 1 [[.nils]]), (10001, eP 25 2 [[iP 0, iP 0]]), (10002, ⟨0, 65, 8, [[.own 10003 0, iP x62, .bool false, iP r54.1, iP r56.1, iP x63, iP b6, .bool false]], false, false, false⟩), (10003, ⟨0, 45, 3, List.map SAtOldNew.cells w1 ++ [[iP xa, .own 10004 0, .own 10005 0]], false, false, false⟩), (10004, eP 9 1 (mP xo)), (10005, eP 9 1 (mP xn))], 2⟩) [2, 3, 4, 5, 6, 29, 30, 31] [(10000, 10000), (10001, 10001), (10002, 10002), (10003, 10003), (10004, 10004), (10005, 10005)] (fun es => ⟨[(2, wP 10000), (3, wP 10001), (4, wP 10002), (5, iP x64), (6, .str r50.2.1), (29, .str r50.1), (30, .bool true), (31, .bool false)], [(10000, eP 30 1 [[.nils]]), (10001, eP 25 2 [[iP 0, iP 0]]), (10002, ⟨0, 65, 8, [[.own 10003 0, iP x62, .bool false, iP r54.1, iP r56.1, iP x63, iP b6, .bool false]], false, false, false⟩), (10003, ⟨0, 45, 3, es, false, false, false⟩), (10004, eP 9 1 (mP xo)), (10005, eP 9 1 (mP xn))], 2⟩) w1 SAtOldNew.cells [iP xa, .own 10004 0, .own 10005 0] (fun _ => rfl)).trans ((Wk.frzX (S := ⟨[(2, wP 10000), (3, wP 10001), (4, wP 10002), (5, iP x64), (6, .str r50.2.1), (29, .str r50.1), (30, .bool true), (31, .bool false)], [(10004, ⟨0, 9, 1, mP xo, true, false, true⟩), (10000, eP 30 1 [[.nils]]), (10001, eP 25 2 [[iP 0, iP 0]]), (10002, ⟨0, 65, 8, [[.own 10003 0, iP x62, .bool false, iP r54.1, iP r56.1, iP x63, iP b6, .bool false]], false, false, false⟩), (10003, ⟨0, 45, 3, List.map SAtOldNew.cells w1 ++ [[iP xa, lP xo, .own 10005 0]], false, false, false⟩), (10004, eP 9 1 (mP xo)), (10005, eP 9 1 (mP xn))], 2⟩) 10004 0 (fun es dt => ⟨[(2, wP 10000), (3, wP 10001), (4, wP 10002), (5, iP x64), (6, .str r50.2.1), (29, .str r50.1), (30, .bool true), (31, .bool false)], [(10004, ⟨0, 9, 1, mP xo, true, false, true⟩), (10000, eP 30 1 [[.nils]]), (10001, eP 25 2 [[iP 0, iP 0]]), (10002, ⟨0, 65, 8, [[.own 10003 0, iP x62, .bool false, iP r54.1, iP r56.1, iP x63, iP b6, .bool false]], false, false, false⟩), (10003, ⟨0, 45, 3, es, dt, false, false⟩), (10004, eP 9 1 (mP xo)), (10005, eP 9 1 (mP xn))], 2⟩) w1 SAtOldNew.cells [iP xa, .own 10004 0, .own 10005 0] rfl rfl (fun _ => rfl) (fun _ => rfl)).trans ((Wk.frzX (S := ⟨[(2, wP 10000), (3, wP 10001), (4, wP 10002), (5, iP x64), (6, .str r50.2.1), (29, .str r50.1), (30, .bool true), (31, .bool false)], [(10005, ⟨0, 9, 1, mP xn, true, false, true⟩), (10004, ⟨0, 9, 1, mP xo, true, false, true⟩), (10000, eP 30 1 [[.nils]]), (10001, eP 25 2 [[iP 0, iP 0]]), (10002, ⟨0, 65, 8, [[.own 10003 0, iP x62, .bool false, iP r54.1, iP r56.1, iP x63, iP b6, .bool false]], false, false, false⟩), (10003, eP 45 3 (List.map SAtOldNew.cells w1 ++ [[iP xa, lP xo, lP xn]])), (10004, eP 9 1 (mP xo)), (10005, eP 9 1 (mP xn))], 2⟩) 10005 0 (fun es dt => ⟨[(2, wP 10000), (3, wP 10001), (4, wP 10002), (5, iP x64), (6, .str r50.2.1), (29, .str r50.1), (30, .bool true), (31, .bool false)], [(10005, ⟨0, 9, 1, mP xn, true, false, true⟩), (10004, ⟨0, 9, 1, mP xo, true, false, true⟩), (10000, eP 30 1 [[.nils]]), (10001, eP 25 2 [[iP 0, iP 0]]), (10002, ⟨0, 65, 8, [[.own 10003 0, iP x62, .bool false, iP r54.1, iP r56.1, iP x63, iP b6, .bool false]], false, false, false⟩), (10003, ⟨0, 45, 3, es, dt, false, false⟩), (10004, eP 9 1 (mP xo)), (10005, eP 9 1 (mP xn))], 2⟩) w1 SAtOldNew.cells [iP xa, lP xo, .own 10005 0] rfl rfl (fun _ => rfl) (fun _ => rfl)).trans ((Wk.rowLe (S := ⟨[(2, wP 10000), (3, wP 10001), (4, wP 10002), (5, iP x64), (6, .str r50.2.1), (29, .str r50.1), (30, .bool true), (31, .bool false)], [(10003, eP 45 3 (mP (w1 ++ [(⟨xa, xo, xn⟩ : SAtOldNew)]))), (10005, ⟨0, 9, 1, mP xn, true, false, true⟩), (10004, ⟨0, 9, 1, mP xo, true, false, true⟩), (10000, eP 30 1 [[.nils]]), (10001, eP 25 2 [[iP 0, iP 0]]), (10002, ⟨0, 65, 8, [[.own 10003 0, iP x62, .bool false, iP r54.1, iP r56.1, iP x63, iP b6, .bool false]], false, false, false⟩), (10003, eP 45 3 (List.map SAtOldNew.cells w1 ++ [[iP xa, lP xo, lP xn]])), (10004, eP 9 1 (mP xo)), (10005, eP 9 1 (mP xn))], 2⟩) 10003 0 (es' := List.map SAtOldNew.cells (w1 ++ [(⟨xa, xo, xn⟩ : SAtOldNew)])) rfl rfl (LesR.snoc (c := SAtOldNew.cells) (l := w1) (x := (⟨xa, xo, xn⟩ : SAtOldNew)) (fun _ => rfl) (.cons (.refl _) (.cons (.refl _) (.cons (.refl _) (.nil))))) rfl).trans (Wk.nrmTo [2, 3, 4, 5, 6] [(10000, 10000), (10001, 10001), (10002, 10002), (10003, 10003)] rfl rfl))))⟩
                ·replace h := iteF h c92
                 refine Ev.skip ?_
                 refine ⟨_, Wk.nrmX (S := ⟨[(65536, wP 10000), (65543, wP 10004), (131076, .bool false), (196610, wP 10005), (196611, wP 10006), (196612, wP 10000), (196613, iP x8), (196616, .str r50.2.1), (196636, .bool (!r50.2.2)), (196637, .str r50.1)], [(10000, ⟨0, 65, 8, [[.own 10001 0, iP b2, .bool true, iP b3, iP b4, iP b5, iP b6, .bool b7]], false, false, false⟩), (10001, ⟨0, 45, 3, List.map SAtOldNew.cells w1 ++ [[iP xa, .own 10002 0, .own 10003 0]], false, false, false⟩), (10002, eP 9 1 (mP xo)), (10003, eP 9 1 (mP xn)), (10004, eP 110 4 [[iP r53.1, iP r54.1, iP r55.1, iP r56.1]]), (10005, eP 30 1 [[.nils]]), (10006, eP 25 2 [[iP 0, iP 0]])], 2⟩) [65536, 65543, 131076, 196610, 196611, 196612, 196613, 196616, 196636, 196637] [(10000, 10000), (10001, 10001), (10002, 10002), (10003, 10003), (10004, 10004), (10005, 10005), (10006, 10006)] (fun es => ⟨[(65536, wP 10000), (65543, wP 10004), (131076, .bool false), (196610, wP 10005), (196611, wP 10006), (196612, wP 10000), (196613, iP x8), (196616, .str r50.2.1), (196636, .bool (!r50.2.2)), (196637, .str r50.1)], [(10000, ⟨0, 65, 8, [[.own 10001 0, iP b2, .bool true, iP b3, iP b4, iP b5, iP b6, .bool b7]], false, false, false⟩), (10001, ⟨0, 45, 3, es, false, false, false⟩), (10002, eP 9 1 (mP xo)), (10003, eP 9 1 (mP xn)), (10004, eP 110 4 [[iP r53.1, iP r54.1, iP r55.1, iP r56.1]]), (10005, eP 30 1 [[.nils]]), (10006, eP 25 2 [[iP 0, iP 0]])], 2⟩) w1 SAtOldNew.cells [iP xa, .own 10002 0, .own 10003 0] (fun _ => rfl), ?_⟩
                 refine ⟨_, rfl, ?_⟩
                 refine Sq.wEnd nb ?_
                 refine W.nil ?_
                 refine Ev.seq ?_
                 refine W.regD hm ?_
                 refine W.mv rfl (W.mv rfl ?_)
                 refine W.idxAO (n := 1) rfl rfl rfl (by decide) rfl (by decide) ?_
                 refine W.loadO (p := iP r54.1) rfl rfl rfl rfl ?_
                 refine W.idxAO (n := 3) rfl rfl rfl (by decide) rfl (by decide) ?_
                 refine W.loadO (p := iP r56.1) rfl rfl rfl rfl ?_
                 refine W.nilCheckO rfl rfl (W.fieldAddrO rfl rfl ?_)
                 refine W.store (es' := [[.own 10001 0, iP b2, .bool true, iP r54.1, iP b4, iP b5, iP b6, .bool b7]]) (dt := false) rfl rfl rfl rfl rfl (Nat.le_of_ble_eq_true rfl) rfl rfl rfl rfl ?_
                 refine W.nilCheckO rfl rfl (W.fieldAddrO rfl rfl ?_)
                 refine W.store (es' := [[.own 10001 0, iP b2, .bool true, iP r54.1, iP r56.1, iP b5, iP b6, .bool b7]]) (dt := false) rfl rfl rfl rfl rfl (Nat.le_of_ble_eq_true rfl) rfl rfl rfl rfl ?_
                 refine W.nil ⟨rfl, ?_⟩
                 refine Ev.seq ?_
                 refine W.reg hm ?_
                 refine W.mv rfl (W.nil ?_)
                 refine Ev.ret ?_
                 refine ⟨_, Wk.nrmX (S := ⟨[(4, .bool true), (65540, .bool false), (131074, wP 10000), (131075, wP 10001), (131076, wP 10002), (131077, iP x8), (131080, .str r50.2.1), (131100, .bool (!r50.2.2)), (131101, .str r50.1)], [(10000, eP 30 1 [[.nils]]), (10001, eP 25 2 [[iP 0, iP 0]]), (10002, ⟨0, 65, 8, [[.own 10003 0, iP b2, .bool true, iP r54.1, iP r56.1, iP b5, iP b6, .bool b7]], false, false, false⟩), (10003, ⟨0, 45, 3, List.map SAtOldNew.cells w1 ++ [[iP xa, .own 10004 0, .own 10005 0]], false, false, false⟩), (10004, eP 9 1 (mP xo)), (10005, eP 9 1 (mP xn))], 2⟩) [4, 65540, 131074, 131075, 131076, 131077, 131080, 131100, 131101] [(10005, 10000), (10006, 10001), (10000, 10002), (10001, 10003), (10002, 10004), (10003, 10005)] (fun es => ⟨[(4, .bool true), (65540, .bool false), (131074, wP 10000), (131075, wP 10001), (131076, wP 10002), (131077, iP x8), (131080, .str r50.2.1), (131100, .bool (!r50.2.2)), (131101, .str r50.1)], [(10000, eP 30 1 [[.nils]]), (10001, eP 25 2 [[iP 0, iP 0]]), (10002, ⟨0, 65, 8, [[.own 10003 0, iP b2, .bool true, iP r54.1, iP r56.1, iP b5, iP b6, .bool b7]], false, false, false⟩), (10003, ⟨0, 45, 3, es, false, false, false⟩), (10004, eP 9 1 (mP xo)), (10005, eP 9 1 (mP xn))], 2⟩) w1 SAtOldNew.cells [iP xa, .own 10002 0, .own 10003 0] (fun _ => rfl), ?_⟩
                 refine ⟨_, rfl, ?_⟩
                 refine Sq.wEnd nb ?_
                 refine W.mv rfl (W.nil ?_)
                 refine Ev.ret ?_
                 refine ⟨_, Wk.nrmX (S := ⟨[(4, .bool true), (65538, wP 10000), (65539, wP 10001), (65540, wP 10002), (65541, iP x8), (65544, .str r50.2.1), (65564, .bool (!r50.2.2)), (65565, .str r50.1)], [(10000, eP 30 1 [[.nils]]), (10001, eP 25 2 [[iP 0, iP 0]]), (10002, ⟨0, 65, 8, [[.own 10003 0, iP b2, .bool true, iP r54.1, iP r56.1, iP b5, iP b6, .bool b7]], false, false, false⟩), (10003, ⟨0, 45, 3, List.map SAtOldNew.cells w1 ++ [[iP xa, .own 10004 0, .own 10005 0]], false, false, false⟩), (10004, eP 9 1 (mP xo)), (10005, eP 9 1 (mP xn))], 2⟩) [4, 65538, 65539, 65540, 65541, 65544, 65564, 65565] [(10000, 10000), (10001, 10001), (10002, 10002), (10003, 10003), (10004, 10004), (10005, 10005)] (fun es => ⟨[(4, .bool true), (65538, wP 10000), (65539, wP 10001), (65540, wP 10002), (65541, iP x8), (65544, .str r50.2.1), (65564, .bool (!r50.2.2)), (65565, .str r50.1)], [(10000, eP 30 1 [[.nils]]), (10001, eP 25 2 [[iP 0, iP 0]]), (10002, ⟨0, 65, 8, [[.own 10003 0, iP b2, .bool true, iP r54.1, iP r56.1, iP b5, iP b6, .bool b7]], false, false, false⟩), (10003, ⟨0, 45, 3, es, false, false, false⟩), (10004, eP 9 1 (mP xo)), (10005, eP 9 1 (mP xn))], 2⟩) w1 SAtOldNew.cells [iP xa, .own 10004 0, .own 10005 0] (fun _ => rfl), ?_⟩
                 refine ⟨_, rfl, ?_⟩
                 refine Sq.wEnd nb ?_
                 refine W.guardT rfl c70 ?_
                 refine W.not rfl ?_
                 refine W.pickN rfl rfl rfl c70 ?_
                 refine W.nil ?_
                 refine Ev.condF rfl rfl ?_
                 refine Ev.skip ?_
                 refine Ev.seq ?_
                 refine W.reg hm ?_
                 refine W.mv rfl (W.mv rfl ?_)
                 refine W.nil ?_
                 refine W.reg hm ?_
                 refine W.mv rfl ?_
                 obtain ⟨x65, k96, h⟩ := obind h
                 refine W.addG rfl rfl k96 ?_
                 refine W.mv rfl (W.nil ?_)
                 exact ⟨(m1, (some (xa, xo, xn)), w1, b2, r54.1, r56.1, b5, b6, b7, x65, r50.2.1), h, Nat.lt_succ_self _, Wk.nrmX [2, 3, 4, 5, 6] [(10000, 10000), (10001, 10001), (10002, 10002), (10003, 10003), (10004, 10090), (10005, 10091)] (fun es => ⟨[(2, wP 10000), (3, wP 10001), (4, wP 10002), (5, iP x65), (6, .str r50.2.1)], [(10000, eP 30 1 [[.nils]]), (10001, eP 25 2 [[iP 0, iP 0]]), (10002, ⟨0, 65, 8, [[.own 10003 0, iP b2, .bool true, iP r54.1, iP r56.1, iP b5, iP b6, .bool b7]], false, false, false⟩), (10003, ⟨0, 45, 3, es, false, false, false⟩), (10090, eP 9 1 (mP xo)), (10091, eP 9 1 (mP xn))], 2⟩) w1 SAtOldNew.cells [iP xa, .own 10004 0, .own 10005 0] (fun _ => rfl)⟩
      ·replace h := iteF h c72
       refine Ev.skip ?_
       refine Ev.seq (Ev.seq ?_)
       refine W.reg hm ?_
       refine W.mv rfl (W.seql rfl rfl ?_)
       refine W.nil ?_
       refine Ev.cond rfl (fun c97 => ?_) (fun c97 => ?_)
       ·replace h := iteT h c97
        refine Ev.seq ?_
        refine W.reg hm ?_
        refine W.mv rfl (W.nil ?_)
        refine Ev.ret ?_
        refine ⟨_, Wk.nrmX (S := ⟨[(4, .bool false), (65538, wP 10000), (65539, wP 10001), (65540, wP 10002), (65541, iP x8), (65544, .str r50.2.1), (65564, .bool (!r50.2.2)), (65565, .str r50.1)], [(10000, eP 30 1 [[.nils]]), (10001, eP 25 2 [[iP 0, iP 0]]), (10002, ⟨0, 65, 8, [[.own 10003 0, iP b2, .bool true, iP b3, iP b4, iP b5, iP b6, .bool b7]], false, false, false⟩), (10003, ⟨0, 45, 3, List.map SAtOldNew.cells w1 ++ [[iP xa, .own 10004 0, .own 10005 0]], false, false, false⟩), (10004, eP 9 1 (mP xo)), (10005, eP 9 1 (mP xn))], 2⟩) [4, 65538, 65539, 65540, 65541, 65544, 65564, 65565] [(10000, 10000), (10001, 10001), (10002, 10002), (10003, 10003), (10090, 10004), (10091, 10005)] (fun es => ⟨[(4, .bool false), (65538, wP 10000), (65539, wP 10001), (65540, wP 10002), (65541, iP x8), (65544, .str r50.2.1), (65564, .bool (!r50.2.2)), (65565, .str r50.1)], [(10000, eP 30 1 [[.nils]]), (10001, eP 25 2 [[iP 0, iP 0]]), (10002, ⟨0, 65, 8, [[.own 10003 0, iP b2, .bool true, iP b3, iP b4, iP b5, iP b6, .bool b7]], false, false, false⟩), (10003, ⟨0, 45, 3, es, false, false, false⟩), (10004, eP 9 1 (mP xo)), (10005, eP 9 1 (mP xn))], 2⟩) w1 SAtOldNew.cells [iP xa, .own 10090 0, .own 10091 0] (fun _ => rfl), ?_⟩
        refine ⟨_, rfl, ?_⟩
        refine Sq.wEnd nb ?_
        refine W.guardT rfl c70 ?_
        refine W.not rfl ?_
        refine W.pickN rfl rfl rfl c70 ?_
        refine W.nil ?_
        refine Ev.condT rfl rfl ?_
        refine Ev.seq ?_
        refine W.reg hm ?_
        refine W.build (cs := [.nils]) rfl rfl rfl ?_
        refine W.mv rfl ?_
        refine W.build (cs := [iP 1, iP x8]) rfl rfl rfl ?_
        refine W.store (es' := [[.nils]]) (dt := true) rfl rfl rfl rfl rfl (Nat.le_of_ble_eq_true rfl) rfl rfl rfl rfl ?_
        refine W.store (es' := [[iP 1, iP x8]]) (dt := true) rfl rfl rfl rfl rfl (Nat.le_of_ble_eq_true rfl) rfl rfl rfl rfl ?_
        refine W.nil ?_
        refine Ev.ret ?_
        injection h with h; subst h
        exact ⟨_, rfl, Le.tups (.cons (Le.aggs (.cons (.nils 3) (.nil)) rfl) (.cons (.refl _) (.nil)))⟩
       ·replace h := iteF h c97
        refine Ev.skip ?_
        refine Ev.seq (Ev.seq ?_)
        refine W.reg hm ?_
        refine W.mv rfl ?_
        obtain ⟨y66, k98, h⟩ := obind h
        refine W.sidxG rfl rfl k98 ?_
        refine W.nil ?_
        refine Ev.block ?_
        refine Ev.seq ?_
        refine W.reg hm ?_
        refine W.eql rfl rfl (W.mv rfl ?_)
        refine W.nil ?_
        refine Ev.cond rfl (fun c99 => ?_) (fun c99 => ?_)
        ·replace h := iteT h c99
         refine Ev.seq ?_
         refine W.regD hm ?_
         refine W.mv rfl (W.mv rfl ?_)
         refine W.mv rfl (W.nilCheckO rfl rfl ?_)
         refine W.fieldAddrO rfl rfl ?_
         refine W.loadO (p := iP b3) rfl rfl rfl rfl ?_
         obtain ⟨x67, k100, h⟩ := obind h
         refine W.subG rfl rfl k100 ?_
         refine W.mv rfl (W.nilCheckO rfl rfl ?_)
         refine W.fieldAddrO rfl rfl ?_
         refine W.loadO (p := iP b4) rfl rfl rfl rfl ?_
         obtain ⟨x68, k101, h⟩ := obind h
         refine W.subG rfl rfl k101 ?_
         refine W.nilCheckO rfl rfl (W.fieldAddrO rfl rfl ?_)
         refine W.store (es' := [[.own 10003 0, iP b2, .bool true, iP x67, iP b4, iP b5, iP b6, .bool b7]]) (dt := false) rfl rfl rfl rfl rfl (Nat.le_of_ble_eq_true rfl) rfl rfl rfl rfl ?_
         refine W.nilCheckO rfl rfl (W.fieldAddrO rfl rfl ?_)
         refine W.store (es' := [[.own 10003 0, iP b2, .bool true, iP x67, iP x68, iP b5, iP b6, .bool b7]]) (dt := false) rfl rfl rfl rfl rfl (Nat.le_of_ble_eq_true rfl) rfl rfl rfl rfl ?_
         refine W.nil ⟨rfl, ?_⟩
         refine Ev.regS rfl ?_
         refine Sq.w 1 nb ?_
         refine W.mv rfl (W.nil ?_)
         refine Sq.call rfl Tryz.c_unified_parser_keep ⟨_, rfl, nb, ?_⟩
         unfold Tryz.l_unified_parser_keep
         refine Ev.seq ?_
         refine W.reg hm ?_
         refine W.mv rfl (W.gtr rfl rfl ?_)
         refine W.nil ?_
         refine Ev.condT rfl rfl ?_
         refine Ev.seq ?_
         refine Ev.regS rfl ?_
         refine Sq.w 4 nb ?_
         refine W.mv rfl (W.nilCheckO rfl rfl ?_)
         refine W.fieldAddrO rfl rfl (W.mv rfl ?_)
         refine W.nil ?_
         refine Sq.call rfl Tryz.c_diff_Collector_Keep ⟨_, rfl, nb, ?_⟩
         unfold Tryz.l_diff_Collector_Keep
         refine Ev.seq ?_
         refine W.reg hm ?_
         refine W.mv rfl (W.gtr rfl rfl ?_)
         refine W.nil ?_
         refine Ev.condT rfl rfl ?_
         refine W.reg hm ?_
         refine W.mv rfl (W.mv rfl ?_)
         refine W.mv rfl (W.nilCheckO rfl rfl ?_)
         refine W.fieldAddrO rfl rfl ?_
         refine W.loadO (p := iP b2) rfl rfl rfl rfl ?_
         refine W.mv rfl ?_
         obtain ⟨x69, k102, h⟩ := obind h
         refine W.addG rfl rfl k102 ?_
         refine W.nilCheckO rfl rfl (W.fieldAddrO rfl rfl ?_)
         refine W.store (es' := [[.own 10003 0, iP x69, .bool true, iP x67, iP x68, iP b5, iP b6, .bool b7]]) (dt := false) rfl rfl rfl rfl rfl (Nat.le_of_ble_eq_true rfl) rfl rfl rfl rfl ?_
         refine W.nilCheckO rfl rfl (W.fieldAddrO rfl rfl ?_)
         refine W.store (es' := [[.own 10003 0, iP x69, .bool false, iP x67, iP x68, iP b5, iP b6, .bool b7]]) (dt := false) rfl rfl rfl rfl rfl (Nat.le_of_ble_eq_true rfl) rfl rfl rfl rfl ?_
         refine W.nil ?_
         refine ⟨_, Wk.nrmX (S := ⟨[(65536, wP 10000), (65537, iP 1), (131072, wP 10000), (196610, wP 10004), (196611, wP 10005), (196612, wP 10000), (196613, iP x8), (196616, .str r50.2.1), (196636, .bool (!r50.2.2)), (196637, .str r50.1)], [(10000, ⟨0, 65, 8, [[.own 10001 0, iP x69, .bool false, iP x67, iP x68, iP b5, iP b6, .bool b7]], false, false, false⟩), (10001, ⟨0, 45, 3, List.map SAtOldNew.cells w1 ++ [[iP xa, .own 10002 0, .own 10003 0]], false, false, false⟩), (10002, eP 9 1 (mP xo)), (10003, eP 9 1 (mP xn)), (10004, eP 30 1 [[.nils]]), (10005, eP 25 2 [[iP 0, iP 0]])], 2⟩) [65536, 65537, 131072, 196610, 196611, 196612, 196613, 196616, 196636, 196637] [(10002, 10000), (10003, 10001), (10090, 10002), (10091, 10003), (10000, 10004), (10001, 10005)] (fun es => ⟨[(65536, wP 10000), (65537, iP 1), (131072, wP 10000), (196610, wP 10004), (196611, wP 10005), (196612, wP 10000), (196613, iP x8), (196616, .str r50.2.1), (196636, .bool (!r50.2.2)), (196637, .str r50.1)], [(10000, ⟨0, 65, 8, [[.own 10001 0, iP x69, .bool false, iP x67, iP x68, iP b5, iP b6, .bool b7]], false, false, false⟩), (10001, ⟨0, 45, 3, es, false, false, false⟩), (10002, eP 9 1 (mP xo)), (10003, eP 9 1 (mP xn)), (10004, eP 30 1 [[.nils]]), (10005, eP 25 2 [[iP 0, iP 0]])], 2⟩) w1 SAtOldNew.cells [iP xa, .own 10090 0, .own 10091 0] (fun _ => rfl), ?_⟩
         refine ⟨_, rfl, ?_⟩
         refine Sq.wEnd nb ?_
         refine W.nil ?_
         refine W.reg hm ?_
         refine W.mv rfl (W.mv rfl ?_)
         refine W.mv rfl (W.nilCheckO rfl rfl ?_)
         refine W.fieldAddrO rfl rfl ?_
         refine W.loadO (p := iP b5) rfl rfl rfl rfl ?_
         refine W.mv rfl ?_
         obtain ⟨x70, k103, h⟩ := obind h
         refine W.addG rfl rfl k103 ?_
         refine W.nilCheckO rfl rfl (W.fieldAddrO rfl rfl ?_)
         refine W.store (es' := [[.own 10001 0, iP x69, .bool false, iP x67, iP x68, iP x70, iP b6, .bool b7]]) (dt := false) rfl rfl rfl rfl rfl (Nat.le_of_ble_eq_true rfl) rfl rfl rfl rfl ?_
         refine W.nilCheckO rfl rfl (W.fieldAddrO rfl rfl ?_)
         refine W.store (es' := [[.own 10001 0, iP x69, .bool false, iP x67, iP x68, iP x70, iP b6, .bool false]]) (dt := false) rfl rfl rfl rfl rfl (Nat.le_of_ble_eq_true rfl) rfl rfl rfl rfl ?_
         refine W.nil ?_
         refine ⟨_, Wk.nrmX (S := ⟨[(65536, wP 10000), (131074, wP 10004), (131075, wP 10005), (131076, wP 10000), (131077, iP x8), (131080, .str r50.2.1), (131100, .bool (!r50.2.2)), (131101, .str r50.1)], [(10000, ⟨0, 65, 8, [[.own 10001 0, iP x69, .bool false, iP x67, iP x68, iP x70, iP b6, .bool false]], false, false, false⟩), (10001, ⟨0, 45, 3, List.map SAtOldNew.cells w1 ++ [[iP xa, .own 10002 0, .own 10003 0]], false, false, false⟩), (10002, eP 9 1 (mP xo)), (10003, eP 9 1 (mP xn)), (10004, eP 30 1 [[.nils]]), (10005, eP 25 2 [[iP 0, iP 0]])], 2⟩) [65536, 131074, 131075, 131076, 131077, 131080, 131100, 131101] [(10000, 10000), (10001, 10001), (10002, 10002), (10003, 10003), (10004, 10004), (10005, 10005)] (fun es => ⟨[(65536, wP 10000), (131074, wP 10004), (131075, wP 10005), (131076, wP 10000), (131077, iP x8), (131080, .str r50.2.1), (131100, .bool (!r50.2.2)), (131101, .str r50.1)], [(10000, ⟨0, 65, 8, [[.own 10001 0, iP x69, .bool false, iP x67, iP x68, iP x70, iP b6, .bool false]], false, false, false⟩), (10001, ⟨0, 45, 3, es, false, false, false⟩), (10002, eP 9 1 (mP xo)), (10003, eP 9 1 (mP xn)), (10004, eP 30 1 [[.nils]]), (10005, eP 25 2 [[iP 0, iP 0]])], 2⟩) w1 SAtOldNew.cells [iP xa, .own 10002 0, .own 10003 0] (fun _ => rfl), ?_⟩
         refine ⟨_, rfl, ?_⟩
         refine Sq.wEnd nb ?_
         refine W.nil ?_
         refine Ev.seq ?_
         refine W.reg hm ?_
         refine W.mv rfl (W.nilCheckO rfl rfl ?_)
         refine W.fieldAddrO rfl rfl ?_
         refine W.loadO (p := iP x67) rfl rfl rfl rfl ?_
         refine W.geq rfl rfl (W.mv rfl ?_)
         refine W.split 110 rfl (fun c104 => ?_) (fun c104 => ?_)
         ·replace h := iteT h c104
          refine W.guardT rfl c104 ?_
          refine W.mv rfl ?_
          refine W.guardT rfl c104 ?_
          refine W.nilCheckO rfl rfl ?_
          refine W.guardT rfl c104 ?_
          refine W.fieldAddrO rfl rfl ?_
          refine W.guardT rfl c104 ?_
          refine W.loadO (p := iP x68) rfl rfl rfl rfl ?_
          refine W.guardT rfl c104 ?_
          refine W.geq rfl rfl ?_
          refine W.pickT rfl rfl rfl c104 ?_
          refine W.mv rfl (W.nil ?_)
          refine Ev.ret ?_
          refine ⟨_, Wk.nrmX (S := ⟨[(4, .bool (decide (0 ≤ x68))), (65538, wP 10000), (65539, wP 10001), (65540, wP 10002), (65541, iP x8), (65544, .str r50.2.1), (65564, .bool (!r50.2.2)), (65565, .str r50.1)], [(10000, eP 30 1 [[.nils]]), (10001, eP 25 2 [[iP 0, iP 0]]), (10002, ⟨0, 65, 8, [[.own 10003 0, iP x69, .bool false, iP x67, iP x68, iP x70, iP b6, .bool false]], false, false, false⟩), (10003, ⟨0, 45, 3, List.map SAtOldNew.cells w1 ++ [[iP xa, .own 10004 0, .own 10005 0]], false, false, false⟩), (10004, eP 9 1 (mP xo)), (10005, eP 9 1 (mP xn))], 2⟩) [4, 65538, 65539, 65540, 65541, 65544, 65564, 65565] [(10004, 10000), (10005, 10001), (10000, 10002), (10001, 10003), (10002, 10004), (10003, 10005)] (fun es => ⟨[(4, .bool (decide (0 ≤ x68))), (65538, wP 10000), (65539, wP 10001), (65540, wP 10002), (65541, iP x8), (65544, .str r50.2.1), (65564, .bool (!r50.2.2)), (65565, .str r50.1)], [(10000, eP 30 1 [[.nils]]), (10001, eP 25 2 [[iP 0, iP 0]]), (10002, ⟨0, 65, 8, [[.own 10003 0, iP x69, .bool false, iP x67, iP x68, iP x70, iP b6, .bool false]], false, false, false⟩), (10003, ⟨0, 45, 3, es, false, false, false⟩), (10004, eP 9 1 (mP xo)), (10005, eP 9 1 (mP xn))], 2⟩) w1 SAtOldNew.cells [iP xa, .own 10002 0, .own 10003 0] (fun _ => rfl), ?_⟩
          refine ⟨_, rfl, ?_⟩
          refine Sq.wEnd nb ?_
          refine W.guardT rfl c70 ?_
          refine W.not rfl ?_
          refine W.pickN rfl rfl rfl c70 ?_
          refine W.nil ?_
          refine Ev.cond rfl (fun c105 => ?_) (fun c105 => ?_)
          ·replace h := iteT h c105
           refine Ev.seq ?_
           refine W.reg hm ?_
           refine W.build (cs := [.nils]) rfl rfl rfl ?_
           refine W.mv rfl ?_
           refine W.build (cs := [iP 1, iP x8]) rfl rfl rfl ?_
           refine W.store (es' := [[.nils]]) (dt := true) rfl rfl rfl rfl rfl (Nat.le_of_ble_eq_true rfl) rfl rfl rfl rfl ?_
           refine W.store (es' := [[iP 1, iP x8]]) (dt := true) rfl rfl rfl rfl rfl (Nat.le_of_ble_eq_true rfl) rfl rfl rfl rfl ?_
           refine W.nil ?_
           refine Ev.ret ?_
           injection h with h; subst h
           exact ⟨_, rfl, Le.tups (.cons (Le.aggs (.cons (.nils 3) (.nil)) rfl) (.cons (.refl _) (.nil)))⟩
          ·replace h := iteF h c105
           refine Ev.skip ?_
           refine Ev.seq ?_
           refine W.reg hm ?_
           refine W.mv rfl (W.mv rfl ?_)
           refine W.nil ?_
           refine W.reg hm ?_
           refine W.mv rfl ?_
           obtain ⟨x71, k106, h⟩ := obind h
           refine W.addG rfl rfl k106 ?_
           refine W.mv rfl (W.nil ?_)
           exact ⟨(m1, none, (w1 ++ [(⟨xa, xo, xn⟩ : SAtOldNew)]), x69, x67, x68, x70, b6, false, x71, r50.2.1), h, Nat.lt_succ_self _, (Wk.nrmX (S := ⟨[(2, wP 10000), (3, wP 10001), (4, wP 10002), (5, iP x71), (6, .str r50.2.1), (29, .str r50.1), (30, .bool (decide (0 ≤ x68))), (31, .bool (!(decide (0 ≤ x68))))], [(10000, eP 30 1 [[.nils]]), (10001, eP 25 2 [[iP 0, iP 0]]), (10002, ⟨0, 65, 8, [[.own 10003 0, iP x69, .bool false, iP x67, iP x68, iP x70, iP b6, .bool false]], false, false, false⟩), (10003, ⟨0, 45, 3, List.map SAtOldNew.cells w1 ++ [[iP xa, .own 10004 0, .own 10005 0]], false, false, false⟩), (10004, eP 9 1 (mP xo)), (10005, eP 9 1 (mP xn))], 2⟩) [2, 3, 4, 5, 6, 29, 30, 31] [(10000, 10000), (10001, 10001), (10002, 10002), (10003, 10003), (10004, 10004), (10005, 10005)] (fun es => ⟨[(2, wP 10000), (3, wP 10001), (4, wP 10002), (5, iP x71), (6, .str r50.2.1), (29, .str r50.1), (30, .bool (decide (0 ≤ x68))), (31, .bool (!(decide (0 ≤ x68))))], [(10000, eP 30 1 [[.nils]]), (10001, eP 25 2 [[iP 0, iP 0]]), (10002, ⟨0, 65, 8, [[.own 10003 0, iP x69, .bool false, iP x67, iP x68, iP x70, iP b6, .bool false]], false, false, false⟩), (10003, ⟨0, 45, 3, es, false, false, false⟩), (10004, eP 9 1 (mP xo)), (10005, eP 9 1 (mP xn))], 2⟩) w1 SAtOldNew.cells [iP xa, .own 10004 0, .own 10005 0] (fun _ => rfl)).trans ((Wk.frzX (S := ⟨[(2, wP 10000), (3, wP 10001), (4, wP 10002), (5, iP x71), (6, .str r50.2.1), (29, .str r50.1), (30, .bool (decide (0 ≤ x68))), (31, .bool (!(decide (0 ≤ x68))))], [(10004, ⟨0, 9, 1, mP xo, true, false, true⟩), (10000, eP 30 1 [[.nils]]), (10001, eP 25 2 [[iP 0, iP 0]]), (10002, ⟨0, 65, 8, [[.own 10003 0, iP x69, .bool false, iP x67, iP x68, iP x70, iP b6, .bool false]], false, false, false⟩), (10003, ⟨0, 45, 3, List.map SAtOldNew.cells w1 ++ [[iP xa, lP xo, .own 10005 0]], false, false, false⟩), (10004, eP 9 1 (mP xo)), (10005, eP 9 1 (mP xn))], 2⟩) 10004 0 (fun es dt => ⟨[(2, wP 10000), (3, wP 10001), (4, wP 10002), (5, iP x71), (6, .str r50.2.1), (29, .str r50.1), (30, .bool (decide (0 ≤ x68))), (31, .bool (!(decide (0 ≤ x68))))], [(10004, ⟨0, 9, 1, mP xo, true, false, true⟩), (10000, eP 30 1 [[.nils]]), (10001, eP 25 2 [[iP 0, iP 0]]), (10002, ⟨0, 65, 8, [[.own 10003 0, iP x69, .bool false, iP x67, iP x68, iP x70, iP b6, .bool false]], false, false, false⟩), (10003, ⟨0, 45, 3, es, dt, false, false⟩), (10004, eP 9 1 (mP xo)), (10005, eP 9 1 (mP xn))], 2⟩) w1 SAtOldNew.cells [iP xa, .own 10004 0, .own 10005 0] rfl rfl (fun _ => rfl) (fun _ => rfl)).trans ((Wk.frzX (S := ⟨[(2, wP 10000), (3, wP 10001), (4, wP 10002), (5, iP x71), (6, .str r50.2.1), (29, .str r50.1), (30, .bool (decide (0 ≤ x68))), (31, .bool (!(decide (0 ≤ x68))))], [(10005, ⟨0, 9, 1, mP xn, true, false, true⟩), (10004, ⟨0, 9, 1, mP xo, true, false, true⟩), (10000, eP 30 1 [[.nils]]), (10001, eP 25 2 [[iP 0, iP 0]]), (10002, ⟨0, 65, 8, [[.own 10003 0, iP x69, .bool false, iP x67, iP x68, iP x70, iP b6, .bool false]], false, false, false⟩), (10003, eP 45 3 (List.map SAtOldNew.cells w1 ++ [[iP xa, lP xo, lP xn]])), (10004, eP 9 1 (mP xo)), (10005, eP 9 1 (mP xn))], 2⟩) 10005 0 (fun es dt => ⟨[(2, wP 10000), (3, wP 10001), (4, wP 10002), (5, iP x71), (6, .str r50.2.1), (29, .str r50.1), (30, .bool (decide (0 ≤ x68))), (31, .bool (!(decide (0 ≤ x68))))], [(10005, ⟨0, 9, 1, mP xn, true, false, true⟩), (10004, ⟨0, 9, 1, mP xo, true, false, true⟩), (10000, eP 30 1 [[.nils]]), (10001, eP 25 2 [[iP 0, iP 0]]), (10002, ⟨0, 65, 8, [[.own 10003 0, iP x69, .bool false, iP x67, iP x68, iP x70, iP b6, .bool false]], false, false, false⟩), (10003, ⟨0, 45, 3, es, dt, false, false⟩), (10004, eP 9 1 (mP xo)), (10005, eP 9 1 (mP xn))], 2⟩) w1 SAtOldNew.cells [iP xa, lP xo, .own 10005 0] rfl rfl (fun _ => rfl) (fun _ => rfl)).trans ((Wk.rowLe (S := ⟨[(2, wP 10000), (3, wP 10001), (4, wP 10002), (5, iP x71), (6, .str r50.2.1), (29, .str r50.1), (30, .bool (decide (0 ≤ x68))), (31, .bool (!(decide (0 ≤ x68))))], [(10003, eP 45 3 (mP (w1 ++ [(⟨xa, xo, xn⟩ : SAtOldNew)]))), (10005, ⟨0, 9, 1, mP xn, true, false, true⟩), (10004, ⟨0, 9, 1, mP xo, true, false, true⟩), (10000, eP 30 1 [[.nils]]), (10001, eP 25 2 [[iP 0, iP 0]]), (10002, ⟨0, 65, 8, [[.own 10003 0, iP x69, .bool false, iP x67, iP x68, iP x70, iP b6, .bool false]], false, false, false⟩), (10003, eP 45 3 (List.map SAtOldNew.cells w1 ++ [[iP xa, lP xo, lP xn]])), (10004, eP 9 1 (mP xo)), (10005, eP 9 1 (mP xn))], 2⟩) 10003 0 (es' := List.map SAtOldNew.cells (w1 ++ [(⟨xa, xo, xn⟩ : SAtOldNew)])) rfl rfl (LesR.snoc (c := SAtOldNew.cells) (l := w1) (x := (⟨xa, xo, xn⟩ : SAtOldNew)) (fun _ => rfl) (.cons (.refl _) (.cons (.refl _) (.cons (.refl _) (.nil))))) rfl).trans (Wk.nrmTo [2, 3, 4, 5, 6] [(10000, 10000), (10001, 10001), (10002, 10002), (10003, 10003)] rfl rfl))))⟩
         ·replace h := iteF h c104
          refine W.guardF1 rfl c104 ?_
          refine W.guardF1 rfl c104 ?_
          refine W.guardF1 rfl c104 ?_
          refine W.guardF1 rfl c104 ?_
          refine W.guardF1 rfl c104 ?_
          refine W.pickN rfl rfl rfl c104 ?_
          refine W.mv rfl (W.nil ?_)
          refine Ev.ret ?_
          refine ⟨_, Wk.nrmX (S := ⟨[(4, .bool false), (65538, wP 10000), (65539, wP 10001), (65540, wP 10002), (65541, iP x8), (65544, .str r50.2.1), (65564, .bool (!r50.2.2)), (65565, .str r50.1)], [(10000, eP 30 1 [[.nils]]), (10001, eP 25 2 [[iP 0, iP 0]]), (10002, ⟨0, 65, 8, [[.own 10003 0, iP x69, .bool false, iP x67, iP x68, iP x70, iP b6, .bool false]], false, false, false⟩), (10003, ⟨0, 45, 3, List.map SAtOldNew.cells w1 ++ [[iP xa, .own 10004 0, .own 10005 0]], false, false, false⟩), (10004, eP 9 1 (mP xo)), (10005, eP 9 1 (mP xn))], 2⟩) [4, 65538, 65539, 65540, 65541, 65544, 65564, 65565] [(10004, 10000), (10005, 10001), (10000, 10002), (10001, 10003), (10002, 10004), (10003, 10005)] (fun es => ⟨[(4, .bool false), (65538, wP 10000), (65539, wP 10001), (65540, wP 10002), (65541, iP x8), (65544, .str r50.2.1), (65564, .bool (!r50.2.2)), (65565, .str r50.1)], [(10000, eP 30 1 [[.nils]]), (10001, eP 25 2 [[iP 0, iP 0]]), (10002, ⟨0, 65, 8, [[.own 10003 0, iP x69, .bool false, iP x67, iP x68, iP x70, iP b6, .bool false]], false, false, false⟩), (10003, ⟨0, 45, 3, es, false, false, false⟩), (10004, eP 9 1 (mP xo)), (10005, eP 9 1 (mP xn))], 2⟩) w1 SAtOldNew.cells [iP xa, .own 10002 0, .own 10003 0] (fun _ => rfl), ?_⟩
          refine ⟨_, rfl, ?_⟩
          refine Sq.wEnd nb ?_
          refine W.guardT rfl c70 ?_
          refine W.not rfl ?_
          refine W.pickN rfl rfl rfl c70 ?_
          refine W.nil ?_
          refine Ev.condT rfl rfl ?_
          refine Ev.seq ?_
          refine W.reg hm ?_
          refine W.build (cs := [.nils]) rfl rfl rfl ?_
          refine W.mv rfl ?_
          refine W.build (cs := [iP 1, iP x8]) rfl rfl rfl ?_
          refine W.store (es' := [[.nils]]) (dt := true) rfl rfl rfl rfl rfl (Nat.le_of_ble_eq_true rfl) rfl rfl rfl rfl ?_
          refine W.store (es' := [[iP 1, iP x8]]) (dt := true) rfl rfl rfl rfl rfl (Nat.le_of_ble_eq_true rfl) rfl rfl rfl rfl ?_
          refine W.nil ?_
          refine Ev.ret ?_
          injection h with h; subst h
          exact ⟨_, rfl, Le.tups (.cons (Le.aggs (.cons (.nils 3) (.nil)) rfl) (.cons (.refl _) (.nil)))⟩
        ·replace h := iteF h c99
         refine Ev.seq ?_
         refine W.reg hm ?_
         refine W.eql rfl rfl (W.mv rfl ?_)
         refine W.nil ?_
         refine Ev.cond rfl (fun c107 => ?_) (fun c107 => ?_)
         ·replace h := iteT h c107
          refine Ev.seq (Ev.seq ?_)
          refine W.reg hm ?_
          refine W.mv rfl (W.nilCheckO rfl rfl ?_)
          refine W.fieldAddrO rfl rfl ?_
          refine W.loadO (p := .bool b7) rfl rfl rfl rfl ?_
          refine W.nil ?_
          refine Ev.cond rfl (fun c108 => ?_) (fun c108 => ?_)
          ·replace h := iteT h c108
           refine Ev.seq ?_
           refine W.reg hm ?_
           refine W.mv rfl (W.nil ?_)
           refine Ev.ret ?_
           refine ⟨_, Wk.nrmX (S := ⟨[(4, .bool false), (65538, wP 10000), (65539, wP 10001), (65540, wP 10002), (65541, iP x8), (65544, .str r50.2.1), (65564, .bool (!r50.2.2)), (65565, .str r50.1)], [(10000, eP 30 1 [[.nils]]), (10001, eP 25 2 [[iP 0, iP 0]]), (10002, ⟨0, 65, 8, [[.own 10003 0, iP b2, .bool true, iP b3, iP b4, iP b5, iP b6, .bool b7]], false, false, false⟩), (10003, ⟨0, 45, 3, List.map SAtOldNew.cells w1 ++ [[iP xa, .own 10004 0, .own 10005 0]], false, false, false⟩), (10004, eP 9 1 (mP xo)), (10005, eP 9 1 (mP xn))], 2⟩) [4, 65538, 65539, 65540, 65541, 65544, 65564, 65565] [(10000, 10000), (10001, 10001), (10002, 10002), (10003, 10003), (10090, 10004), (10091, 10005)] (fun es => ⟨[(4, .bool false), (65538, wP 10000), (65539, wP 10001), (65540, wP 10002), (65541, iP x8), (65544, .str r50.2.1), (65564, .bool (!r50.2.2)), (65565, .str r50.1)], [(10000, eP 30 1 [[.nils]]), (10001, eP 25 2 [[iP 0, iP 0]]), (10002, ⟨0, 65, 8, [[.own 10003 0, iP b2, .bool true, iP b3, iP b4, iP b5, iP b6, .bool b7]], false, false, false⟩), (10003, ⟨0, 45, 3, es, false, false, false⟩), (10004, eP 9 1 (mP xo)), (10005, eP 9 1 (mP xn))], 2⟩) w1 SAtOldNew.cells [iP xa, .own 10090 0, .own 10091 0] (fun _ => rfl), ?_⟩
           refine ⟨_, rfl, ?_⟩
           refine Sq.wEnd nb ?_
           refine W.guardT rfl c70 ?_
           refine W.not rfl ?_
           refine W.pickN rfl rfl rfl c70 ?_
           refine W.nil ?_
           refine Ev.condT rfl rfl ?_
           refine Ev.seq ?_
           refine W.reg hm ?_
           refine W.build (cs := [.nils]) rfl rfl rfl ?_
           refine W.mv rfl ?_
           refine W.build (cs := [iP 1, iP x8]) rfl rfl rfl ?_
           refine W.store (es' := [[.nils]]) (dt := true) rfl rfl rfl rfl rfl (Nat.le_of_ble_eq_true rfl) rfl rfl rfl rfl ?_
           refine W.store (es' := [[iP 1, iP x8]]) (dt := true) rfl rfl rfl rfl rfl (Nat.le_of_ble_eq_true rfl) rfl rfl rfl rfl ?_
           refine W.nil ?_
           refine Ev.ret ?_
           injection h with h; subst h
           exact ⟨_, rfl, Le.tups (.cons (Le.aggs (.cons (.nils 3) (.nil)) rfl) (.cons (.refl _) (.nil)))⟩
          ·replace h := iteF h c108
           refine Ev.skip ?_
           refine Ev.seq ?_
           refine W.regD hm ?_
           refine W.mv rfl (W.mv rfl ?_)
           refine W.mv rfl (W.mv rfl ?_)
           refine W.nilCheckO rfl rfl (W.fieldAddrO rfl rfl ?_)
           refine W.loadO (p := iP b3) rfl rfl rfl rfl ?_
           obtain ⟨x72, k109, h⟩ := obind h
           refine W.subG rfl rfl k109 ?_
           refine W.mv rfl (W.nilCheckO rfl rfl ?_)
           refine W.fieldAddrO rfl rfl ?_
           refine W.loadO (p := iP b5) rfl rfl rfl rfl ?_
           obtain ⟨x73, k110, h⟩ := obind h
           refine W.addG rfl rfl k110 ?_
           refine W.mv rfl (W.nilCheckO rfl rfl ?_)
           refine W.fieldAddrO rfl rfl ?_
           refine W.loadO (p := iP b6) rfl rfl rfl rfl ?_
           obtain ⟨x74, k111, h⟩ := obind h
           refine W.subG rfl rfl k111 ?_
           refine W.nilCheckO rfl rfl (W.fieldAddrO rfl rfl ?_)
           refine W.store (es' := [[.own 10003 0, iP b2, .bool true, iP x72, iP b4, iP b5, iP b6, .bool b7]]) (dt := false) rfl rfl rfl rfl rfl (Nat.le_of_ble_eq_true rfl) rfl rfl rfl rfl ?_
           refine W.nilCheckO rfl rfl (W.fieldAddrO rfl rfl ?_)
           refine W.store (es' := [[.own 10003 0, iP b2, .bool true, iP x72, iP b4, iP x73, iP b6, .bool b7]]) (dt := false) rfl rfl rfl rfl rfl (Nat.le_of_ble_eq_true rfl) rfl rfl rfl rfl ?_
           refine W.nilCheckO rfl rfl (W.fieldAddrO rfl rfl ?_)
           refine W.store (es' := [[.own 10003 0, iP b2, .bool true, iP x72, iP b4, iP x73, iP x74, .bool b7]]) (dt := false) rfl rfl rfl rfl rfl (Nat.le_of_ble_eq_true rfl) rfl rfl rfl rfl ?_
           refine W.nil ⟨rfl, ?_⟩
           refine Ev.regX 5 hm rfl rfl rfl rfl ?_
           refine W.mv rfl (W.nilCheckO rfl rfl ?_)
           refine W.fieldAddrO rfl rfl (W.mv rfl ?_)
           obtain ⟨s75, k112, h⟩ := obind h
           refine W.ssliceG rfl k112 (ix0 (gcut_some k112).1) ?_
           refine W.nil ⟨rfl, ?_⟩
           refine Sq.call rfl Tryz.c_diff_Collector_Delete ⟨_, rfl, nb, ?_⟩
           unfold Tryz.l_diff_Collector_Delete
           refine Ev.seq ?_
           refine Ev.regS rfl ?_
           refine Sq.w 1 nb ?_
           refine W.mv rfl (W.nil ?_)
           refine Sq.call rfl Tryz.c_diff_Collector_hunk ⟨_, rfl, nb, ?_⟩
           unfold Tryz.l_diff_Collector_hunk
           refine Ev.seq ?_
           refine W.reg hm ?_
           refine W.mv rfl (W.nil ?_)
           refine Ev.seq (Ev.seq ?_)
           refine W.reg hm ?_
           refine W.mv rfl (W.nilCheckO rfl rfl ?_)
           refine W.fieldAddrO rfl rfl ?_
           refine W.loadO (p := .bool true) rfl rfl rfl rfl ?_
           refine W.not rfl (W.nil ?_)
           refine Ev.condF rfl rfl ?_
           refine Ev.skip ?_
           refine Ev.seq ?_
           refine W.regD hm ?_
           refine W.mv rfl (W.nilCheckO rfl rfl ?_)
           refine W.fieldAddrO rfl rfl ?_
           refine W.loadO (p := .own 10003 0) rfl rfl rfl rfl ?_
           refine W.mv rfl (W.nilCheckO rfl rfl ?_)
           refine W.fieldAddrO rfl rfl ?_
           refine W.loadO (p := .own 10003 0) rfl rfl rfl rfl ?_
           refine W.len (n := w1.length + 1) rfl rfl xlen ?_
           obtain ⟨x76, k113, h⟩ := obind h
           refine W.subG rfl rfl k113 ?_
           refine W.idxO (i := w1.length) rfl rfl rfl rfl (xsub k113).1 (xsub k113).2 xlt ?_
           refine W.mv rfl ?_
           refine W.nil ⟨rfl, ?_⟩
           refine Ev.ret ?_
           refine ⟨_, Wk.nrmX (S := ⟨[(2, .pown 10000 0 (w1.length) 0), (65536, wP 10003), (65537, .str s75), (131072, wP 10003), (196610, wP 10004), (196611, wP 10005), (196612, wP 10003), (196613, iP x8), (196616, .str r50.2.1), (196636, .bool (!r50.2.2)), (196637, .str r50.1)], [(10000, ⟨0, 45, 3, List.map SAtOldNew.cells w1 ++ [[iP xa, .own 10001 0, .own 10002 0]], false, false, false⟩), (10001, eP 9 1 (mP xo)), (10002, eP 9 1 (mP xn)), (10003, ⟨0, 65, 8, [[.own 10000 0, iP b2, .bool true, iP x72, iP b4, iP x73, iP x74, .bool b7]], false, false, false⟩), (10004, eP 30 1 [[.nils]]), (10005, eP 25 2 [[iP 0, iP 0]])], 2⟩) [2, 65536, 65537, 131072, 196610, 196611, 196612, 196613, 196616, 196636, 196637] [(10003, 10000), (10090, 10001), (10091, 10002), (10002, 10003), (10000, 10004), (10001, 10005)] (fun es => ⟨[(2, .pown 10000 0 (w1.length) 0), (65536, wP 10003), (65537, .str s75), (131072, wP 10003), (196610, wP 10004), (196611, wP 10005), (196612, wP 10003), (196613, iP x8), (196616, .str r50.2.1), (196636, .bool (!r50.2.2)), (196637, .str r50.1)], [(10000, ⟨0, 45, 3, es, false, false, false⟩), (10001, eP 9 1 (mP xo)), (10002, eP 9 1 (mP xn)), (10003, ⟨0, 65, 8, [[.own 10000 0, iP b2, .bool true, iP x72, iP b4, iP x73, iP x74, .bool b7]], false, false, false⟩), (10004, eP 30 1 [[.nils]]), (10005, eP 25 2 [[iP 0, iP 0]])], 2⟩) w1 SAtOldNew.cells [iP xa, .own 10090 0, .own 10091 0] (fun _ => rfl), ?_⟩
           refine ⟨_, rfl, ?_⟩
           refine Sq.wEnd nb ?_
           refine W.mv rfl (W.nil ?_)
           refine Ev.seq ?_
           refine W.reg hm ?_
           refine W.mv rfl (W.mv rfl ?_)
           refine W.nilCheckO rfl rfl (W.fieldAddrO rfl rfl ?_)
           refine W.loadO (p := .own 10001 0) rfl rfl xget rfl ?_
           refine W.mv rfl ?_
           refine W.mkSlice (dt := true) (es := [[.str s75]]) rfl rfl rfl rfl rfl rfl ?_
           obtain ⟨w77, k114, h⟩ := obind h
           refine W.appR true (l := xo) (c := cS) (ys := ([s75] : List (List UInt8))) rfl rfl rfl rfl rfl rfl rfl rfl k114 rfl (by simp) ?_
           refine W.nilCheckO rfl rfl (W.fieldAddrO rfl rfl ?_)
           refine W.store (es' := List.map SAtOldNew.cells w1 ++ [[iP xa, .own 14 2, .own 10002 0]]) (cs' := [iP xa, .own 14 2, .own 10002 0]) (dt := false) rfl rfl rfl xget rfl (Nat.le_of_ble_eq_true rfl) rfl rfl xset rfl ?_
           refine W.nil ?_
           refine W.reg hm ?_
           refine W.mv rfl (W.nilCheckO rfl rfl ?_)
           refine W.fieldAddrO rfl rfl ?_
           refine W.loadO (p := iP b2) rfl rfl rfl rfl ?_
           obtain ⟨x78, k115, h⟩ := obind h
           refine W.addG rfl rfl k115 ?_
           refine W.nilCheckO rfl rfl (W.fieldAddrO rfl rfl ?_)
           refine W.store (es' := [[.own 10000 0, iP x78, .bool true, iP x72, iP b4, iP x73, iP x74, .bool b7]]) (dt := false) rfl rfl rfl rfl rfl (Nat.le_of_ble_eq_true rfl) rfl rfl rfl rfl ?_
           refine W.nil ?_
           refine ⟨_, Wk.nrmX (S := ⟨[(65536, wP 10000), (131074, wP 10004), (131075, wP 10005), (131076, wP 10000), (131077, iP x8), (131080, .str r50.2.1), (131100, .bool (!r50.2.2)), (131101, .str r50.1)], [(10000, ⟨0, 65, 8, [[.own 10001 0, iP x78, .bool true, iP x72, iP b4, iP x73, iP x74, .bool b7]], false, false, false⟩), (10001, ⟨0, 45, 3, List.map SAtOldNew.cells w1 ++ [[iP xa, .own 10002 0, .own 10003 0]], false, false, false⟩), (10002, eP 9 1 (mP w77)), (10003, eP 9 1 (mP xn)), (10004, eP 30 1 [[.nils]]), (10005, eP 25 2 [[iP 0, iP 0]])], 2⟩) [65536, 131074, 131075, 131076, 131077, 131080, 131100, 131101] [(10003, 10000), (10000, 10001), (14, 10002), (10002, 10003), (10004, 10004), (10005, 10005)] (fun es => ⟨[(65536, wP 10000), (131074, wP 10004), (131075, wP 10005), (131076, wP 10000), (131077, iP x8), (131080, .str r50.2.1), (131100, .bool (!r50.2.2)), (131101, .str r50.1)], [(10000, ⟨0, 65, 8, [[.own 10001 0, iP x78, .bool true, iP x72, iP b4, iP x73, iP x74, .bool b7]], false, false, false⟩), (10001, ⟨0, 45, 3, es, false, false, false⟩), (10002, eP 9 1 (mP w77)), (10003, eP 9 1 (mP xn)), (10004, eP 30 1 [[.nils]]), (10005, eP 25 2 [[iP 0, iP 0]])], 2⟩) w1 SAtOldNew.cells [iP xa, .own 14 2, .own 10002 0] (fun _ => rfl), ?_⟩
           refine ⟨_, rfl, ?_⟩
           refine Sq.wEnd nb ?_
           refine W.nil ?_
           refine Ev.seq ?_
           refine W.reg hm ?_
           refine W.mv rfl (W.nilCheckO rfl rfl ?_)
           refine W.fieldAddrO rfl rfl ?_
           refine W.loadO (p := iP x72) rfl rfl rfl rfl ?_
           refine W.geq rfl rfl (W.mv rfl ?_)
           refine W.split 110 rfl (fun c116 => ?_) (fun c116 => ?_)
           ·replace h := iteT h c116
            refine W.guardT rfl c116 ?_
            refine W.mv rfl ?_
            refine W.guardT rfl c116 ?_
            refine W.nilCheckO rfl rfl ?_
            refine W.guardT rfl c116 ?_
            refine W.fieldAddrO rfl rfl ?_
            refine W.guardT rfl c116 ?_
            refine W.loadO (p := iP b4) rfl rfl rfl rfl ?_
            refine W.guardT rfl c116 ?_
            refine W.geq rfl rfl ?_
            refine W.pickT rfl rfl rfl c116 ?_
            refine W.mv rfl (W.nil ?_)
            refine Ev.ret ?_
            refine ⟨_, Wk.nrmX (S := ⟨[(4, .bool (decide (0 ≤ b4))), (65538, wP 10000), (65539, wP 10001), (65540, wP 10002), (65541, iP x8), (65544, .str r50.2.1), (65564, .bool (!r50.2.2)), (65565, .str r50.1)], [(10000, eP 30 1 [[.nils]]), (10001, eP 25 2 [[iP 0, iP 0]]), (10002, ⟨0, 65, 8, [[.own 10003 0, iP x78, .bool true, iP x72, iP b4, iP x73, iP x74, .bool b7]], false, false, false⟩), (10003, ⟨0, 45, 3, List.map SAtOldNew.cells w1 ++ [[iP xa, .own 10004 0, .own 10005 0]], false, false, false⟩), (10004, eP 9 1 (mP w77)), (10005, eP 9 1 (mP xn))], 2⟩) [4, 65538, 65539, 65540, 65541, 65544, 65564, 65565] [(10004, 10000), (10005, 10001), (10000, 10002), (10001, 10003), (10002, 10004), (10003, 10005)] (fun es => ⟨[(4, .bool (decide (0 ≤ b4))), (65538, wP 10000), (65539, wP 10001), (65540, wP 10002), (65541, iP x8), (65544, .str r50.2.1), (65564, .bool (!r50.2.2)), (65565, .str r50.1)], [(10000, eP 30 1 [[.nils]]), (10001, eP 25 2 [[iP 0, iP 0]]), (10002, ⟨0, 65, 8, [[.own 10003 0, iP x78, .bool true, iP x72, iP b4, iP x73, iP x74, .bool b7]], false, false, false⟩), (10003, ⟨0, 45, 3, es, false, false, false⟩), (10004, eP 9 1 (mP w77)), (10005, eP 9 1 (mP xn))], 2⟩) w1 SAtOldNew.cells [iP xa, .own 10002 0, .own 10003 0] (fun _ => rfl), ?_⟩
            refine ⟨_, rfl, ?_⟩
            refine Sq.wEnd nb ?_
            refine W.guardT rfl c70 ?_
            refine W.not rfl ?_
            refine W.pickN rfl rfl rfl c70 ?_
            refine W.nil ?_
            refine Ev.cond rfl (fun c117 => ?_) (fun c117 => ?_)
            ·replace h := iteT h c117
             refine Ev.seq ?_
             refine W.reg hm ?_
             refine W.build (cs := [.nils]) rfl rfl rfl ?_
             refine W.mv rfl ?_
             refine W.build (cs := [iP 1, iP x8]) rfl rfl rfl ?_
             refine W.store (es' := [[.nils]]) (dt := true) rfl rfl rfl rfl rfl (Nat.le_of_ble_eq_true rfl) rfl rfl rfl rfl ?_
             refine W.store (es' := [[iP 1, iP x8]]) (dt := true) rfl rfl rfl rfl rfl (Nat.le_of_ble_eq_true rfl) rfl rfl rfl rfl ?_
             refine W.nil ?_
             refine Ev.ret ?_
             injection h with h; subst h
             exact ⟨_, rfl, Le.tups (.cons (Le.aggs (.cons (.nils 3) (.nil)) rfl) (.cons (.refl _) (.nil)))⟩
            ·replace h := iteF h c117
             refine Ev.skip ?_
             refine Ev.seq ?_
             refine W.reg hm ?_
             refine W.mv rfl (W.mv rfl ?_)
             refine W.nil ?_
             refine W.reg hm ?_
             refine W.mv rfl ?_
             obtain ⟨x79, k118, h⟩ := obind h
             refine W.addG rfl rfl k118 ?_
             refine W.mv rfl (W.nil ?_)
             exact ⟨(m1, (some (xa, w77, xn)), w1, x78, x72, b4, x73, x74, b7, x79, r50.2.1), h, Nat.lt_succ_self _, Wk.nrmX [2, 3, 4, 5, 6] [(10000, 10000), (10001, 10001), (10002, 10002), (10003, 10003), (10004, 10090), (10005, 10091)] (fun es => ⟨[(2, wP 10000), (3, wP 10001), (4, wP 10002), (5, iP x79), (6, .str r50.2.1)], [(10000, eP 30 1 [[.nils]]), (10001, eP 25 2 [[iP 0, iP 0]]), (10002, ⟨0, 65, 8, [[.own 10003 0, iP x78, .bool true, iP x72, iP b4, iP x73, iP x74, .bool b7]], false, false, false⟩), (10003, ⟨0, 45, 3, es, false, false, false⟩), (10090, eP 9 1 (mP w77)), (10091, eP 9 1 (mP xn))], 2⟩) w1 SAtOldNew.cells [iP xa, .own 10004 0, .own 10005 0] (fun _ => rfl)⟩
           ·replace h := iteF h c116
            refine W.guardF1 rfl c116 ?_
            refine W.guardF1 rfl c116 ?_
            refine W.guardF1 rfl c116 ?_
            refine W.guardF1 rfl c116 ?_
            refine W.guardF1 rfl c116 ?_
            refine W.pickN rfl rfl rfl c116 ?_
            refine W.mv rfl (W.nil ?_)
            refine Ev.ret ?_
            refine ⟨_, Wk.nrmX (S := ⟨[(4, .bool false), (65538, wP 10000), (65539, wP 10001), (65540, wP 10002), (65541, iP x8), (65544, .str r50.2.1), (65564, .bool (!r50.2.2)), (65565, .str r50.1)], [(10000, eP 30 1 [[.nils]]), (10001, eP 25 2 [[iP 0, iP 0]]), (10002, ⟨0, 65, 8, [[.own 10003 0, iP x78, .bool true, iP x72, iP b4, iP x73, iP x74, .bool b7]], false, false, false⟩), (10003, ⟨0, 45, 3, List.map SAtOldNew.cells w1 ++ [[iP xa, .own 10004 0, .own 10005 0]], false, false, false⟩), (10004, eP 9 1 (mP w77)), (10005, eP 9 1 (mP xn))], 2⟩) [4, 65538, 65539, 65540, 65541, 65544, 65564, 65565] [(10004, 10000), (10005, 10001), (10000, 10002), (10001, 10003), (10002, 10004), (10003, 10005)] (fun es => ⟨[(4, .bool false), (65538, wP 10000), (65539, wP 10001), (65540, wP 10002), (65541, iP x8), (65544, .str r50.2.1), (65564, .bool (!r50.2.2)), (65565, .str r50.1)], [(10000, eP 30 1 [[.nils]]), (10001, eP 25 2 [[iP 0, iP 0]]), (10002, ⟨0, 65, 8, [[.own 10003 0, iP x78, .bool true, iP x72, iP b4, iP x73, iP x74, .bool b7]], false, false, false⟩), (10003, ⟨0, 45, 3, es, false, false, false⟩), (10004, eP 9 1 (mP w77)), (10005, eP 9 1 (mP xn))], 2⟩) w1 SAtOldNew.cells [iP xa, .own 10002 0, .own 10003 0] (fun _ => rfl), ?_⟩
            refine ⟨_, rfl, ?_⟩
            refine Sq.wEnd nb ?_
            refine W.guardT rfl c70 ?_
            refine W.not rfl ?_
            refine W.pickN rfl rfl rfl c70 ?_
            refine W.nil ?_
            refine Ev.condT rfl rfl ?_
            refine Ev.seq ?_
            refine W.reg hm ?_
            refine W.build (cs := [.nils]) rfl rfl rfl ?_
            refine W.mv rfl ?_
            refine W.build (cs := [iP 1, iP x8]) rfl rfl rfl ?_
            refine W.store (es' := [[.nils]]) (dt := true) rfl rfl rfl rfl rfl (Nat.le_of_ble_eq_true rfl) rfl rfl rfl rfl ?_
            refine W.store (es' := [[iP 1, iP x8]]) (dt := true) rfl rfl rfl rfl rfl (Nat.le_of_ble_eq_true rfl) rfl rfl rfl rfl ?_
            refine W.nil ?_
            refine Ev.ret ?_
            injection h with h; subst h
            exact ⟨_, rfl, Le.tups (.cons (Le.aggs (.cons (.nils 3) (.nil)) rfl) (.cons (.refl _) (.nil)))⟩
         ·replace h := iteF h c107
          refine Ev.seq ?_
          refine W.reg hm ?_
          refine W.eql rfl rfl (W.mv rfl ?_)
          refine W.nil ?_
          refine Ev.cond rfl (fun c119 => ?_) (fun c119 => ?_)
          ·replace h := iteT h c119
           refine Ev.seq ?_
           refine W.regD hm ?_
           refine W.mv rfl (W.mv rfl ?_)
           refine W.mv rfl (W.mv rfl ?_)
           refine W.nilCheckO rfl rfl (W.fieldAddrO rfl rfl ?_)
           refine W.loadO (p := iP b4) rfl rfl rfl rfl ?_
           obtain ⟨x80, k120, h⟩ := obind h
           refine W.subG rfl rfl k120 ?_
           refine W.mv rfl (W.nilCheckO rfl rfl ?_)
           refine W.fieldAddrO rfl rfl ?_
           refine W.loadO (p := iP b6) rfl rfl rfl rfl ?_
           obtain ⟨x81, k121, h⟩ := obind h
           refine W.addG rfl rfl k121 ?_
           refine W.nilCheckO rfl rfl (W.fieldAddrO rfl rfl ?_)
           refine W.store (es' := [[.own 10003 0, iP b2, .bool true, iP b3, iP x80, iP b5, iP b6, .bool b7]]) (dt := false) rfl rfl rfl rfl rfl (Nat.le_of_ble_eq_true rfl) rfl rfl rfl rfl ?_
           refine W.nilCheckO rfl rfl (W.fieldAddrO rfl rfl ?_)
           refine W.store (es' := [[.own 10003 0, iP b2, .bool true, iP b3, iP x80, iP b5, iP x81, .bool b7]]) (dt := false) rfl rfl rfl rfl rfl (Nat.le_of_ble_eq_true rfl) rfl rfl rfl rfl ?_
           refine W.nilCheckO rfl rfl (W.fieldAddrO rfl rfl ?_)
           refine W.store (es' := [[.own 10003 0, iP b2, .bool true, iP b3, iP x80, iP b5, iP x81, .bool true]]) (dt := false) rfl rfl rfl rfl rfl (Nat.le_of_ble_eq_true rfl) rfl rfl rfl rfl ?_
           refine W.nil ⟨rfl, ?_⟩
           refine Ev.regX 5 hm rfl rfl rfl rfl ?_
           refine W.mv rfl (W.nilCheckO rfl rfl ?_)
           refine W.fieldAddrO rfl rfl (W.mv rfl ?_)
           obtain ⟨s82, k122, h⟩ := obind h
           refine W.ssliceG rfl k122 (ix0 (gcut_some k122).1) ?_
           refine W.nil ⟨rfl, ?_⟩
           refine Sq.call rfl Tryz.c_diff_Collector_Insert ⟨_, rfl, nb, ?_⟩
           unfold Tryz.l_diff_Collector_Insert
           refine Ev.seq ?_
           refine Ev.regS rfl ?_
           refine Sq.w 1 nb ?_
           refine W.mv rfl (W.nil ?_)
           refine Sq.call rfl Tryz.c_diff_Collector_hunk ⟨_, rfl, nb, ?_⟩
           unfold Tryz.l_diff_Collector_hunk
           refine Ev.seq ?_
           refine W.reg hm ?_
           refine W.mv rfl (W.nil ?_)
           refine Ev.seq (Ev.seq ?_)
           refine W.reg hm ?_
           refine W.mv rfl (W.nilCheckO rfl rfl ?_)
           refine W.fieldAddrO rfl rfl ?_
           refine W.loadO (p := .bool true) rfl rfl rfl rfl ?_
           refine W.not rfl (W.nil ?_)
           refine Ev.condF rfl rfl ?_
           refine Ev.skip ?_
           refine Ev.seq ?_
           refine W.regD hm ?_
           refine W.mv rfl (W.nilCheckO rfl rfl ?_)
           refine W.fieldAddrO rfl rfl ?_
           refine W.loadO (p := .own 10003 0) rfl rfl rfl rfl ?_
           refine W.mv rfl (W.nilCheckO rfl rfl ?_)
           refine W.fieldAddrO rfl rfl ?_
           refine W.loadO (p := .own 10003 0) rfl rfl rfl rfl ?_
           refine W.len (n := w1.length + 1) rfl rfl xlen ?_
           obtain ⟨x83, k123, h⟩ := obind h
           refine W.subG rfl rfl k123 ?_
           refine W.idxO (i := w1.length) rfl rfl rfl rfl (xsub k123).1 (xsub k123).2 xlt ?_
           refine W.mv rfl ?_
           refine W.nil ⟨rfl, ?_⟩
           refine Ev.ret ?_
           refine ⟨_, Wk.nrmX (S := ⟨[(2, .pown 10000 0 (w1.length) 0), (65537, .str s82), (131072, wP 10003), (196610, wP 10004), (196611, wP 10005), (196612, wP 10003), (196613, iP x8), (196616, .str r50.2.1), (196636, .bool (!r50.2.2)), (196637, .str r50.1)], [(10000, ⟨0, 45, 3, List.map SAtOldNew.cells w1 ++ [[iP xa, .own 10001 0, .own 10002 0]], false, false, false⟩), (10001, eP 9 1 (mP xo)), (10002, eP 9 1 (mP xn)), (10003, ⟨0, 65, 8, [[.own 10000 0, iP b2, .bool true, iP b3, iP x80, iP b5, iP x81, .bool true]], false, false, false⟩), (10004, eP 30 1 [[.nils]]), (10005, eP 25 2 [[iP 0, iP 0]])], 2⟩) [2, 65537, 131072, 196610, 196611, 196612, 196613, 196616, 196636, 196637] [(10003, 10000), (10090, 10001), (10091, 10002), (10002, 10003), (10000, 10004), (10001, 10005)] (fun es => ⟨[(2, .pown 10000 0 (w1.length) 0), (65537, .str s82), (131072, wP 10003), (196610, wP 10004), (196611, wP 10005), (196612, wP 10003), (196613, iP x8), (196616, .str r50.2.1), (196636, .bool (!r50.2.2)), (196637, .str r50.1)], [(10000, ⟨0, 45, 3, es, false, false, false⟩), (10001, eP 9 1 (mP xo)), (10002, eP 9 1 (mP xn)), (10003, ⟨0, 65, 8, [[.own 10000 0, iP b2, .bool true, iP b3, iP x80, iP b5, iP x81, .bool true]], false, false, false⟩), (10004, eP 30 1 [[.nils]]), (10005, eP 25 2 [[iP 0, iP 0]])], 2⟩) w1 SAtOldNew.cells [iP xa, .own 10090 0, .own 10091 0] (fun _ => rfl), ?_⟩
           refine ⟨_, rfl, ?_⟩
           refine Sq.wEnd nb ?_
           refine W.mv rfl (W.nil ?_)
           refine W.reg hm ?_
           refine W.mv rfl (W.mv rfl ?_)
           refine W.nilCheckO rfl rfl (W.fieldAddrO rfl rfl ?_)
           refine W.loadO (p := .own 10002 0) rfl rfl xget rfl ?_
           refine W.mv rfl ?_
           refine W.mkSlice (dt := true) (es := [[.str s82]]) rfl rfl rfl rfl rfl rfl ?_
           obtain ⟨w84, k124, h⟩ := obind h
           refine W.appR true (l := xn) (c := cS) (ys := ([s82] : List (List UInt8))) rfl rfl rfl rfl rfl rfl rfl rfl k124 rfl (by simp) ?_
           refine W.nilCheckO rfl rfl (W.fieldAddrO rfl rfl ?_)
           refine W.store (es' := List.map SAtOldNew.cells w1 ++ [[iP xa, .own 10001 0, .own 14 2]]) (cs' := [iP xa, .own 10001 0, .own 14 2]) (dt := false) rfl rfl rfl xget rfl (Nat.le_of_ble_eq_true rfl) rfl rfl xset rfl ?_
           refine W.nil ?_
           refine ⟨_, Wk.nrmX (S := ⟨[(65536, wP 10000), (131074, wP 10004), (131075, wP 10005), (131076, wP 10000), (131077, iP x8), (131080, .str r50.2.1), (131100, .bool (!r50.2.2)), (131101, .str r50.1)], [(10000, ⟨0, 65, 8, [[.own 10001 0, iP b2, .bool true, iP b3, iP x80, iP b5, iP x81, .bool true]], false, false, false⟩), (10001, ⟨0, 45, 3, List.map SAtOldNew.cells w1 ++ [[iP xa, .own 10002 0, .own 10003 0]], false, false, false⟩), (10002, eP 9 1 (mP xo)), (10003, eP 9 1 (mP w84)), (10004, eP 30 1 [[.nils]]), (10005, eP 25 2 [[iP 0, iP 0]])], 2⟩) [65536, 131074, 131075, 131076, 131077, 131080, 131100, 131101] [(10003, 10000), (10000, 10001), (10001, 10002), (14, 10003), (10004, 10004), (10005, 10005)] (fun es => ⟨[(65536, wP 10000), (131074, wP 10004), (131075, wP 10005), (131076, wP 10000), (131077, iP x8), (131080, .str r50.2.1), (131100, .bool (!r50.2.2)), (131101, .str r50.1)], [(10000, ⟨0, 65, 8, [[.own 10001 0, iP b2, .bool true, iP b3, iP x80, iP b5, iP x81, .bool true]], false, false, false⟩), (10001, ⟨0, 45, 3, es, false, false, false⟩), (10002, eP 9 1 (mP xo)), (10003, eP 9 1 (mP w84)), (10004, eP 30 1 [[.nils]]), (10005, eP 25 2 [[iP 0, iP 0]])], 2⟩) w1 SAtOldNew.cells [iP xa, .own 10001 0, .own 14 2] (fun _ => rfl), ?_⟩
           refine ⟨_, rfl, ?_⟩
           refine Sq.wEnd nb ?_
           refine W.nil ?_
           refine Ev.seq ?_
           refine W.reg hm ?_
           refine W.mv rfl (W.nilCheckO rfl rfl ?_)
           refine W.fieldAddrO rfl rfl ?_
           refine W.loadO (p := iP b3) rfl rfl rfl rfl ?_
           refine W.geq rfl rfl (W.mv rfl ?_)
           refine W.split 110 rfl (fun c125 => ?_) (fun c125 => ?_)
           ·replace h := iteT h c125
            refine W.guardT rfl c125 ?_
            refine W.mv rfl ?_
            refine W.guardT rfl c125 ?_
            refine W.nilCheckO rfl rfl ?_
            refine W.guardT rfl c125 ?_
            refine W.fieldAddrO rfl rfl ?_
            refine W.guardT rfl c125 ?_
            refine W.loadO (p := iP x80) rfl rfl rfl rfl ?_
            refine W.guardT rfl c125 ?_
            refine W.geq rfl rfl ?_
            refine W.pickT rfl rfl rfl c125 ?_
            refine W.mv rfl (W.nil ?_)
            refine Ev.ret ?_
            refine ⟨_, Wk.nrmX (S := ⟨[(4, .bool (decide (0 ≤ x80))), (65538, wP 10000), (65539, wP 10001), (65540, wP 10002), (65541, iP x8), (65544, .str r50.2.1), (65564, .bool (!r50.2.2)), (65565, .str r50.1)], [(10000, eP 30 1 [[.nils]]), (10001, eP 25 2 [[iP 0, iP 0]]), (10002, ⟨0, 65, 8, [[.own 10003 0, iP b2, .bool true, iP b3, iP x80, iP b5, iP x81, .bool true]], false, false, false⟩), (10003, ⟨0, 45, 3, List.map SAtOldNew.cells w1 ++ [[iP xa, .own 10004 0, .own 10005 0]], false, false, false⟩), (10004, eP 9 1 (mP xo)), (10005, eP 9 1 (mP w84))], 2⟩) [4, 65538, 65539, 65540, 65541, 65544, 65564, 65565] [(10004, 10000), (10005, 10001), (10000, 10002), (10001, 10003), (10002, 10004), (10003, 10005)] (fun es => ⟨[(4, .bool (decide (0 ≤ x80))), (65538, wP 10000), (65539, wP 10001), (65540, wP 10002), (65541, iP x8), (65544, .str r50.2.1), (65564, .bool (!r50.2.2)), (65565, .str r50.1)], [(10000, eP 30 1 [[.nils]]), (10001, eP 25 2 [[iP 0, iP 0]]), (10002, ⟨0, 65, 8, [[.own 10003 0, iP b2, .bool true, iP b3, iP x80, iP b5, iP x81, .bool true]], false, false, false⟩), (10003, ⟨0, 45, 3, es, false, false, false⟩), (10004, eP 9 1 (mP xo)), (10005, eP 9 1 (mP w84))], 2⟩) w1 SAtOldNew.cells [iP xa, .own 10002 0, .own 10003 0] (fun _ => rfl), ?_⟩
            refine ⟨_, rfl, ?_⟩
            refine Sq.wEnd nb ?_
            refine W.guardT rfl c70 ?_
            refine W.not rfl ?_
            refine W.pickN rfl rfl rfl c70 ?_
            refine W.nil ?_
            refine Ev.cond rfl (fun c126 => ?_) (fun c126 => ?_)
            ·replace h := iteT h c126
             refine Ev.seq ?_
             refine W.reg hm ?_
             refine W.build (cs := [.nils]) rfl rfl rfl ?_
             refine W.mv rfl ?_
             refine W.build (cs := [iP 1, iP x8]) rfl rfl rfl ?_
             refine W.store (es' := [[.nils]]) (dt := true) rfl rfl rfl rfl rfl (Nat.le_of_ble_eq_true rfl) rfl rfl rfl rfl ?_
             refine W.store (es' := [[iP 1, iP x8]]) (dt := true) rfl rfl rfl rfl rfl (Nat.le_of_ble_eq_true rfl) rfl rfl rfl rfl ?_
             refine W.nil ?_
             refine Ev.ret ?_
             injection h with h; subst h
             exact ⟨_, rfl, Le.tups (.cons (Le.aggs (.cons (.nils 3) (.nil)) rfl) (.cons (.refl _) (.nil)))⟩
            ·replace h := iteF h c126
             refine Ev.skip ?_
             refine Ev.seq ?_
             refine W.reg hm ?_
             refine W.mv rfl (W.mv rfl ?_)
             refine W.nil ?_
             refine W.reg hm ?_
             refine W.mv rfl ?_
             obtain ⟨x85, k127, h⟩ := obind h
             refine W.addG rfl rfl k127 ?_
             refine W.mv rfl (W.nil ?_)
             exact ⟨(m1, (some (xa, xo, w84)), w1, b2, b3, x80, b5, x81, true, x85, r50.2.1), h, Nat.lt_succ_self _, Wk.nrmX [2, 3, 4, 5, 6] [(10000, 10000), (10001, 10001), (10002, 10002), (10003, 10003), (10004, 10090), (10005, 10091)] (fun es => ⟨[(2, wP 10000), (3, wP 10001), (4, wP 10002), (5, iP x85), (6, .str r50.2.1)], [(10000, eP 30 1 [[.nils]]), (10001, eP 25 2 [[iP 0, iP 0]]), (10002, ⟨0, 65, 8, [[.own 10003 0, iP b2, .bool true, iP b3, iP x80, iP b5, iP x81, .bool true]], false, false, false⟩), (10003, ⟨0, 45, 3, es, false, false, false⟩), (10090, eP 9 1 (mP xo)), (10091, eP 9 1 (mP w84))], 2⟩) w1 SAtOldNew.cells [iP xa, .own 10004 0, .own 10005 0] (fun _ => rfl)⟩
           ·replace h := iteF h c125
            refine W.guardF1 rfl c125 ?_
            refine W.guardF1 rfl c125 ?_
            refine W.guardF1 rfl c125 ?_
            refine W.guardF1 rfl c125 ?_
            refine W.guardF1 rfl c125 ?_
            refine W.pickN rfl rfl rfl c125 ?_
            refine W.mv rfl (W.nil ?_)
            refine Ev.ret ?_
            refine ⟨_, Wk.nrmX (S := ⟨[(4, .bool false), (65538, wP 10000), (65539, wP 10001), (65540, wP 10002), (65541, iP x8), (65544, .str r50.2.1), (65564, .bool (!r50.2.2)), (65565, .str r50.1)], [(10000, eP 30 1 [[.nils]]), (10001, eP 25 2 [[iP 0, iP 0]]), (10002, ⟨0, 65, 8, [[.own 10003 0, iP b2, .bool true, iP b3, iP x80, iP b5, iP x81, .bool true]], false, false, false⟩), (10003, ⟨0, 45, 3, List.map SAtOldNew.cells w1 ++ [[iP xa, .own 10004 0, .own 10005 0]], false, false, false⟩), (10004, eP 9 1 (mP xo)), (10005, eP 9 1 (mP w84))], 2⟩) [4, 65538, 65539, 65540, 65541, 65544, 65564, 65565] [(10004, 10000), (10005, 10001), (10000, 10002), (10001, 10003), (10002, 10004), (10003, 10005)] (fun es => ⟨[(4, .bool false), (65538, wP 10000), (65539, wP 10001), (65540, wP 10002), (65541, iP x8), (65544, .str r50.2.1), (65564, .bool (!r50.2.2)), (65565, .str r50.1)], [(10000, eP 30 1 [[.nils]]), (10001, eP 25 2 [[iP 0, iP 0]]), (10002, ⟨0, 65, 8, [[.own 10003 0, iP b2, .bool true, iP b3, iP x80, iP b5, iP x81, .bool true]], false, false, false⟩), (10003, ⟨0, 45, 3, es, false, false, false⟩), (10004, eP 9 1 (mP xo)), (10005, eP 9 1 (mP w84))], 2⟩) w1 SAtOldNew.cells [iP xa, .own 10002 0, .own 10003 0] (fun _ => rfl), ?_⟩
            refine ⟨_, rfl, ?_⟩
            refine Sq.wEnd nb ?_
            refine W.guardT rfl c70 ?_
            refine W.not rfl ?_
            refine W.pickN rfl rfl rfl c70 ?_
            refine W.nil ?_
            refine Ev.condT rfl rfl ?_
            refine Ev.seq ?_
            refine W.reg hm ?_
            refine W.build (cs := [.nils]) rfl rfl rfl ?_
            refine W.mv rfl ?_
            refine W.build (cs := [iP 1, iP x8]) rfl rfl rfl ?_
            refine W.store (es' := [[.nils]]) (dt := true) rfl rfl rfl rfl rfl (Nat.le_of_ble_eq_true rfl) rfl rfl rfl rfl ?_
            refine W.store (es' := [[iP 1, iP x8]]) (dt := true) rfl rfl rfl rfl rfl (Nat.le_of_ble_eq_true rfl) rfl rfl rfl rfl ?_
            refine W.nil ?_
            refine Ev.ret ?_
            injection h with h; subst h
            exact ⟨_, rfl, Le.tups (.cons (Le.aggs (.cons (.nils 3) (.nil)) rfl) (.cons (.refl _) (.nil)))⟩
          ·replace h := iteF h c119
           refine Ev.seq ?_
           refine W.reg hm ?_
           refine W.mv rfl (W.nil ?_)
           refine Ev.ret ?_
           refine ⟨_, Wk.nrmX (S := ⟨[(4, .bool false), (65538, wP 10000), (65539, wP 10001), (65540, wP 10002), (65541, iP x8), (65544, .str r50.2.1), (65564, .bool (!r50.2.2)), (65565, .str r50.1)], [(10000, eP 30 1 [[.nils]]), (10001, eP 25 2 [[iP 0, iP 0]]), (10002, ⟨0, 65, 8, [[.own 10003 0, iP b2, .bool true, iP b3, iP b4, iP b5, iP b6, .bool b7]], false, false, false⟩), (10003, ⟨0, 45, 3, List.map SAtOldNew.cells w1 ++ [[iP xa, .own 10004 0, .own 10005 0]], false, false, false⟩), (10004, eP 9 1 (mP xo)), (10005, eP 9 1 (mP xn))], 2⟩) [4, 65538, 65539, 65540, 65541, 65544, 65564, 65565] [(10000, 10000), (10001, 10001), (10002, 10002), (10003, 10003), (10090, 10004), (10091, 10005)] (fun es => ⟨[(4, .bool false), (65538, wP 10000), (65539, wP 10001), (65540, wP 10002), (65541, iP x8), (65544, .str r50.2.1), (65564, .bool (!r50.2.2)), (65565, .str r50.1)], [(10000, eP 30 1 [[.nils]]), (10001, eP 25 2 [[iP 0, iP 0]]), (10002, ⟨0, 65, 8, [[.own 10003 0, iP b2, .bool true, iP b3, iP b4, iP b5, iP b6, .bool b7]], false, false, false⟩), (10003, ⟨0, 45, 3, es, false, false, false⟩), (10004, eP 9 1 (mP xo)), (10005, eP 9 1 (mP xn))], 2⟩) w1 SAtOldNew.cells [iP xa, .own 10090 0, .own 10091 0] (fun _ => rfl), ?_⟩
           refine ⟨_, rfl, ?_⟩
           refine Sq.wEnd nb ?_
           refine W.guardT rfl c70 ?_
           refine W.not rfl ?_
           refine W.pickN rfl rfl rfl c70 ?_
           refine W.nil ?_
           refine Ev.condT rfl rfl ?_
           refine Ev.seq ?_
           refine W.reg hm ?_
           refine W.build (cs := [.nils]) rfl rfl rfl ?_
           refine W.mv rfl ?_
           refine W.build (cs := [iP 1, iP x8]) rfl rfl rfl ?_
           refine W.store (es' := [[.nils]]) (dt := true) rfl rfl rfl rfl rfl (Nat.le_of_ble_eq_true rfl) rfl rfl rfl rfl ?_
           refine W.store (es' := [[iP 1, iP x8]]) (dt := true) rfl rfl rfl rfl rfl (Nat.le_of_ble_eq_true rfl) rfl rfl rfl rfl ?_
           refine W.nil ?_
           refine Ev.ret ?_
           injection h with h; subst h
           exact ⟨_, rfl, Le.tups (.cons (Le.aggs (.cons (.nils 3) (.nil)) rfl) (.cons (.refl _) (.nil)))⟩
    ·replace h := iteF h c68
     refine Ev.exit ?_
     refine Ev.weak ?_ ((Wk.nrmX (S := ⟨[(2, wP 10000), (3, wP 10001), (4, wP 10002), (5, iP x8), (6, .str x9), (18, .str x9), (19, .bool (decide (x9 ≠ ([] : List UInt8))))], [(10000, eP 30 1 [[.nils]]), (10001, eP 25 2 [[iP 0, iP 0]]), (10002, ⟨0, 65, 8, [[.own 10003 0, iP b2, .bool true, iP b3, iP b4, iP b5, iP b6, .bool b7]], false, false, false⟩), (10003, ⟨0, 45, 3, List.map SAtOldNew.cells w1 ++ [[iP xa, .own 10004 0, .own 10005 0]], false, false, false⟩), (10004, eP 9 1 (mP xo)), (10005, eP 9 1 (mP xn))], 2⟩) [2, 3, 4, 5, 6, 18, 19] [(10000, 10000), (10001, 10001), (10002, 10002), (10003, 10003), (10090, 10004), (10091, 10005)] (fun es => ⟨[(2, wP 10000), (3, wP 10001), (4, wP 10002), (5, iP x8), (6, .str x9), (18, .str x9), (19, .bool (decide (x9 ≠ ([] : List UInt8))))], [(10000, eP 30 1 [[.nils]]), (10001, eP 25 2 [[iP 0, iP 0]]), (10002, ⟨0, 65, 8, [[.own 10003 0, iP b2, .bool true, iP b3, iP b4, iP b5, iP b6, .bool b7]], false, false, false⟩), (10003, ⟨0, 45, 3, es, false, false, false⟩), (10004, eP 9 1 (mP xo)), (10005, eP 9 1 (mP xn))], 2⟩) w1 SAtOldNew.cells [iP xa, .own 10090 0, .own 10091 0] (fun _ => rfl)).trans ((Wk.frzX (S := ⟨[(2, wP 10000), (3, wP 10001), (4, wP 10002), (5, iP x8), (6, .str x9), (18, .str x9), (19, .bool (decide (x9 ≠ ([] : List UInt8))))], [(10004, ⟨0, 9, 1, mP xo, true, false, true⟩), (10000, eP 30 1 [[.nils]]), (10001, eP 25 2 [[iP 0, iP 0]]), (10002, ⟨0, 65, 8, [[.own 10003 0, iP b2, .bool true, iP b3, iP b4, iP b5, iP b6, .bool b7]], false, false, false⟩), (10003, ⟨0, 45, 3, List.map SAtOldNew.cells w1 ++ [[iP xa, lP xo, .own 10005 0]], false, false, false⟩), (10004, eP 9 1 (mP xo)), (10005, eP 9 1 (mP xn))], 2⟩) 10004 0 (fun es dt => ⟨[(2, wP 10000), (3, wP 10001), (4, wP 10002), (5, iP x8), (6, .str x9), (18, .str x9), (19, .bool (decide (x9 ≠ ([] : List UInt8))))], [(10004, ⟨0, 9, 1, mP xo, true, false, true⟩), (10000, eP 30 1 [[.nils]]), (10001, eP 25 2 [[iP 0, iP 0]]), (10002, ⟨0, 65, 8, [[.own 10003 0, iP b2, .bool true, iP b3, iP b4, iP b5, iP b6, .bool b7]], false, false, false⟩), (10003, ⟨0, 45, 3, es, dt, false, false⟩), (10004, eP 9 1 (mP xo)), (10005, eP 9 1 (mP xn))], 2⟩) w1 SAtOldNew.cells [iP xa, .own 10004 0, .own 10005 0] rfl rfl (fun _ => rfl) (fun _ => rfl)).trans ((Wk.frzX (S := ⟨[(2, wP 10000), (3, wP 10001), (4, wP 10002), (5, iP x8), (6, .str x9), (18, .str x9), (19, .bool (decide (x9 ≠ ([] : List UInt8))))], [(10005, ⟨0, 9, 1, mP xn, true, false, true⟩), (10004, ⟨0, 9, 1, mP xo, true, false, true⟩), (10000, eP 30 1 [[.nils]]), (10001, eP 25 2 [[iP 0, iP 0]]), (10002, ⟨0, 65, 8, [[.own 10003 0, iP b2, .bool true, iP b3, iP b4, iP b5, iP b6, .bool b7]], false, false, false⟩), (10003, eP 45 3 (List.map SAtOldNew.cells w1 ++ [[iP xa, lP xo, lP xn]])), (10004, eP 9 1 (mP xo)), (10005, eP 9 1 (mP xn))], 2⟩) 10005 0 (fun es dt => ⟨[(2, wP 10000), (3, wP 10001), (4, wP 10002), (5, iP x8), (6, .str x9), (18, .str x9), (19, .bool (decide (x9 ≠ ([] : List UInt8))))], [(10005, ⟨0, 9, 1, mP xn, true, false, true⟩), (10004, ⟨0, 9, 1, mP xo, true, false, true⟩), (10000, eP 30 1 [[.nils]]), (10001, eP 25 2 [[iP 0, iP 0]]), (10002, ⟨0, 65, 8, [[.own 10003 0, iP b2, .bool true, iP b3, iP b4, iP b5, iP b6, .bool b7]], false, false, false⟩), (10003, ⟨0, 45, 3, es, dt, false, false⟩), (10004, eP 9 1 (mP xo)), (10005, eP 9 1 (mP xn))], 2⟩) w1 SAtOldNew.cells [iP xa, lP xo, .own 10005 0] rfl rfl (fun _ => rfl) (fun _ => rfl)).trans (Wk.rowLe (S := ⟨[(2, wP 10000), (3, wP 10001), (4, wP 10002), (5, iP x8), (6, .str x9), (18, .str x9), (19, .bool (decide (x9 ≠ ([] : List UInt8))))], [(10003, eP 45 3 (mP (w1 ++ [(⟨xa, xo, xn⟩ : SAtOldNew)]))), (10005, ⟨0, 9, 1, mP xn, true, false, true⟩), (10004, ⟨0, 9, 1, mP xo, true, false, true⟩), (10000, eP 30 1 [[.nils]]), (10001, eP 25 2 [[iP 0, iP 0]]), (10002, ⟨0, 65, 8, [[.own 10003 0, iP b2, .bool true, iP b3, iP b4, iP b5, iP b6, .bool b7]], false, false, false⟩), (10003, eP 45 3 (List.map SAtOldNew.cells w1 ++ [[iP xa, lP xo, lP xn]])), (10004, eP 9 1 (mP xo)), (10005, eP 9 1 (mP xn))], 2⟩) 10003 0 (es' := List.map SAtOldNew.cells (w1 ++ [(⟨xa, xo, xn⟩ : SAtOldNew)])) rfl rfl (LesR.snoc (c := SAtOldNew.cells) (l := w1) (x := (⟨xa, xo, xn⟩ : SAtOldNew)) (fun _ => rfl) (.cons (.refl _) (.cons (.refl _) (.cons (.refl _) (.nil))))) rfl))))
     refine Ev.seq (Ev.seq ?_)
     refine W.reg hm ?_
     refine W.fieldAddrO rfl rfl ?_
     refine W.loadO (p := iP b3) rfl rfl rfl rfl ?_
     refine W.fieldAddrO rfl rfl ?_
     refine W.loadO (p := iP b4) rfl rfl rfl rfl ?_
     obtain ⟨x86, k128, h⟩ := obind h
     refine W.addG rfl rfl k128 ?_
     refine W.gtr rfl rfl (W.nil ?_)
     refine Ev.cond rfl (fun c129 => ?_) (fun c129 => ?_)
     ·replace h := iteT h c129
      refine Ev.seq ?_
      refine W.reg hm ?_
      refine W.build (cs := [.nils]) rfl rfl rfl ?_
      refine W.mv rfl ?_
      refine W.build (cs := [iP 1, iP x8]) rfl rfl rfl ?_
      refine W.store (es' := [[.nils]]) (dt := true) rfl rfl rfl rfl rfl (Nat.le_of_ble_eq_true rfl) rfl rfl rfl rfl ?_
      refine W.store (es' := [[iP 1, iP x8]]) (dt := true) rfl rfl rfl rfl rfl (Nat.le_of_ble_eq_true rfl) rfl rfl rfl rfl ?_
      refine W.nil ?_
      refine Ev.ret ?_
      injection h with h; subst h
      exact ⟨_, rfl, Le.tups (.cons (Le.aggs (.cons (.nils 3) (.nil)) rfl) (.cons (.refl _) (.nil)))⟩
     ·replace h := iteF h c129
      refine Ev.skip ?_
      refine Ev.seq ?_
      refine Ev.regS rfl ?_
      refine Sq.w 1 nb ?_
      refine W.fieldAddrO rfl rfl (W.nil ?_)
      refine Sq.call rfl Tryz.c_diff_Collector_Patch ⟨_, rfl, nb, ?_⟩
      unfold Tryz.l_diff_Collector_Patch
      refine Ev.seq ?_
      refine W.reg hm ?_
      refine W.alloc (dt := true) rfl rfl rfl ?_
      refine W.nil ?_
      refine Ev.seq ?_
      refine W.reg hm ?_
      refine W.mv rfl (W.nilCheckO rfl rfl ?_)
      refine W.fieldAddrO rfl rfl ?_
      refine W.loadO (p := .own 10003 0) rfl rfl rfl rfl ?_
      refine W.build (cs := [.own 10003 0]) rfl rfl rfl ?_
      refine W.store (es' := [[.own 10003 0]]) (dt := false) rfl rfl rfl rfl rfl (Nat.le_of_ble_eq_true rfl) rfl rfl rfl rfl ?_
      refine W.nil ?_
      refine Ev.ret ?_
      refine ⟨_, Wk.nA (S := ⟨[(2, wP 10000), (65538, wP 10002), (65539, wP 10003)], [(10000, ⟨0, 30, 1, [[.own 10001 0]], false, false, false⟩), (10001, eP 45 3 (mP (w1 ++ [(⟨xa, xo, xn⟩ : SAtOldNew)]))), (10002, eP 30 1 [[.nils]]), (10003, eP 25 2 [[iP 0, iP 0]])], 2⟩), ?_⟩
      refine ⟨_, rfl, ?_⟩
      refine Sq.wEnd nb ?_
      refine W.alloc (dt := true) rfl rfl rfl ?_
      refine W.store (es' := [[.own 10001 0]]) (dt := false) rfl rfl rfl rfl rfl (Nat.le_of_ble_eq_true rfl) rfl rfl rfl rfl ?_
      refine W.nil ?_
      refine Ev.seq (Ev.seq ?_)
      refine Ev.weak ?_ (Wk.frz 10001 0 rfl rfl)
      refine W.reg hm ?_
      refine W.loadO (p := .agg [lP (w1 ++ [(⟨xa, xo, xn⟩ : SAtOldNew)])]) rfl rfl rfl rfl ?_
      obtain ⟨r87, k130, h⟩ := obind h
      refine W.call (textpatch_Second_spec n (⟨(w1 ++ [(⟨xa, xo, xn⟩ : SAtOldNew)])⟩ : SHunks) (-2) r87 k130) rfl rfl (Les.refl _) rfl (.inl rfl) rfl ?_
      refine W.alloc (dt := true) rfl rfl rfl ?_
      refine W.store (es' := [[iP r87.Code, iP r87.Index]]) (dt := true) rfl rfl rfl rfl rfl (Nat.le_of_ble_eq_true rfl) rfl rfl rfl rfl ?_
      refine W.nil ?_
      refine Ev.seq ?_
      refine W.reg hm ?_
      refine W.loadO (p := .agg [iP r87.Code, iP r87.Index]) rfl rfl rfl rfl ?_
      refine W.build (cs := [iP 0, iP 0]) rfl rfl rfl ?_
      refine W.eqs rfl rfl rfl (W.nil ?_)
      refine Ev.cond rfl (fun c131 => ?_) (fun c131 => ?_)
      ·replace h := iteT h c131
       refine Ev.seq ?_
       refine W.regD hm ?_
       refine W.build (cs := [.nils]) rfl rfl rfl ?_
       refine W.loadO (p := .agg [iP r87.Code, iP r87.Index]) rfl rfl rfl rfl ?_
       refine W.store (es' := [[.nils]]) (dt := true) rfl rfl rfl rfl rfl (Nat.le_of_ble_eq_true rfl) rfl rfl rfl rfl ?_
       refine W.store (es' := [[iP r87.Code, iP r87.Index]]) (dt := true) rfl rfl rfl rfl rfl (Nat.le_of_ble_eq_true rfl) rfl rfl rfl rfl ?_
       refine W.nil ⟨rfl, ?_⟩
       refine Ev.ret ?_
       injection h with h; subst h
       exact ⟨_, rfl, Le.tups (.cons (Le.aggs (.cons (.nils 3) (.nil)) rfl) (.cons (.refl _) (.nil)))⟩
      ·replace h := iteF h c131
       refine Ev.skip ?_
       refine Ev.seq ?_
       refine W.reg hm ?_
       refine W.loadO (p := .agg [lP (w1 ++ [(⟨xa, xo, xn⟩ : SAtOldNew)])]) rfl rfl rfl rfl ?_
       refine W.build (cs := [iP 0, iP 0]) rfl rfl rfl ?_
       refine W.store (es' := [[lP (w1 ++ [(⟨xa, xo, xn⟩ : SAtOldNew)])]]) (dt := true) rfl rfl rfl rfl rfl (Nat.le_of_ble_eq_true rfl) rfl rfl rfl rfl ?_
       refine W.store (es' := [[iP 0, iP 0]]) (dt := true) rfl rfl rfl rfl rfl (Nat.le_of_ble_eq_true rfl) rfl rfl rfl rfl ?_
       refine W.nil ?_
       refine Ev.ret ?_
       injection h with h; subst h
       exact ⟨_, rfl, .refl _⟩
theorem stack_check_spec (n : Nat) (a0 : List SHunks) (r : SCodeIndex) (h : stack_check n a0 = some r) : PSpec Tryz.prog 26 [lP a0] (.agg (SCodeIndex.cells r)) := by
 unfold stack_check at h
 refine spec_of Tryz.c_stack_check (by simp) ?_
 unfold Tryz.l_stack_check
 refine au h [1,1,5,1,1,1,1,5,5] ?_; intro h
 refine bs h (fun c1 h => ?_) fun c1 h => ?_
 ·refine au h [2,1,1,5,8,1] ?_; intro h
  cases h
  exact ⟨_, rfl, .refl _⟩
 ·refine au h [3,1,1,1,1,1,5,1,1] ?_; intro h
  refine Ev.loopW (β := Nat × Int) (fun v => ⟨[(2, wP 10100), (10, lP a0), (11, iP (a0.length : Int)), (12, iP v.2)], [(10100, eP 25 2 [[iP 0, iP 0]])], 2⟩) (fun v => stack_check_l1 n a0 v.1 v.2 = some r) (fun v => v.1) (n, 0) (.nA) h ?_
  intro ⟨m1, x1⟩ h
  try dsimp only at h ⊢
  cases m1 with
  | zero => rw [stack_check_l1] at h; cases h
  | succ m1 =>
   rw [stack_check_l1] at h
   refine au h [1,1,5,1] ?_; intro h
   refine bs h (fun c2 h => ?_) fun c2 h => ?_
   ·refine au h [2,1,1,1,1,1,1,5,5,5,1,8,1,1,8,1] ?_; intro e2 k3 h
    refine cb h (textpatch_Second_spec n _ _) fun r3 k4 h => ?_
    refine ax 26 h [5,8,1,1,8,5,5] ?_; intro h
    refine bs h (fun c5 h => ?_) fun c5 h => ?_
    ·refine au h [2,1,1,8,8,1] ?_; intro h
     cases h
     exact ⟨_, rfl, .refl _⟩
    ·refine au h [3,1,1,7,1] ?_; intro x4 k6 h
     exact lb (m1, x4) h
   ·refine au h [3,1,1,1,5,8,1] ?_; intro h
    cases h
    exact ⟨_, rfl, .refl _⟩
theorem stack_Apply_spec (n : Nat) (a0 : List (List UInt8)) (a1 : List SHunks) (r : ((List (List UInt8)) × SCodeIndex)) (h : stack_Apply n a0 a1 = some r) : PSpec Tryz.prog 8 [lP a0, lP a1] (.tup [lP r.1, .agg (SCodeIndex.cells r.2)]) := by
 unfold stack_Apply at h
 refine spec_of Tryz.c_stack_Apply (by simp) ?_
 unfold Tryz.l_stack_Apply
 refine au h [1,1,1,5,1,1,1,1] ?_; intro h
 refine cb h (stack_check_spec n _) fun r1 k1 h => ?_
 refine ax 51 h [5,8,1,1,8,5,5] ?_; intro h
 refine bs h (fun c2 h => ?_) fun c2 h => ?_
 ·refine au h [2,1,1,8,1,8,1] ?_; intro h
  cases h
  exact ⟨_, rfl, Le.tups (.cons (.nils 1) (.cons (.refl _) (.nil)))⟩
 ·refine au h [3,1,1,1,1,1] ?_; intro h
  refine cb h (lines_Second_spec n _ _) fun r2 k3 h => ?_
  refine ax 51 h [5,8,1,1,8,5,5] ?_; intro h
  refine bs h (fun c4 h => ?_) fun c4 h => ?_
  ·refine au h [2,1,1,8,1,8,1] ?_; intro h
   cases h
   exact ⟨_, rfl, Le.tups (.cons (.nils 1) (.cons (.refl _) (.nil)))⟩
  ·refine au h [3,1,1,1,1,5,1,1,1,1,1,5,1,1] ?_; intro w3 k5 h
   refine Ev.loopW (β := Nat × (List (List UInt8)) × Int) (fun v => ⟨[(5, wP 10100), (8, lP v.2.1), (27, lP a1), (28, iP (a1.length : Int)), (29, iP v.2.2)], [(10100, eP 25 2 [[iP 0, iP 0]])], 2⟩) (fun v => stack_Apply_l1 n a1 v.1 v.2.1 v.2.2 = some r) (fun v => v.1) (n, w3, 0) ((Wk.frz 26 2 rfl rfl).trans (.nA)) h ?_
   intro ⟨m1, x4, x5⟩ h
   try dsimp only at h ⊢
   cases m1 with
   | zero => rw [stack_Apply_l1] at h; cases h
   | succ m1 =>
    rw [stack_Apply_l1] at h
    refine au h [1,1,5,1] ?_; intro h
    refine bs h (fun c6 h => ?_) fun c6 h => ?_
    ·refine au h [2,1,1,1,1,1,1,5,5,5,1,8,1,1,8,1] ?_; intro e6 k7 h
     refine cb h (textpatch_Apply_spec n _ _) fun r7 k8 h => ?_
     refine ax 51 h [1,5,5,5,1,8,1,1,1,8,5,5] ?_; intro h
     refine bs h (fun c9 h => ?_) fun c9 h => ?_
     ·refine au h [2,1,1,8,8,1,5,1,8,1] ?_; intro h
      cases h
      exact ⟨_, rfl, Le.tups (.cons (.nils 1) (.cons (.refl _) (.nil)))⟩
     ·refine au h [3,1,1,1,1,1,7,1] ?_; intro x8 k10 h
      exact lb (m1, r7.1, x8) h
    ·refine au h [3,1,1,1,1,5,1,8,1] ?_; intro h
     cases h
     exact ⟨_, rfl, .refl _⟩
theorem equal_Patch_spec (n : Nat) (a0 : SHunks) (a1 : SHunks) (r : Bool) (h : equal_Patch n a0 a1 = some r) : PSpec Tryz.prog 27 [.agg (SHunks.cells a0), .agg (SHunks.cells a1)] (.bool r) := by
 unfold equal_Patch at h
 refine spec_of Tryz.c_equal_Patch (by simp) ?_
 unfold Tryz.l_equal_Patch
 refine au h [1,1,5,5,1,1,1,1,8,8,5,8,8,5,5] ?_; intro h
 refine bs h (fun c1 h => ?_) fun c1 h => ?_
 ·refine au h [2,1,1,1,1] ?_; intro h
  cases h
  exact ⟨_, rfl, .refl _⟩
 ·refine au h [3,1,1,1,1,1,1] ?_; intro h
  refine Ev.loopW (β := Nat × Int) (fun v => ⟨[(2, wP 10100), (3, wP 10101), (5, iP v.2)], [(10100, eP 30 1 [[lP a0.Hunks]]), (10101, eP 30 1 [[lP a1.Hunks]])], 2⟩) (fun v => equal_Patch_l1 n a0 a1 v.1 v.2 = some r) (fun v => v.1) (n, 0) (.nA) h ?_
  intro ⟨m1, x1⟩ h
  try dsimp only at h ⊢
  cases m1 with
  | zero => rw [equal_Patch_l1] at h; cases h
  | succ m1 =>
   rw [equal_Patch_l1] at h
   refine au h [1,1,1,1,8,8,5,5] ?_; intro h
   refine bs h (fun c2 h => ?_) fun c2 h => ?_
   ·refine au h [2,1,1,1] ?_; intro h
    refine Ev.seqJ (γ := Bool) (fun v => ⟨[(2, wP 10200), (3, wP 10201), (5, iP x1), (64, .bool v)], [(10200, eP 30 1 [[lP a0.Hunks]]), (10201, eP 30 1 [[lP a1.Hunks]])], 2⟩) (fun v => equal_Patch_j1 n x1 (equal_Patch_l1 n a0 a1 m1) v = some r) ?_ ?_
    ·refine au h [1,8,8,1,5,5,5,8,8,1,5,5,5,5,1] ?_; intro e4 k5 e5 k6 h
     refine bs h (fun c7 h => ?_) fun c7 h => ?_
     ·refine aw h [3,3,3,3,3,3,3,3,3,3,3,3,3,3,2,1,3,3,3,3,3,3,3,3,3,3,3,3,3,3,2] ?_; intro h
      exact lf true h
     ·refine aw h [2,8,2,8,2,1,2,6,2,5,2,5,2,8,2,8,2,1,2,6,2,5,2,5,2] ?_; intro h
      refine cb h (equal_Strings_spec n _ _) fun r6 k8 h => ?_
      refine aw h [2,5,3,1] ?_; intro h
      refine bs h (fun c9 h => ?_) fun c9 h => ?_
      ·refine aw h [3,3,3,3,3,3,3,3,3,3,3,3,3,3,2] ?_; intro h
       exact lf true h
      ·refine aw h [2,8,2,8,2,1,2,6,2,5,2,5,2,8,2,8,2,1,2,6,2,5,2,5,2] ?_; intro h
       refine cb h (equal_Strings_spec n _ _) fun r7 k10 h => ?_
       refine aw h [2,5,3] ?_; intro h
       exact lf (!r7) h
    ·intro x2 h
     try dsimp only at h ⊢
     unfold equal_Patch_j1 at h
     refine bs h (fun c3 h => ?_) fun c3 h => ?_
     ·refine au h [2,1,1,1,1] ?_; intro h
      cases h
      exact ⟨_, rfl, .refl _⟩
     ·refine au h [3,1,1,1,7,1] ?_; intro x3 k4 h
      exact lb (m1, x3) h
   ·refine au h [3,1,1,1,1,1] ?_; intro h
    cases h
    exact ⟨_, rfl, .refl _⟩
theorem equal_Patches_spec (n : Nat) (a0 : List SHunks) (a1 : List SHunks) (r : Bool) (h : equal_Patches n a0 a1 = some r) : PSpec Tryz.prog 9 [lP a0, lP a1] (.bool r) := by
 unfold equal_Patches at h
 refine spec_of Tryz.c_equal_Patches (by simp) ?_
 unfold Tryz.l_equal_Patches
 refine au h [1,1,1,1,1,1,1,5,1,5,5] ?_; intro h
 refine bs h (fun c1 h => ?_) fun c1 h => ?_
 ·refine au h [2,1,1,1,1] ?_; intro h
  cases h
  exact ⟨_, rfl, .refl _⟩
 ·refine au h [3,1,1,1,1,1,1] ?_; intro h
  refine Ev.loopW (β := Nat × Int) (fun v => ⟨[(0, lP a0), (1, lP a1), (5, iP v.2)], [], 2⟩) (fun v => equal_Patches_l1 n a0 a1 v.1 v.2 = some r) (fun v => v.1) (n + a0.length, 0) (.nA) h ?_
  intro ⟨m1, x1⟩ h
  try dsimp only at h ⊢
  cases m1 with
  | zero => rw [equal_Patches_l1] at h; cases h
  | succ m1 =>
   rw [equal_Patches_l1] at h
   refine au h [1,1,1,1,1,5,5] ?_; intro h
   refine bs h (fun c2 h => ?_) fun c2 h => ?_
   ·refine au h [2,1,1,1,1,1,1,1,5,5,1,1,5,5] ?_; intro e2 k3 e3 k4 h
    refine cb h (equal_Patch_spec n _ _) fun r4 k5 h => ?_
    refine aw h [5] ?_; intro h
    refine bs h (fun c6 h => ?_) fun c6 h => ?_
    ·refine au h [2,1,1,1,1] ?_; intro h
     cases h
     exact ⟨_, rfl, .refl _⟩
    ·refine au h [3,1,1,1,7,1] ?_; intro x5 k7 h
     exact lb (m1, x5) h
   ·refine au h [3,1,1,1,1,1] ?_; intro h
    cases h
    exact ⟨_, rfl, .refl _⟩
theorem top_TopStacksSurviveTransport_spec (n : Nat) (a0 : List (List UInt8)) (a1 : List SHunks) (a2 : Int) (r : Bool) (h : top_TopStacksSurviveTransport n a0 a1 a2 = some r) : PSpec Tryz.prog 3 [lP a0, lP a1, iP a2] (.bool r) := by
 unfold top_TopStacksSurviveTransport at h
 refine spec_of Tryz.c_top_TopStacksSurviveTransport (by simp) ?_
 unfold Tryz.l_top_TopStacksSurviveTransport
 refine au h [1,1,1,1,1,1,1,1,1,1,1,1,1,1,1] ?_; intro h
 refine Ev.loopW (β := Nat × (List (List UInt8)) × (List SHunks) × Int) (fun v => ⟨[(0, lP a0), (1, lP a1), (2, iP a2), (7, lP v.2.1), (8, .own 10100 0), (9, iP v.2.2.2)], [(10100, eP 30 1 (mP v.2.2.1))], 2⟩) (fun v => top_TopStacksSurviveTransport_l1 n a0 a1 a2 v.1 v.2.1 v.2.2.1 v.2.2.2 = some r) (fun v => v.1) (n + a1.length, a0, ([] : List SHunks), 0) ((Wk.ownNil 8 30100 30 1 rfl rfl true).trans (.nA)) h ?_
 intro ⟨m1, x1, w2, x3⟩ h
 try dsimp only at h ⊢
 cases m1 with
 | zero => rw [top_TopStacksSurviveTransport_l1] at h; cases h
 | succ m1 =>
  rw [top_TopStacksSurviveTransport_l1] at h
  refine au h [1,1,1,1,1,5,5] ?_; intro h
  refine bs h (fun c1 h => ?_) fun c1 h => ?_
  ·refine au h [2,1,1,1,1,1,1,1,1,5,5,1] ?_; intro e4 k2 h
   refine cb h (unified_Format_spec n _ _ _) fun r5 k3 h => ?_
   refine ax 101 h [1,5,5,5,1,8,1,1,1,8,8,5] ?_; intro h
   refine bs h (fun c4 h => ?_) fun c4 h => ?_
   ·refine au h [2,1,1] ?_; intro h
    refine cb h (top_h11Works_spec n) fun r6 k5 h => ?_
    refine ax 101 h [1,1] ?_; intro h
    cases h
    exact ⟨_, rfl, .refl _⟩
   ·refine au h [3,1,1,1,1] ?_; intro h
    refine cb h (unified_Parse_spec n _) fun r7 k6 h => ?_
    refine ax 101 h [1,5,5,5,5,8,8,1,1,1,8,8,5] ?_; intro h
    refine bs h (fun c7 h => ?_) fun c7 h => ?_
    ·refine au h [2,1,1,1,1] ?_; intro h
     cases h
     exact ⟨_, rfl, .refl _⟩
    ·refine au h [3,1,1,1,1,8,5,7,1,1,1,8,1] ?_; intro w8 k8 h
     refine cb h (textpatch_Apply_spec n _ _) fun r9 k9 h => ?_
     refine ax 101 h [1,5,5,5,1,8,1,1,1,8,8,5] ?_; intro h
     refine bs h (fun c10 h => ?_) fun c10 h => ?_
     ·refine au h [2,1,1,1,1] ?_; intro h
      cases h
      exact ⟨_, rfl, .refl _⟩
     ·refine au h [3,1,1,1,1,1,1,7,1] ?_; intro x10 k11 h
      exact lb (m1, r9.1, w8, x10) h
  ·refine au h [3,1,1,1,1,1] ?_; intro h
   refine cb h (stack_Apply_spec n _ _) fun r11 k12 h => ?_
   refine ax 101 h [1,5,5,5,1,8,1] ?_; intro h
   refine Ev.weak ?_ (Wk.frz 10100 0 rfl rfl)
   refine au h [1,1,1] ?_; intro h
   refine cb h (stack_Apply_spec n _ _) fun r12 k13 h => ?_
   refine aw h [1,5,5,5,1,8] ?_; intro h
   refine Ev.seqJ (γ := Bool) (fun v => ⟨[(6, .bool v)], [], 2⟩) (fun v => top_TopStacksSurviveTransport_j1 n v = some r) ?_ ?_
   ·refine au h [1,1,1] ?_; intro h
    refine cb h (equal_Patches_spec n _ _) fun r14 k14 h => ?_
    refine W.mv rfl ?_
    refine bs h (fun c15 h => ?_) fun c15 h => ?_
    ·refine aw h [2,8,2,8,2,5,2,1] ?_; intro h
     refine bs h (fun c16 h => ?_) fun c16 h => ?_
     ·refine aw h [2,1,2,1,2] ?_; intro h
      refine cb h (equal_Strings_spec n _ _) fun r15 k17 h => ?_
      refine aw h [2,1] ?_; intro h
      refine bs h (fun c18 h => ?_) fun c18 h => ?_
      ·refine aw h [2,8,2,8,2,5,2,1] ?_; intro h
       refine bs h (fun c19 h => ?_) fun c19 h => ?_
       ·refine aw h [3,3,3,2,2,2,1,2] ?_; intro h
        refine cb h (top_h11Works_spec n) fun r16 k20 h => ?_
        refine aw h [2,1] ?_; intro h
        exact lf r16 h
       ·refine aw h [2,1,2,1,2] ?_; intro h
        refine cb h (equal_Strings_spec n _ _) fun r17 k21 h => ?_
        refine aw h [2,3,2,1] ?_; intro h
        refine bs h (fun c22 h => ?_) fun c22 h => ?_
        ·refine W.guardT rfl c22 ?_
         refine cb h (top_h11Works_spec n) fun r18 k23 h => ?_
         refine aw h [2,1] ?_; intro h
         exact lf r18 h
        ·refine aw h [3,3,1] ?_; intro h
         exact lf false h
      ·refine aw h [3,3,3,3,4,4,4,3,3,1,3,3,1] ?_; intro h
       exact lf false h
     ·refine aw h [3,3,3,3,1,3,3,3,3,4,4,4,3,3,1,3,3,1] ?_; intro h
      exact lf false h
    ·refine aw h [3,3,3,3,1,3,3,3,3,1,3,3,3,3,4,4,4,3,3,1,3,3,1] ?_; intro h
     exact lf false h
   ·intro x13 h
    try dsimp only at h ⊢
    unfold top_TopStacksSurviveTransport_j1 at h
    refine Ev.ret ?_
    cases h
    exact ⟨_, rfl, .refl _⟩
end Go.Proofs.YtjmmlddioeehbaaGreatDoor
