/- The functions compute what the texts of D say. Laid by a program (wip/gen/dec.py). -/
import Derived.Test.YtlkknmhhefjmjaaDoorD
import Derived.Test.YtlkknmhhefjmjaaDoorW1
namespace Go.Proofs.YtlkknmhhefjmjaaDoor
open Go.PW Go
theorem lines_Validate_spec (n : Nat) (a0 : List (List UInt8)) (r : SCodeIndex) (h : lines_Validate n a0 = some r) : PSpec Tryd.prog 90 [.list 1 (List.map cS a0)] (.agg (SCodeIndex.cells r)) := by
  unfold lines_Validate at h
  refine spec_of Tryd.c_lines_Validate (by simp) ?_
  unfold Tryd.l_lines_Validate
  refine Ev.seq ?_
  refine W.reg hm ?_
  refine W.alloc (dt := true) rfl rfl rfl ?_
  refine W.nil ?_
  refine Ev.seq ?_
  refine Ev.seq ?_
  refine W.reg hm ?_
  refine W.mv rfl ?_
  refine W.lenL (c := cS) rfl ?_
  refine W.gtr rfl rfl ?_
  refine W.nil ?_
  refine Ev.cond rfl (fun c1 => ?_) (fun c1 => ?_)
  · replace h := iteT h c1
    refine Ev.seq ?_
    refine W.reg hm ?_
    refine W.build (cs := [.int .i64 2, .int .i64 (-1)]) rfl rfl rfl ?_
    refine W.store (es' := [[.int .i64 2, .int .i64 (-1)]]) (dt := true) rfl rfl rfl rfl rfl (Nat.le_of_ble_eq_true rfl) rfl rfl rfl rfl ?_
    refine W.nil ?_
    refine Ev.ret ?_
    injection h with h; subst h
    exact ⟨_, rfl, .refl _⟩
  · replace h := iteF h c1
    refine Ev.skip ?_
    refine Ev.seq ?_
    refine Ev.seq ?_
    refine W.reg hm ?_
    refine W.mv rfl ?_
    refine W.lenL (c := cS) rfl ?_
    refine W.mv rfl ?_
    refine W.nil ?_
    refine Ev.block ?_
    refine Ev.loopW (β := Nat × Int) (fun v => ⟨[(2, .pown 10100 0 0 0), (9, .list 1 (List.map cS a0)), (10, .int .i64 (a0.length : Int)), (11, .int .i64 v.2)], [(10100, ⟨0, 25, 2, [[.int .i64 0, .int .i64 0]], true, false, false⟩)], 2⟩) (fun v => lines_Validate_l1 n a0 v.1 v.2 = some r) (fun v => v.1) (n, 0) (Wk.nrmTo [2, 9, 10, 11] [(2, 10100)] rfl rfl) h ?_
    intro ⟨m1, x1⟩ h
    try dsimp only at h ⊢
    cases m1 with
    | zero => rw [lines_Validate_l1] at h; cases h
    | succ m1 =>
      rw [lines_Validate_l1] at h
      refine Ev.seq ?_
      refine W.reg hm ?_
      refine W.lss rfl rfl ?_
      refine W.nil ?_
      refine Ev.seq ?_
      refine Ev.cond rfl (fun c2 => ?_) (fun c2 => ?_)
      · replace h := iteT h c2
        refine Ev.skip ?_
        refine Ev.seq ?_
        refine Ev.block ?_
        refine Ev.seq ?_
        refine W.reg hm ?_
        refine W.mv rfl ?_
        obtain ⟨e2, k3, h⟩ := obind h
        refine W.idxL (c := cS) rfl rfl k3 ?_
        refine W.load rfl rfl ?_
        refine W.mv rfl ?_
        refine W.mv rfl ?_
        refine W.nil ?_
        refine Ev.seq ?_
        refine Ev.seq ?_
        refine W.reg hm ?_
        refine W.mv rfl ?_
        refine W.slen rfl ?_
        refine W.gtr rfl rfl ?_
        refine W.nil ?_
        refine Ev.cond rfl (fun c4 => ?_) (fun c4 => ?_)
        · replace h := iteT h c4
          refine Ev.seq ?_
          refine W.reg hm ?_
          refine W.mv rfl ?_
          refine W.build (cs := [.int .i64 2, .int .i64 x1]) rfl rfl rfl ?_
          refine W.store (es' := [[.int .i64 2, .int .i64 x1]]) (dt := true) rfl rfl rfl rfl rfl (Nat.le_of_ble_eq_true rfl) rfl rfl rfl rfl ?_
          refine W.nil ?_
          refine Ev.ret ?_
          injection h with h; subst h
          exact ⟨_, rfl, .refl _⟩
        · replace h := iteF h c4
          refine Ev.skip ?_
          refine Ev.seq ?_
          refine W.reg hm ?_
          refine W.mv rfl ?_
          obtain ⟨r3, k5, h⟩ := obind h
          refine W.call (strings_IndexByte_spec n e2 10 r3 k5) rfl rfl (Les.refl _) rfl (.inl rfl) rfl ?_
          refine W.geq rfl rfl ?_
          refine W.nil ?_
          refine Ev.cond rfl (fun c6 => ?_) (fun c6 => ?_)
          · replace h := iteT h c6
            refine Ev.seq ?_
            refine W.reg hm ?_
            refine W.mv rfl ?_
            refine W.build (cs := [.int .i64 5, .int .i64 x1]) rfl rfl rfl ?_
            refine W.store (es' := [[.int .i64 5, .int .i64 x1]]) (dt := true) rfl rfl rfl rfl rfl (Nat.le_of_ble_eq_true rfl) rfl rfl rfl rfl ?_
            refine W.nil ?_
            refine Ev.ret ?_
            injection h with h; subst h
            exact ⟨_, rfl, .refl _⟩
          · replace h := iteF h c6
            refine Ev.skip ?_
            refine W.reg hm ?_
            obtain ⟨x4, k7, h⟩ := obind h
            refine W.addG rfl rfl k7 ?_
            refine W.mv rfl ?_
            refine W.nil ?_
            exact ⟨(m1, x4), h, Nat.lt_succ_self _, Wk.nrmTo [2, 9, 10, 11] [(10100, 10100)] rfl rfl⟩
      · replace h := iteF h c2
        refine Ev.exit ?_
        refine Ev.seq ?_
        refine W.reg hm ?_
        refine W.build (cs := [.int .i64 0, .int .i64 0]) rfl rfl rfl ?_
        refine W.store (es' := [[.int .i64 0, .int .i64 0]]) (dt := true) rfl rfl rfl rfl rfl (Nat.le_of_ble_eq_true rfl) rfl rfl rfl rfl ?_
        refine W.nil ?_
        refine Ev.ret ?_
        injection h with h; subst h
        exact ⟨_, rfl, .refl _⟩
theorem lines_Second_spec (n : Nat) (a0 : List (List UInt8)) (a1 : Int) (r : SCodeIndex) (h : lines_Second n a0 a1 = some r) : PSpec Tryd.prog 53 [.list 1 (List.map cS a0), .int .i64 a1] (.agg (SCodeIndex.cells r)) := by
  unfold lines_Second at h
  refine spec_of Tryd.c_lines_Second (by simp) ?_
  unfold Tryd.l_lines_Second
  refine Ev.seq ?_
  refine W.reg hm ?_
  refine W.alloc (dt := true) rfl rfl rfl ?_
  refine W.nil ?_
  refine Ev.seq ?_
  refine Ev.seq ?_
  refine W.reg hm ?_
  refine W.mv rfl ?_
  obtain ⟨r1, k1, h⟩ := obind h
  refine W.call (lines_Validate_spec n a0 r1 k1) rfl rfl (Les.refl _) rfl (.inl rfl) rfl ?_
  refine W.alloc (dt := true) rfl rfl rfl ?_
  refine W.store (es' := [[.int .i64 r1.Code, .int .i64 r1.Index]]) (dt := true) rfl rfl rfl rfl rfl (Nat.le_of_ble_eq_true rfl) rfl rfl rfl rfl ?_
  refine W.nil ?_
  refine Ev.seq ?_
  refine W.reg hm ?_
  refine W.loadO (p := .agg [.int .i64 r1.Code, .int .i64 r1.Index]) rfl rfl rfl rfl ?_
  refine W.build (cs := [.int .i64 0, .int .i64 0]) rfl rfl rfl ?_
  refine W.eqs rfl rfl rfl ?_
  refine W.nil ?_
  refine Ev.cond rfl (fun c2 => ?_) (fun c2 => ?_)
  · replace h := iteT h c2
    refine Ev.seq ?_
    refine W.reg hm ?_
    refine W.fieldAddrO rfl rfl ?_
    refine W.loadO (p := .int .i64 r1.Code) rfl rfl rfl rfl ?_
    refine W.mv rfl ?_
    refine W.build (cs := [.int .i64 r1.Code, .int .i64 a1]) rfl rfl rfl ?_
    refine W.store (es' := [[.int .i64 r1.Code, .int .i64 a1]]) (dt := true) rfl rfl rfl rfl rfl (Nat.le_of_ble_eq_true rfl) rfl rfl rfl rfl ?_
    refine W.nil ?_
    refine Ev.ret ?_
    injection h with h; subst h
    exact ⟨_, rfl, .refl _⟩
  · replace h := iteF h c2
    refine Ev.skip ?_
    refine Ev.seq ?_
    refine W.reg hm ?_
    refine W.build (cs := [.int .i64 0, .int .i64 0]) rfl rfl rfl ?_
    refine W.store (es' := [[.int .i64 0, .int .i64 0]]) (dt := true) rfl rfl rfl rfl rfl (Nat.le_of_ble_eq_true rfl) rfl rfl rfl rfl ?_
    refine W.nil ?_
    refine Ev.ret ?_
    injection h with h; subst h
    exact ⟨_, rfl, .refl _⟩
theorem internal_stringslite_HasPrefix_spec (n : Nat) (a0 : List UInt8) (a1 : List UInt8) (r : Bool) (h : internal_stringslite_HasPrefix n a0 a1 = some r) : PSpec Tryd.prog 154 [.str a0, .str a1] (.bool r) := by
  unfold internal_stringslite_HasPrefix at h
  refine spec_of Tryd.c_internal_stringslite_HasPrefix (by simp) ?_
  unfold Tryd.l_internal_stringslite_HasPrefix
  refine Ev.seq ?_
  refine W.reg hm ?_
  refine W.mv rfl ?_
  refine W.nil ?_
  refine Ev.seqJ (γ := Bool) (fun v => ⟨[(4, .bool v)], [], 2⟩) (fun v => internal_stringslite_HasPrefix_j1 n v = some r) ?_ ?_
  · refine W.reg hm ?_
    refine W.mv rfl ?_
    refine W.slen rfl ?_
    refine W.mv rfl ?_
    refine W.slen rfl ?_
    refine W.geq rfl rfl ?_
    refine W.mv rfl ?_
    refine W.split 10 rfl (fun c1 => ?_) (fun c1 => ?_)
    · replace h := iteT h c1
      refine W.guardT rfl c1 ?_
      refine W.mv rfl ?_
      refine W.guardT rfl c1 ?_
      refine W.mv rfl ?_
      refine W.guardT rfl c1 ?_
      refine W.slen rfl ?_
      refine W.guardT rfl c1 ?_
      obtain ⟨s2, k2, h⟩ := obind h
      refine W.ssliceG rfl k2 (ix1 (gcut_some k2).2.2.2.1) ?_
      refine W.guardT rfl c1 ?_
      refine W.mv rfl ?_
      refine W.guardT rfl c1 ?_
      refine W.seql rfl rfl ?_
      refine W.pickT rfl rfl rfl c1 ?_
      refine W.mv rfl ?_
      refine W.nil ?_
      exact ⟨(decide (s2 = a1)), h, Wk.nrmTo [4] [] rfl rfl⟩
    · replace h := iteF h c1
      refine W.guardF1 rfl c1 ?_
      refine W.guardF1 rfl c1 ?_
      refine W.guardF1 rfl c1 ?_
      refine W.guardF1 rfl c1 ?_
      refine W.guardF1 rfl c1 ?_
      refine W.guardF1 rfl c1 ?_
      refine W.pickN rfl rfl rfl c1 ?_
      refine W.mv rfl ?_
      refine W.nil ?_
      exact ⟨false, h, Wk.nrmTo [4] [] rfl rfl⟩
  · intro x1 h
    try dsimp only at h ⊢
    unfold internal_stringslite_HasPrefix_j1 at h
    refine Ev.ret ?_
    injection h with h; subst h
    exact ⟨_, rfl, .refl _⟩
theorem strings_HasPrefix_spec (n : Nat) (a0 : List UInt8) (a1 : List UInt8) (r : Bool) (h : strings_HasPrefix n a0 a1 = some r) : PSpec Tryd.prog 150 [.str a0, .str a1] (.bool r) := by
  unfold strings_HasPrefix at h
  refine spec_of Tryd.c_strings_HasPrefix (by simp) ?_
  unfold Tryd.l_strings_HasPrefix
  refine Ev.seq ?_
  refine W.reg hm ?_
  refine W.mv rfl ?_
  refine W.nil ?_
  refine Ev.seq ?_
  refine W.reg hm ?_
  refine W.mv rfl ?_
  refine W.mv rfl ?_
  obtain ⟨r1, k1, h⟩ := obind h
  refine W.call (internal_stringslite_HasPrefix_spec n a0 a1 r1 k1) rfl rfl (Les.refl _) rfl (.inl rfl) rfl ?_
  refine W.mv rfl ?_
  refine W.nil ?_
  refine Ev.ret ?_
  injection h with h; subst h
  exact ⟨_, rfl, .refl _⟩
theorem treepatch_Related_spec (n : Nat) (a0 : List UInt8) (a1 : List UInt8) (r : Bool) (h : treepatch_Related n a0 a1 = some r) : PSpec Tryd.prog 140 [.str a0, .str a1] (.bool r) := by
  unfold treepatch_Related at h
  refine spec_of Tryd.c_treepatch_Related (by simp) ?_
  unfold Tryd.l_treepatch_Related
  refine Ev.seq ?_
  refine W.reg hm ?_
  refine W.mv rfl ?_
  refine W.nil ?_
  refine Ev.seqJ (γ := Bool) (fun v => ⟨[(4, .bool v)], [], 2⟩) (fun v => treepatch_Related_j1 n v = some r) ?_ ?_
  · refine W.reg hm ?_
    refine W.mv rfl ?_
    refine W.mv rfl ?_
    refine W.seql rfl rfl ?_
    refine W.mv rfl ?_
    refine W.split 8 rfl (fun c1 => ?_) (fun c1 => ?_)
    · replace h := iteT h c1
      refine W.guardF2 rfl c1 ?_
      refine W.guardF2 rfl c1 ?_
      refine W.guardF2 rfl c1 ?_
      refine W.guardF2 rfl c1 ?_
      refine W.pickT rfl rfl rfl c1 ?_
      refine W.mv rfl ?_
      refine W.guardF2 rfl rfl ?_
      refine W.guardF2 rfl rfl ?_
      refine W.guardF2 rfl rfl ?_
      refine W.guardF2 rfl rfl ?_
      refine W.pickT rfl rfl rfl rfl ?_
      refine W.mv rfl ?_
      refine W.nil ?_
      exact ⟨true, h, Wk.nrmTo [4] [] rfl rfl⟩
    · replace h := iteF h c1
      refine W.guardT rfl c1 ?_
      refine W.mv rfl ?_
      refine W.guardT rfl c1 ?_
      refine W.mv rfl ?_
      refine W.guardT rfl c1 ?_
      obtain ⟨s2, k2, h⟩ := obind h
      refine W.catG rfl rfl k2 ?_
      refine W.guardT rfl c1 ?_
      obtain ⟨r3, k3, h⟩ := obind h
      refine W.call (strings_HasPrefix_spec n a0 s2 r3 k3) rfl rfl (Les.refl _) rfl (.inl rfl) rfl ?_
      refine W.pickN rfl rfl rfl c1 ?_
      refine W.mv rfl ?_
      refine W.split 14 rfl (fun c4 => ?_) (fun c4 => ?_)
      · replace h := iteT h c4
        refine W.guardF2 rfl c4 ?_
        refine W.guardF2 rfl c4 ?_
        refine W.guardF2 rfl c4 ?_
        refine W.guardF2 rfl c4 ?_
        refine W.pickT rfl rfl rfl c4 ?_
        refine W.mv rfl ?_
        refine W.nil ?_
        exact ⟨true, h, Wk.nrmTo [4] [] rfl rfl⟩
      · replace h := iteF h c4
        refine W.guardT rfl c4 ?_
        refine W.mv rfl ?_
        refine W.guardT rfl c4 ?_
        refine W.mv rfl ?_
        refine W.guardT rfl c4 ?_
        obtain ⟨s4, k5, h⟩ := obind h
        refine W.catG rfl rfl k5 ?_
        refine W.guardT rfl c4 ?_
        obtain ⟨r5, k6, h⟩ := obind h
        refine W.call (strings_HasPrefix_spec n a1 s4 r5 k6) rfl rfl (Les.refl _) rfl (.inl rfl) rfl ?_
        refine W.pickN rfl rfl rfl c4 ?_
        refine W.mv rfl ?_
        refine W.nil ?_
        exact ⟨r5, h, Wk.nrmTo [4] [] rfl rfl⟩
  · intro x1 h
    try dsimp only at h ⊢
    unfold treepatch_Related_j1 at h
    refine Ev.ret ?_
    injection h with h; subst h
    exact ⟨_, rfl, .refl _⟩
theorem treepatch_Clash_spec (n : Nat) (a0 : List SPathLines) (a1 : List UInt8) (a2 : Int) (r : Bool) (h : treepatch_Clash n a0 a1 a2 = some r) : PSpec Tryd.prog 125 [.list 2 (List.map SPathLines.cells a0), .str a1, .int .i64 a2] (.bool r) := by
  unfold treepatch_Clash at h
  refine spec_of Tryd.c_treepatch_Clash (by simp) ?_
  unfold Tryd.l_treepatch_Clash
  refine Ev.seq ?_
  refine W.reg hm ?_
  refine W.mv rfl ?_
  refine W.nil ?_
  refine Ev.seq ?_
  refine Ev.seq ?_
  refine W.reg hm ?_
  refine W.mv rfl ?_
  refine W.lenL (c := SPathLines.cells) rfl ?_
  refine W.mv rfl ?_
  refine W.nil ?_
  refine Ev.block ?_
  refine Ev.loopW (β := Nat × Int) (fun v => ⟨[(1, .str a1), (2, .int .i64 a2), (9, .list 2 (List.map SPathLines.cells a0)), (10, .int .i64 (a0.length : Int)), (11, .int .i64 v.2)], [], 2⟩) (fun v => treepatch_Clash_l1 n a0 a1 a2 v.1 v.2 = some r) (fun v => v.1) (n, 0) (Wk.nrmTo [1, 2, 9, 10, 11] [] rfl rfl) h ?_
  intro ⟨m1, x1⟩ h
  try dsimp only at h ⊢
  cases m1 with
  | zero => rw [treepatch_Clash_l1] at h; cases h
  | succ m1 =>
    rw [treepatch_Clash_l1] at h
    refine Ev.seq ?_
    refine W.reg hm ?_
    refine W.lss rfl rfl ?_
    refine W.nil ?_
    refine Ev.seq ?_
    refine Ev.cond rfl (fun c1 => ?_) (fun c1 => ?_)
    · replace h := iteT h c1
      refine Ev.skip ?_
      refine Ev.seq ?_
      refine Ev.block ?_
      refine Ev.seq ?_
      refine W.reg hm ?_
      refine W.mv rfl ?_
      obtain ⟨e2, k2, h⟩ := obind h
      refine W.idxL (c := SPathLines.cells) rfl rfl k2 ?_
      refine W.load rfl rfl ?_
      refine W.alloc (dt := true) rfl rfl rfl ?_
      refine W.mv rfl ?_
      refine W.store (es' := [[.str e2.Path, .list 1 (List.map cS e2.Lines)]]) (dt := true) rfl rfl rfl rfl rfl (Nat.le_of_ble_eq_true rfl) rfl rfl rfl rfl ?_
      refine W.nil ?_
      refine Ev.seqJ (γ := Bool) (fun v => ⟨[(1, .str a1), (2, .int .i64 a2), (9, .list 2 (List.map SPathLines.cells a0)), (10, .int .i64 (a0.length : Int)), (11, .int .i64 x1), (24, .bool v)], [], 2⟩) (fun v => treepatch_Clash_j1 n x1 (treepatch_Clash_l1 n a0 a1 a2 m1) v = some r) ?_ ?_
      · refine W.reg hm ?_
        refine W.mv rfl ?_
        refine W.mv rfl ?_
        refine W.neq rfl rfl ?_
        refine W.mv rfl ?_
        refine W.split 19 rfl (fun c5 => ?_) (fun c5 => ?_)
        · replace h := iteT h c5
          refine W.guardT rfl c5 ?_
          refine W.fieldAddrO rfl rfl ?_
          refine W.guardT rfl c5 ?_
          refine W.loadO (p := .str e2.Path) rfl rfl rfl rfl ?_
          refine W.guardT rfl c5 ?_
          refine W.mv rfl ?_
          refine W.guardT rfl c5 ?_
          obtain ⟨r5, k6, h⟩ := obind h
          refine W.call (treepatch_Related_spec n e2.Path a1 r5 k6) rfl rfl (Les.refl _) rfl (.inl rfl) rfl ?_
          refine W.pickT rfl rfl rfl c5 ?_
          refine W.nil ?_
          exact ⟨r5, h, Wk.nrmTo [1, 2, 9, 10, 11, 24] [] rfl rfl⟩
        · replace h := iteF h c5
          refine W.guardF1 rfl c5 ?_
          refine W.guardF1 rfl c5 ?_
          refine W.guardF1 rfl c5 ?_
          refine W.guardF1 rfl c5 ?_
          refine W.pickN rfl rfl rfl c5 ?_
          refine W.nil ?_
          exact ⟨false, h, Wk.nrmTo [1, 2, 9, 10, 11, 24] [] rfl rfl⟩
      · intro x3 h
        try dsimp only at h ⊢
        unfold treepatch_Clash_j1 at h
        refine Ev.cond rfl (fun c3 => ?_) (fun c3 => ?_)
        · replace h := iteT h c3
          refine Ev.seq ?_
          refine W.reg hm ?_
          refine W.mv rfl ?_
          refine W.nil ?_
          refine Ev.ret ?_
          injection h with h; subst h
          exact ⟨_, rfl, .refl _⟩
        · replace h := iteF h c3
          refine Ev.skip ?_
          refine W.reg hm ?_
          obtain ⟨x4, k4, h⟩ := obind h
          refine W.addG rfl rfl k4 ?_
          refine W.mv rfl ?_
          refine W.nil ?_
          exact ⟨(m1, x4), h, Nat.lt_succ_self _, Wk.nrmTo [1, 2, 9, 10, 11] [] rfl rfl⟩
    · replace h := iteF h c1
      refine Ev.exit ?_
      refine Ev.seq ?_
      refine W.reg hm ?_
      refine W.mv rfl ?_
      refine W.nil ?_
      refine Ev.ret ?_
      injection h with h; subst h
      exact ⟨_, rfl, .refl _⟩
set_option maxHeartbeats 4000000 in
theorem treepatch_Validate_spec (n : Nat) (a0 : SFiles) (r : SCodeIndex) (h : treepatch_Validate n a0 = some r) : PSpec Tryd.prog 112 [.agg (SFiles.cells a0)] (.agg (SCodeIndex.cells r)) := by
  unfold treepatch_Validate at h
  refine spec_of Tryd.c_treepatch_Validate (by simp) ?_
  unfold Tryd.l_treepatch_Validate
  refine Ev.seq ?_
  refine W.reg hm ?_
  refine W.box (dt := true) (cs := [.list 2 (List.map SPathLines.cells a0.Files)]) rfl rfl rfl rfl rfl rfl ?_
  refine W.alloc (dt := true) rfl rfl rfl ?_
  refine W.nil ?_
  refine Ev.seq ?_
  refine Ev.seq ?_
  refine W.reg hm ?_
  refine W.fieldAddrO rfl rfl ?_
  refine W.loadO (p := .list 2 (List.map SPathLines.cells a0.Files)) rfl rfl rfl rfl ?_
  refine W.lenL (c := SPathLines.cells) rfl ?_
  refine W.gtr rfl rfl ?_
  refine W.nil ?_
  refine Ev.cond rfl (fun c1 => ?_) (fun c1 => ?_)
  · replace h := iteT h c1
    refine Ev.seq ?_
    refine W.reg hm ?_
    refine W.build (cs := [.int .i64 2, .int .i64 (-1)]) rfl rfl rfl ?_
    refine W.store (es' := [[.int .i64 2, .int .i64 (-1)]]) (dt := true) rfl rfl rfl rfl rfl (Nat.le_of_ble_eq_true rfl) rfl rfl rfl rfl ?_
    refine W.nil ?_
    refine Ev.ret ?_
    injection h with h; subst h
    exact ⟨_, rfl, .refl _⟩
  · replace h := iteF h c1
    refine Ev.skip ?_
    refine Ev.seq ?_
    refine Ev.seq ?_
    refine W.reg hm ?_
    refine W.fieldAddrO rfl rfl ?_
    refine W.loadO (p := .list 2 (List.map SPathLines.cells a0.Files)) rfl rfl rfl rfl ?_
    refine W.lenL (c := SPathLines.cells) rfl ?_
    refine W.mv rfl ?_
    refine W.nil ?_
    refine Ev.block ?_
    refine Ev.loopW (β := Nat × Int) (fun v => ⟨[(1, .pown 10100 0 0 0), (2, .pown 10101 0 0 0), (12, .list 2 (List.map SPathLines.cells a0.Files)), (13, .int .i64 (a0.Files.length : Int)), (14, .int .i64 v.2)], [(10100, ⟨0, 46, 1, [[.list 2 (List.map SPathLines.cells a0.Files)]], true, false, false⟩), (10101, ⟨0, 25, 2, [[.int .i64 0, .int .i64 0]], true, false, false⟩)], 2⟩) (fun v => treepatch_Validate_l1 n a0 v.1 v.2 = some r) (fun v => v.1) (n, 0) (Wk.nrmTo [1, 2, 12, 13, 14] [(1, 10100), (2, 10101)] rfl rfl) h ?_
    intro ⟨m1, x1⟩ h
    try dsimp only at h ⊢
    cases m1 with
    | zero => rw [treepatch_Validate_l1] at h; cases h
    | succ m1 =>
      rw [treepatch_Validate_l1] at h
      refine Ev.seq ?_
      refine W.reg hm ?_
      refine W.lss rfl rfl ?_
      refine W.nil ?_
      refine Ev.seq ?_
      refine Ev.cond rfl (fun c2 => ?_) (fun c2 => ?_)
      · replace h := iteT h c2
        refine Ev.skip ?_
        refine Ev.seq ?_
        refine Ev.block ?_
        refine Ev.seq ?_
        refine W.reg hm ?_
        refine W.mv rfl ?_
        obtain ⟨e2, k3, h⟩ := obind h
        refine W.idxL (c := SPathLines.cells) rfl rfl k3 ?_
        refine W.load rfl rfl ?_
        refine W.alloc (dt := true) rfl rfl rfl ?_
        refine W.mv rfl ?_
        refine W.store (es' := [[.str e2.Path, .list 1 (List.map cS e2.Lines)]]) (dt := true) rfl rfl rfl rfl rfl (Nat.le_of_ble_eq_true rfl) rfl rfl rfl rfl ?_
        refine W.nil ?_
        refine Ev.seq ?_
        refine Ev.block ?_
        refine Ev.seq ?_
        refine W.reg hm ?_
        refine W.fieldAddrO rfl rfl ?_
        refine W.loadO (p := .str e2.Path) rfl rfl rfl rfl ?_
        obtain ⟨r3, k4, h⟩ := obind h
        refine W.call (treepatch_ValidPath_spec n e2.Path r3 k4) rfl rfl (Les.refl _) rfl (.inl rfl) rfl ?_
        refine W.not rfl ?_
        refine W.mv rfl ?_
        refine W.nil ?_
        refine Ev.cond rfl (fun c5 => ?_) (fun c5 => ?_)
        · replace h := iteT h c5
          refine Ev.seq ?_
          refine W.reg hm ?_
          refine W.mv rfl ?_
          refine W.build (cs := [.int .i64 12, .int .i64 x1]) rfl rfl rfl ?_
          refine W.store (es' := [[.int .i64 12, .int .i64 x1]]) (dt := true) rfl rfl rfl rfl rfl (Nat.le_of_ble_eq_true rfl) rfl rfl rfl rfl ?_
          refine W.nil ?_
          refine Ev.ret ?_
          injection h with h; subst h
          exact ⟨_, rfl, .refl _⟩
        · replace h := iteF h c5
          refine Ev.seqJ (γ := Bool) (fun v => ⟨[(1, .pown 10200 0 0 0), (2, .pown 10201 0 0 0), (3, .int .i64 x1), (4, .pown 10202 0 0 0), (12, .list 2 (List.map SPathLines.cells a0.Files)), (13, .int .i64 (a0.Files.length : Int)), (14, .int .i64 x1), (26, .bool v)], [(10200, ⟨0, 46, 1, [[.list 2 (List.map SPathLines.cells a0.Files)]], true, false, false⟩), (10201, ⟨0, 25, 2, [[.int .i64 0, .int .i64 0]], true, false, false⟩), (10202, ⟨0, 103, 2, [[.str e2.Path, .list 1 (List.map cS e2.Lines)]], true, false, false⟩)], 2⟩) (fun v => treepatch_Validate_j1 n a0 x1 (treepatch_Validate_l1 n a0 m1) e2 v = some r) ?_ ?_
          · refine W.regD hm ?_
            refine W.mv rfl ?_
            refine W.gtr rfl rfl ?_
            refine W.mv rfl ?_
            refine W.split 29 rfl (fun c13 => ?_) (fun c13 => ?_)
            · replace h := iteT h c13
              refine W.guardT rfl c13 ?_
              refine W.fieldAddrO rfl rfl ?_
              refine W.guardT rfl c13 ?_
              refine W.loadO (p := .str e2.Path) rfl rfl rfl rfl ?_
              refine W.guardT rfl c13 ?_
              refine W.fieldAddrO rfl rfl ?_
              refine W.guardT rfl c13 ?_
              refine W.loadO (p := .list 2 (List.map SPathLines.cells a0.Files)) rfl rfl rfl rfl ?_
              refine W.guardT rfl c13 ?_
              refine W.mv rfl ?_
              refine W.guardT rfl c13 ?_
              obtain ⟨x9, k14, h⟩ := obind h
              refine W.subG rfl rfl k14 ?_
              refine W.guardT rfl c13 ?_
              obtain ⟨e10, k15, h⟩ := obind h
              refine W.idxL (c := SPathLines.cells) rfl rfl k15 ?_
              refine W.guardT rfl c13 ?_
              refine W.fieldAddr rfl ?_
              refine W.guardT rfl c13 ?_
              refine W.load rfl rfl ?_
              refine W.guardT rfl c13 ?_
              refine W.sleq rfl rfl ?_
              refine W.pickT rfl rfl rfl c13 ?_
              refine W.mv rfl ?_
              refine W.nil ⟨rfl, ?_⟩
              exact ⟨(Op.bytesLess e2.Path e10.Path || e2.Path == e10.Path), h, Wk.nrmTo [1, 2, 3, 4, 12, 13, 14, 26] [(10100, 10200), (10101, 10201), (4, 10202)] rfl rfl⟩
            · replace h := iteF h c13
              refine W.guardF1 rfl c13 ?_
              refine W.guardF1 rfl c13 ?_
              refine W.guardF1 rfl c13 ?_
              refine W.guardF1 rfl c13 ?_
              refine W.guardF1 rfl c13 ?_
              refine W.guardF1 rfl c13 ?_
              refine W.guardF1 rfl c13 ?_
              refine W.guardF1 rfl c13 ?_
              refine W.guardF1 rfl c13 ?_
              refine W.guardF1 rfl c13 ?_
              refine W.pickN rfl rfl rfl c13 ?_
              refine W.mv rfl ?_
              refine W.nil ⟨rfl, ?_⟩
              exact ⟨false, h, Wk.nrmTo [1, 2, 3, 4, 12, 13, 14, 26] [(10100, 10200), (10101, 10201), (4, 10202)] rfl rfl⟩
          · intro x4 h
            try dsimp only at h ⊢
            unfold treepatch_Validate_j1 at h
            refine Ev.cond rfl (fun c6 => ?_) (fun c6 => ?_)
            · replace h := iteT h c6
              refine Ev.seq ?_
              refine W.reg hm ?_
              refine W.mv rfl ?_
              refine W.build (cs := [.int .i64 5, .int .i64 x1]) rfl rfl rfl ?_
              refine W.store (es' := [[.int .i64 5, .int .i64 x1]]) (dt := true) rfl rfl rfl rfl rfl (Nat.le_of_ble_eq_true rfl) rfl rfl rfl rfl ?_
              refine W.nil ?_
              refine Ev.ret ?_
              injection h with h; subst h
              exact ⟨_, rfl, .refl _⟩
            · replace h := iteF h c6
              refine Ev.seq ?_
              refine W.regD hm ?_
              refine W.fieldAddrO rfl rfl ?_
              refine W.loadO (p := .list 2 (List.map SPathLines.cells a0.Files)) rfl rfl rfl rfl ?_
              refine W.mv rfl ?_
              obtain ⟨s5, k7, h⟩ := obind h
              refine W.sliceL (c := SPathLines.cells) rfl k7 (ix1 (gcut_some k7).2.2.2.1) ?_
              refine W.fieldAddrO rfl rfl ?_
              refine W.loadO (p := .str e2.Path) rfl rfl rfl rfl ?_
              obtain ⟨r6, k8, h⟩ := obind h
              refine W.call (treepatch_Clash_spec n s5 e2.Path (-1) r6 k8) rfl rfl (Les.refl _) rfl (.inl rfl) rfl ?_
              refine W.mv rfl ?_
              refine W.nil ⟨rfl, ?_⟩
              refine Ev.cond rfl (fun c9 => ?_) (fun c9 => ?_)
              · replace h := iteT h c9
                refine Ev.seq ?_
                refine W.reg hm ?_
                refine W.mv rfl ?_
                refine W.build (cs := [.int .i64 7, .int .i64 x1]) rfl rfl rfl ?_
                refine W.store (es' := [[.int .i64 7, .int .i64 x1]]) (dt := true) rfl rfl rfl rfl rfl (Nat.le_of_ble_eq_true rfl) rfl rfl rfl rfl ?_
                refine W.nil ?_
                refine Ev.ret ?_
                injection h with h; subst h
                exact ⟨_, rfl, .refl _⟩
              · replace h := iteF h c9
                refine Ev.skip ?_
                refine Ev.seq ?_
                refine W.reg hm ?_
                refine W.fieldAddrO rfl rfl ?_
                refine W.loadO (p := .list 1 (List.map cS e2.Lines)) rfl rfl rfl rfl ?_
                refine W.mv rfl ?_
                obtain ⟨r7, k10, h⟩ := obind h
                refine W.call (lines_Second_spec n e2.Lines x1 r7 k10) rfl rfl (Les.refl _) rfl (.inl rfl) rfl ?_
                refine W.alloc (dt := true) rfl rfl rfl ?_
                refine W.store (es' := [[.int .i64 r7.Code, .int .i64 r7.Index]]) (dt := true) rfl rfl rfl rfl rfl (Nat.le_of_ble_eq_true rfl) rfl rfl rfl rfl ?_
                refine W.nil ?_
                refine Ev.seq ?_
                refine W.reg hm ?_
                refine W.loadO (p := .agg [.int .i64 r7.Code, .int .i64 r7.Index]) rfl rfl rfl rfl ?_
                refine W.build (cs := [.int .i64 0, .int .i64 0]) rfl rfl rfl ?_
                refine W.eqs rfl rfl rfl ?_
                refine W.nil ?_
                refine Ev.cond rfl (fun c11 => ?_) (fun c11 => ?_)
                · replace h := iteT h c11
                  refine Ev.seq ?_
                  refine W.reg hm ?_
                  refine W.loadO (p := .agg [.int .i64 r7.Code, .int .i64 r7.Index]) rfl rfl rfl rfl ?_
                  refine W.store (es' := [[.int .i64 r7.Code, .int .i64 r7.Index]]) (dt := true) rfl rfl rfl rfl rfl (Nat.le_of_ble_eq_true rfl) rfl rfl rfl rfl ?_
                  refine W.nil ?_
                  refine Ev.ret ?_
                  injection h with h; subst h
                  exact ⟨_, rfl, .refl _⟩
                · replace h := iteF h c11
                  refine Ev.skip ?_
                  refine W.reg hm ?_
                  obtain ⟨x8, k12, h⟩ := obind h
                  refine W.addG rfl rfl k12 ?_
                  refine W.mv rfl ?_
                  refine W.nil ?_
                  exact ⟨(m1, x8), h, Nat.lt_succ_self _, Wk.nrmTo [1, 2, 12, 13, 14] [(10200, 10100), (10201, 10101)] rfl rfl⟩
      · replace h := iteF h c2
        refine Ev.exit ?_
        refine Ev.seq ?_
        refine W.reg hm ?_
        refine W.build (cs := [.int .i64 0, .int .i64 0]) rfl rfl rfl ?_
        refine W.store (es' := [[.int .i64 0, .int .i64 0]]) (dt := true) rfl rfl rfl rfl rfl (Nat.le_of_ble_eq_true rfl) rfl rfl rfl rfl ?_
        refine W.nil ?_
        refine Ev.ret ?_
        injection h with h; subst h
        exact ⟨_, rfl, .refl _⟩
theorem treepatch_Second_spec (n : Nat) (a0 : SFiles) (a1 : Int) (r : SCodeIndex) (h : treepatch_Second n a0 a1 = some r) : PSpec Tryd.prog 79 [.agg (SFiles.cells a0), .int .i64 a1] (.agg (SCodeIndex.cells r)) := by
  unfold treepatch_Second at h
  refine spec_of Tryd.c_treepatch_Second (by simp) ?_
  unfold Tryd.l_treepatch_Second
  refine Ev.seq ?_
  refine W.reg hm ?_
  refine W.box (dt := true) (cs := [.list 2 (List.map SPathLines.cells a0.Files)]) rfl rfl rfl rfl rfl rfl ?_
  refine W.alloc (dt := true) rfl rfl rfl ?_
  refine W.nil ?_
  refine Ev.seq ?_
  refine Ev.seq ?_
  refine W.reg hm ?_
  refine W.loadO (p := .agg [.list 2 (List.map SPathLines.cells a0.Files)]) rfl rfl rfl rfl ?_
  obtain ⟨r1, k1, h⟩ := obind h
  refine W.call (treepatch_Validate_spec n a0 r1 k1) rfl rfl (Les.refl _) rfl (.inl rfl) rfl ?_
  refine W.alloc (dt := true) rfl rfl rfl ?_
  refine W.store (es' := [[.int .i64 r1.Code, .int .i64 r1.Index]]) (dt := true) rfl rfl rfl rfl rfl (Nat.le_of_ble_eq_true rfl) rfl rfl rfl rfl ?_
  refine W.nil ?_
  refine Ev.seq ?_
  refine W.reg hm ?_
  refine W.loadO (p := .agg [.int .i64 r1.Code, .int .i64 r1.Index]) rfl rfl rfl rfl ?_
  refine W.build (cs := [.int .i64 0, .int .i64 0]) rfl rfl rfl ?_
  refine W.eqs rfl rfl rfl ?_
  refine W.nil ?_
  refine Ev.cond rfl (fun c2 => ?_) (fun c2 => ?_)
  · replace h := iteT h c2
    refine Ev.seq ?_
    refine W.reg hm ?_
    refine W.fieldAddrO rfl rfl ?_
    refine W.loadO (p := .int .i64 r1.Code) rfl rfl rfl rfl ?_
    refine W.mv rfl ?_
    refine W.build (cs := [.int .i64 r1.Code, .int .i64 a1]) rfl rfl rfl ?_
    refine W.store (es' := [[.int .i64 r1.Code, .int .i64 a1]]) (dt := true) rfl rfl rfl rfl rfl (Nat.le_of_ble_eq_true rfl) rfl rfl rfl rfl ?_
    refine W.nil ?_
    refine Ev.ret ?_
    injection h with h; subst h
    exact ⟨_, rfl, .refl _⟩
  · replace h := iteF h c2
    refine Ev.skip ?_
    refine Ev.seq ?_
    refine W.reg hm ?_
    refine W.build (cs := [.int .i64 0, .int .i64 0]) rfl rfl rfl ?_
    refine W.store (es' := [[.int .i64 0, .int .i64 0]]) (dt := true) rfl rfl rfl rfl rfl (Nat.le_of_ble_eq_true rfl) rfl rfl rfl rfl ?_
    refine W.nil ?_
    refine Ev.ret ?_
    injection h with h; subst h
    exact ⟨_, rfl, .refl _⟩
theorem digest_mul_spec (n : Nat) (a0 : Int) (a1 : Int) (r : Int) (h : digest_mul n a0 a1 = some r) : PSpec Tryd.prog 121 [.int .i64 a0, .int .i64 a1] (.int .i64 r) := by
  unfold digest_mul at h
  refine spec_of Tryd.c_digest_mul (by simp) ?_
  unfold Tryd.l_digest_mul
  refine Ev.seq ?_
  refine W.reg hm ?_
  refine W.mv rfl ?_
  refine W.nil ?_
  refine Ev.seq ?_
  refine W.reg hm ?_
  refine W.mv rfl ?_
  refine W.nil ?_
  refine Ev.seqJ (γ := Int) (fun v => ⟨[(5, .int .i64 v)], [], 2⟩) (fun v => digest_mul_j1 n v = some r) ?_ ?_
  · refine Ev.block ?_
    refine Ev.loopW (β := Nat × Int × Int × Int) (fun v => ⟨[(0, .int .i64 v.2.1), (1, .int .i64 v.2.2.1), (5, .int .i64 v.2.2.2)], [], 2⟩) (fun v => digest_mul_l1 n v.1 v.2.1 v.2.2.1 v.2.2.2 = some r) (fun v => v.1) (n, a0, a1, 0) (Wk.nrmTo [0, 1, 5] [] rfl rfl) h ?_
    intro ⟨m1, x2, x3, x4⟩ h
    try dsimp only at h ⊢
    cases m1 with
    | zero => rw [digest_mul_l1] at h; cases h
    | succ m1 =>
      rw [digest_mul_l1] at h
      refine Ev.seq ?_
      refine Ev.seq ?_
      refine W.reg hm ?_
      refine W.mv rfl ?_
      refine W.gtr rfl rfl ?_
      refine W.nil ?_
      refine Ev.cond rfl (fun c1 => ?_) (fun c1 => ?_)
      · replace h := iteT h c1
        refine Ev.skip ?_
        refine Ev.seq ?_
        refine Ev.block ?_
        refine Ev.seqJ (γ := Int) (fun v => ⟨[(0, .int .i64 x2), (1, .int .i64 x3), (5, .int .i64 v)], [], 2⟩) (fun v => digest_mul_j2 n x2 x3 (digest_mul_l1 n m1) v = some r) ?_ ?_
        · refine Ev.seq ?_
          refine W.reg hm ?_
          refine W.mv rfl ?_
          refine W.bin (z := .int .i64 (kand .i64 x3 1)) rfl rfl rfl ?_
          refine W.eql rfl rfl ?_
          refine W.nil ?_
          refine Ev.cond rfl (fun c4 => ?_) (fun c4 => ?_)
          · replace h := iteT h c4
            refine W.reg hm ?_
            refine W.mv rfl ?_
            refine W.mv rfl ?_
            obtain ⟨x8, k5, h⟩ := obind h
            refine W.addG rfl rfl k5 ?_
            obtain ⟨x9, k6, h⟩ := obind h
            refine W.remG rfl rfl k6 ?_
            refine W.mv rfl ?_
            refine W.nil ?_
            exact ⟨x9, h, Wk.nrmTo [0, 1, 5] [] rfl rfl⟩
          · replace h := iteF h c4
            refine Ev.skip ?_
            exact ⟨x4, h, Wk.nrmTo [0, 1, 5] [] rfl rfl⟩
        · intro x5 h
          try dsimp only at h ⊢
          unfold digest_mul_j2 at h
          refine W.reg hm ?_
          refine W.mv rfl ?_
          obtain ⟨x6, k2, h⟩ := obind h
          refine W.mulG rfl rfl k2 ?_
          obtain ⟨x7, k3, h⟩ := obind h
          refine W.remG rfl rfl k3 ?_
          refine W.mv rfl ?_
          refine W.nil ?_
          refine W.reg hm ?_
          refine W.mv rfl ?_
          refine W.shrC (n := 1) rfl rfl ?_
          refine W.mv rfl ?_
          refine W.nil ?_
          exact ⟨(m1, x7, (kshr .i64 x3 1), x5), h, Nat.lt_succ_self _, Wk.nrmTo [0, 1, 5] [] rfl rfl⟩
      · replace h := iteF h c1
        refine Ev.exit ?_
        exact ⟨x4, h, Wk.nrmTo [5] [] rfl rfl⟩
  · intro x1 h
    try dsimp only at h ⊢
    unfold digest_mul_j1 at h
    refine Ev.seq ?_
    refine W.reg hm ?_
    refine W.mv rfl ?_
    refine W.mv rfl ?_
    refine W.nil ?_
    refine Ev.ret ?_
    injection h with h; subst h
    exact ⟨_, rfl, .refl _⟩
theorem digest_next_spec (n : Nat) (a0 : SA0A1) (a1 : Int) (r : Int) (h : digest_next n a0 a1 = some r) : PSpec Tryd.prog 98 [.agg (SA0A1.cells a0), .int .i64 a1] (.int .i64 r) := by
  unfold digest_next at h
  refine spec_of Tryd.c_digest_next (by simp) ?_
  unfold Tryd.l_digest_next
  refine Ev.seq ?_
  refine W.reg hm ?_
  refine W.box (dt := true) (cs := [.int .i64 a0.A0, .int .i64 a0.A1]) rfl rfl rfl rfl rfl rfl ?_
  refine W.mv rfl ?_
  refine W.nil ?_
  refine Ev.seq ?_
  refine W.regD hm ?_
  refine W.idxAO (n := 0) rfl rfl rfl (by decide) rfl (by decide) ?_
  refine W.loadO (p := .int .i64 a0.A0) rfl rfl rfl rfl ?_
  refine W.mv rfl ?_
  obtain ⟨r1, k1, h⟩ := obind h
  refine W.call (digest_mul_spec n a0.A0 a1 r1 k1) rfl rfl (Les.refl _) rfl (.inl rfl) rfl ?_
  refine W.idxAO (n := 1) rfl rfl rfl (by decide) rfl (by decide) ?_
  refine W.loadO (p := .int .i64 a0.A1) rfl rfl rfl rfl ?_
  obtain ⟨x2, k2, h⟩ := obind h
  refine W.addG rfl rfl k2 ?_
  obtain ⟨x3, k3, h⟩ := obind h
  refine W.remG rfl rfl k3 ?_
  refine W.mv rfl ?_
  refine W.nil ⟨rfl, ?_⟩
  refine Ev.ret ?_
  injection h with h; subst h
  exact ⟨_, rfl, .refl _⟩
theorem digest_Of_spec (n : Nat) (a0 : List Int) (r : (Int × SCodeIndex)) (h : digest_Of n a0 = some r) : PSpec Tryd.prog 63 [.list 1 (List.map (cK .u8) a0)] (.tup [.int .i64 r.1, .agg (SCodeIndex.cells r.2)]) := by
  unfold digest_Of at h
  refine spec_of Tryd.c_digest_Of (by simp) ?_
  unfold Tryd.l_digest_Of
  refine Ev.seq ?_
  refine W.reg hm ?_
  refine W.mv rfl ?_
  refine W.alloc (dt := true) rfl rfl rfl ?_
  refine W.nil ?_
  refine Ev.seq ?_
  refine Ev.seq ?_
  refine W.reg hm ?_
  refine W.mv rfl ?_
  refine W.lenL (c := (cK .u8)) rfl ?_
  refine W.gtr rfl rfl ?_
  refine W.nil ?_
  refine Ev.cond rfl (fun c1 => ?_) (fun c1 => ?_)
  · replace h := iteT h c1
    refine Ev.seq ?_
    refine W.reg hm ?_
    refine W.build (cs := [.int .i64 2, .int .i64 0]) rfl rfl rfl ?_
    refine W.mv rfl ?_
    refine W.store (es' := [[.int .i64 2, .int .i64 0]]) (dt := true) rfl rfl rfl rfl rfl (Nat.le_of_ble_eq_true rfl) rfl rfl rfl rfl ?_
    refine W.nil ?_
    refine Ev.ret ?_
    injection h with h; subst h
    exact ⟨_, rfl, .refl _⟩
  · replace h := iteF h c1
    refine Ev.skip ?_
    refine Ev.seq ?_
    refine W.reg hm ?_
    refine W.mv rfl ?_
    refine W.nil ?_
    refine Ev.seq ?_
    refine Ev.seq ?_
    refine W.reg hm ?_
    refine W.mv rfl ?_
    refine W.lenL (c := (cK .u8)) rfl ?_
    refine W.mv rfl ?_
    refine W.nil ?_
    refine Ev.block ?_
    refine Ev.loopW (β := Nat × Int × Int) (fun v => ⟨[(3, .pown 10100 0 0 0), (4, .int .i64 v.2.1), (11, .list 1 (List.map (cK .u8) a0)), (12, .int .i64 (a0.length : Int)), (13, .int .i64 v.2.2)], [(10100, ⟨0, 25, 2, [[.int .i64 0, .int .i64 0]], true, false, false⟩)], 2⟩) (fun v => digest_Of_l1 n a0 v.1 v.2.1 v.2.2 = some r) (fun v => v.1) (n, 1, 0) (Wk.nrmTo [3, 4, 11, 12, 13] [(3, 10100)] rfl rfl) h ?_
    intro ⟨m1, x1, x2⟩ h
    try dsimp only at h ⊢
    cases m1 with
    | zero => rw [digest_Of_l1] at h; cases h
    | succ m1 =>
      rw [digest_Of_l1] at h
      refine Ev.seq ?_
      refine W.reg hm ?_
      refine W.lss rfl rfl ?_
      refine W.nil ?_
      refine Ev.seq ?_
      refine Ev.cond rfl (fun c2 => ?_) (fun c2 => ?_)
      · replace h := iteT h c2
        refine Ev.skip ?_
        refine Ev.seq ?_
        refine Ev.block ?_
        refine Ev.seq ?_
        refine W.reg hm ?_
        obtain ⟨e3, k3, h⟩ := obind h
        refine W.idxL (c := (cK .u8)) rfl rfl k3 ?_
        refine W.load rfl rfl ?_
        refine W.mv rfl ?_
        refine W.nil ?_
        refine W.reg hm ?_
        refine W.mv rfl ?_
        refine W.mv rfl ?_
        refine W.conv rfl rfl ?_
        obtain ⟨x4, k4, h⟩ := obind h
        refine W.addG rfl rfl k4 ?_
        refine W.build (cs := [.int .i64 x1, .int .i64 x4]) rfl rfl rfl ?_
        obtain ⟨r5, k5, h⟩ := obind h
        refine W.call (digest_next_spec n (⟨x1, x4⟩ : SA0A1) 257 r5 k5) rfl rfl (Les.refl _) rfl (.inl rfl) rfl ?_
        refine W.mv rfl ?_
        refine W.nil ?_
        refine W.reg hm ?_
        obtain ⟨x6, k6, h⟩ := obind h
        refine W.addG rfl rfl k6 ?_
        refine W.mv rfl ?_
        refine W.nil ?_
        exact ⟨(m1, r5, x6), h, Nat.lt_succ_self _, Wk.nrmTo [3, 4, 11, 12, 13] [(10100, 10100)] rfl rfl⟩
      · replace h := iteF h c2
        refine Ev.exit ?_
        refine Ev.seq ?_
        refine W.reg hm ?_
        refine W.mv rfl ?_
        refine W.build (cs := [.int .i64 0, .int .i64 0]) rfl rfl rfl ?_
        refine W.mv rfl ?_
        refine W.store (es' := [[.int .i64 0, .int .i64 0]]) (dt := true) rfl rfl rfl rfl rfl (Nat.le_of_ble_eq_true rfl) rfl rfl rfl rfl ?_
        refine W.nil ?_
        refine Ev.ret ?_
        injection h with h; subst h
        exact ⟨_, rfl, .refl _⟩
theorem digest_pair_spec (n : Nat) (a0 : Int) (a1 : Int) (r : Int) (h : digest_pair n a0 a1 = some r) : PSpec Tryd.prog 99 [.int .i64 a0, .int .i64 a1] (.int .i64 r) := by
  unfold digest_pair at h
  refine spec_of Tryd.c_digest_pair (by simp) ?_
  unfold Tryd.l_digest_pair
  refine Ev.seq ?_
  refine W.reg hm ?_
  refine W.mv rfl ?_
  refine W.nil ?_
  refine Ev.seq ?_
  refine W.reg hm ?_
  refine W.mv rfl ?_
  refine W.mv rfl ?_
  refine W.build (cs := [.int .i64 a1, .int .i64 7]) rfl rfl rfl ?_
  obtain ⟨r1, k1, h⟩ := obind h
  refine W.call (digest_next_spec n (⟨a1, 7⟩ : SA0A1) 31 r1 k1) rfl rfl (Les.refl _) rfl (.inl rfl) rfl ?_
  refine W.build (cs := [.int .i64 a0, .int .i64 r1]) rfl rfl rfl ?_
  obtain ⟨r2, k2, h⟩ := obind h
  refine W.call (digest_next_spec n (⟨a0, r1⟩ : SA0A1) 1000003 r2 k2) rfl rfl (Les.refl _) rfl (.inl rfl) rfl ?_
  refine W.mv rfl ?_
  refine W.nil ?_
  refine Ev.ret ?_
  injection h with h; subst h
  exact ⟨_, rfl, .refl _⟩
end Go.Proofs.YtlkknmhhefjmjaaDoor
