/- The functions compute what the texts of D say. Laid by a program (wip/gen/dec.py). -/
import Derived.Test.YtadeoaglhaaimaaDoorD
import Derived.Test.YtadeoaglhaaimaaDoorW1
namespace Go.Proofs.YtadeoaglhaaimaaDoor
open Go.PW Go
theorem ref6_Strings_spec (n : Nat) (a0 : List (List UInt8)) (a1 : List (List UInt8)) (r : Bool) (h : ref6_Strings n a0 a1 = some r) : PSpec Tryd.prog 13 [.list 1 (List.map cS a0), .list 1 (List.map cS a1)] (.bool r) := by
  unfold ref6_Strings at h
  refine spec_of Tryd.c_ref6_Strings (by simp) ?_
  unfold Tryd.l_ref6_Strings
  refine Ev.seq ?_
  refine W.reg hm ?_
  refine W.mv rfl ?_
  refine W.nil ?_
  refine Ev.seq ?_
  refine Ev.seq ?_
  refine W.reg hm ?_
  refine W.mv rfl ?_
  refine W.lenL (c := cS) rfl ?_
  refine W.mv rfl ?_
  refine W.lenL (c := cS) rfl ?_
  refine W.neq rfl rfl ?_
  refine W.nil ?_
  refine Ev.cond rfl (fun c1 => ?_) (fun c1 => ?_)
  · replace h := iteT h c1
    refine Ev.seq ?_
    refine W.reg hm ?_
    refine W.mv rfl ?_
    refine W.nil ?_
    refine Ev.ret ?_
    injection h with h; subst h
    exact ⟨_, rfl, .refl _⟩
  · replace h := iteF h c1
    refine Ev.skip ?_
    refine Ev.seq ?_
    refine Ev.seq ?_
    refine W.reg hm ?_
    refine W.mv rfl ?_
    refine W.nil ?_
    refine Ev.block ?_
    refine Ev.loopW (β := Nat × Int) (fun v => ⟨[(0, .list 1 (List.map cS a0)), (1, .list 1 (List.map cS a1)), (5, .int .i64 v.2)], [], 2⟩) (fun v => ref6_Strings_l1 n a0 a1 v.1 v.2 = some r) (fun v => v.1) (n, 0) (Wk.nrmTo [0, 1, 5] [] rfl rfl) h ?_
    intro ⟨m1, x1⟩ h
    try dsimp only at h ⊢
    cases m1 with
    | zero => rw [ref6_Strings_l1] at h; cases h
    | succ m1 =>
      rw [ref6_Strings_l1] at h
      refine Ev.seq ?_
      refine Ev.seq ?_
      refine W.reg hm ?_
      refine W.mv rfl ?_
      refine W.mv rfl ?_
      refine W.lenL (c := cS) rfl ?_
      refine W.lss rfl rfl ?_
      refine W.nil ?_
      refine Ev.cond rfl (fun c2 => ?_) (fun c2 => ?_)
      · replace h := iteT h c2
        refine Ev.skip ?_
        refine Ev.seq ?_
        refine Ev.block ?_
        refine Ev.seq ?_
        refine W.regD hm ?_
        refine W.mv rfl ?_
        refine W.mv rfl ?_
        obtain ⟨e2, k3, h⟩ := obind h
        refine W.idxL (c := cS) rfl rfl k3 ?_
        refine W.load rfl rfl ?_
        refine W.mv rfl ?_
        refine W.mv rfl ?_
        obtain ⟨e3, k4, h⟩ := obind h
        refine W.idxL (c := cS) rfl rfl k4 ?_
        refine W.load rfl rfl ?_
        refine W.sneq rfl rfl ?_
        refine W.nil ⟨rfl, ?_⟩
        refine Ev.cond rfl (fun c5 => ?_) (fun c5 => ?_)
        · replace h := iteT h c5
          refine Ev.seq ?_
          refine W.reg hm ?_
          refine W.mv rfl ?_
          refine W.nil ?_
          refine Ev.ret ?_
          injection h with h; subst h
          exact ⟨_, rfl, .refl _⟩
        · replace h := iteF h c5
          refine Ev.skip ?_
          refine W.reg hm ?_
          refine W.mv rfl ?_
          obtain ⟨x4, k6, h⟩ := obind h
          refine W.addG rfl rfl k6 ?_
          refine W.mv rfl ?_
          refine W.nil ?_
          exact ⟨(m1, x4), h, Nat.lt_succ_self _, Wk.nrmTo [0, 1, 5] [] rfl rfl⟩
      · replace h := iteF h c2
        refine Ev.exit ?_
        refine Ev.seq ?_
        refine W.reg hm ?_
        refine W.mv rfl ?_
        refine W.nil ?_
        refine Ev.ret ?_
        injection h with h; subst h
        exact ⟨_, rfl, .refl _⟩

theorem internal_stringslite_HasPrefix_spec (n : Nat) (a0 : List UInt8) (a1 : List UInt8) (r : Bool) (h : internal_stringslite_HasPrefix n a0 a1 = some r) : PSpec Tryd.prog 106 [.str a0, .str a1] (.bool r) := by
  unfold internal_stringslite_HasPrefix at h
  refine spec_of Tryd.c_internal_stringslite_HasPrefix (by simp) ?_
  unfold Tryd.l_internal_stringslite_HasPrefix
  refine Ev.seq ?_
  refine W.reg hm ?_
  refine W.mv rfl ?_
  refine W.nil ?_
  refine Ev.seqJ (γ := Bool) (fun v => ⟨[(4, .bool v)], [], 2⟩) (fun v => internal_stringslite_HasPrefix_j1 n v = some r) ?_ ?_
  · refine W.reg hm ?_
    refine W.mv rfl ?_
    refine W.slen rfl ?_
    refine W.mv rfl ?_
    refine W.slen rfl ?_
    refine W.geq rfl rfl ?_
    refine W.mv rfl ?_
    refine W.split 10 rfl (fun c1 => ?_) (fun c1 => ?_)
    · replace h := iteT h c1
      refine W.guardT rfl c1 ?_
      refine W.mv rfl ?_
      refine W.guardT rfl c1 ?_
      refine W.mv rfl ?_
      refine W.guardT rfl c1 ?_
      refine W.slen rfl ?_
      refine W.guardT rfl c1 ?_
      obtain ⟨s2, k2, h⟩ := obind h
      refine W.ssliceG rfl k2 (ix1 (gcut_some k2).2.2.2.1) ?_
      refine W.guardT rfl c1 ?_
      refine W.mv rfl ?_
      refine W.guardT rfl c1 ?_
      refine W.seql rfl rfl ?_
      refine W.pickT rfl rfl rfl c1 ?_
      refine W.mv rfl ?_
      refine W.nil ?_
      exact ⟨(decide (s2 = a1)), h, Wk.nrmTo [4] [] rfl rfl⟩
    · replace h := iteF h c1
      refine W.guardF1 rfl c1 ?_
      refine W.guardF1 rfl c1 ?_
      refine W.guardF1 rfl c1 ?_
      refine W.guardF1 rfl c1 ?_
      refine W.guardF1 rfl c1 ?_
      refine W.guardF1 rfl c1 ?_
      refine W.pickN rfl rfl rfl c1 ?_
      refine W.mv rfl ?_
      refine W.nil ?_
      exact ⟨false, h, Wk.nrmTo [4] [] rfl rfl⟩
  · intro x1 h
    try dsimp only at h ⊢
    unfold internal_stringslite_HasPrefix_j1 at h
    refine Ev.ret ?_
    injection h with h; subst h
    exact ⟨_, rfl, .refl _⟩

theorem strings_HasPrefix_spec (n : Nat) (a0 : List UInt8) (a1 : List UInt8) (r : Bool) (h : strings_HasPrefix n a0 a1 = some r) : PSpec Tryd.prog 104 [.str a0, .str a1] (.bool r) := by
  unfold strings_HasPrefix at h
  refine spec_of Tryd.c_strings_HasPrefix (by simp) ?_
  unfold Tryd.l_strings_HasPrefix
  refine Ev.seq ?_
  refine W.reg hm ?_
  refine W.mv rfl ?_
  refine W.nil ?_
  refine Ev.seq ?_
  refine W.reg hm ?_
  refine W.mv rfl ?_
  refine W.mv rfl ?_
  obtain ⟨r1, k1, h⟩ := obind h
  refine W.call (internal_stringslite_HasPrefix_spec n a0 a1 r1 k1) rfl rfl (Les.refl _) rfl (.inl rfl) rfl ?_
  refine W.mv rfl ?_
  refine W.nil ?_
  refine Ev.ret ?_
  injection h with h; subst h
  exact ⟨_, rfl, .refl _⟩

theorem treepatch_Related_spec (n : Nat) (a0 : List UInt8) (a1 : List UInt8) (r : Bool) (h : treepatch_Related n a0 a1 = some r) : PSpec Tryd.prog 99 [.str a0, .str a1] (.bool r) := by
  unfold treepatch_Related at h
  refine spec_of Tryd.c_treepatch_Related (by simp) ?_
  unfold Tryd.l_treepatch_Related
  refine Ev.seq ?_
  refine W.reg hm ?_
  refine W.mv rfl ?_
  refine W.nil ?_
  refine Ev.seqJ (γ := Bool) (fun v => ⟨[(4, .bool v)], [], 2⟩) (fun v => treepatch_Related_j1 n v = some r) ?_ ?_
  · refine W.reg hm ?_
    refine W.mv rfl ?_
    refine W.mv rfl ?_
    refine W.seql rfl rfl ?_
    refine W.mv rfl ?_
    refine W.split 8 rfl (fun c1 => ?_) (fun c1 => ?_)
    · replace h := iteT h c1
      refine W.guardF2 rfl c1 ?_
      refine W.guardF2 rfl c1 ?_
      refine W.guardF2 rfl c1 ?_
      refine W.guardF2 rfl c1 ?_
      refine W.pickT rfl rfl rfl c1 ?_
      refine W.mv rfl ?_
      refine W.guardF2 rfl rfl ?_
      refine W.guardF2 rfl rfl ?_
      refine W.guardF2 rfl rfl ?_
      refine W.guardF2 rfl rfl ?_
      refine W.pickT rfl rfl rfl rfl ?_
      refine W.mv rfl ?_
      refine W.nil ?_
      exact ⟨true, h, Wk.nrmTo [4] [] rfl rfl⟩
    · replace h := iteF h c1
      refine W.guardT rfl c1 ?_
      refine W.mv rfl ?_
      refine W.guardT rfl c1 ?_
      refine W.mv rfl ?_
      refine W.guardT rfl c1 ?_
      obtain ⟨s2, k2, h⟩ := obind h
      refine W.catG rfl rfl k2 ?_
      refine W.guardT rfl c1 ?_
      obtain ⟨r3, k3, h⟩ := obind h
      refine W.call (strings_HasPrefix_spec n a0 s2 r3 k3) rfl rfl (Les.refl _) rfl (.inl rfl) rfl ?_
      refine W.pickN rfl rfl rfl c1 ?_
      refine W.mv rfl ?_
      refine W.split 14 rfl (fun c4 => ?_) (fun c4 => ?_)
      · replace h := iteT h c4
        refine W.guardF2 rfl c4 ?_
        refine W.guardF2 rfl c4 ?_
        refine W.guardF2 rfl c4 ?_
        refine W.guardF2 rfl c4 ?_
        refine W.pickT rfl rfl rfl c4 ?_
        refine W.mv rfl ?_
        refine W.nil ?_
        exact ⟨true, h, Wk.nrmTo [4] [] rfl rfl⟩
      · replace h := iteF h c4
        refine W.guardT rfl c4 ?_
        refine W.mv rfl ?_
        refine W.guardT rfl c4 ?_
        refine W.mv rfl ?_
        refine W.guardT rfl c4 ?_
        obtain ⟨s4, k5, h⟩ := obind h
        refine W.catG rfl rfl k5 ?_
        refine W.guardT rfl c4 ?_
        obtain ⟨r5, k6, h⟩ := obind h
        refine W.call (strings_HasPrefix_spec n a1 s4 r5 k6) rfl rfl (Les.refl _) rfl (.inl rfl) rfl ?_
        refine W.pickN rfl rfl rfl c4 ?_
        refine W.mv rfl ?_
        refine W.nil ?_
        exact ⟨r5, h, Wk.nrmTo [4] [] rfl rfl⟩
  · intro x1 h
    try dsimp only at h ⊢
    unfold treepatch_Related_j1 at h
    refine Ev.ret ?_
    injection h with h; subst h
    exact ⟨_, rfl, .refl _⟩

theorem treepatch_Clash_spec (n : Nat) (a0 : List SPathLines) (a1 : List UInt8) (a2 : Int) (r : Bool) (h : treepatch_Clash n a0 a1 a2 = some r) : PSpec Tryd.prog 92 [.list 2 (List.map SPathLines.cells a0), .str a1, .int .i64 a2] (.bool r) := by
  unfold treepatch_Clash at h
  refine spec_of Tryd.c_treepatch_Clash (by simp) ?_
  unfold Tryd.l_treepatch_Clash
  refine Ev.seq ?_
  refine W.reg hm ?_
  refine W.mv rfl ?_
  refine W.nil ?_
  refine Ev.seq ?_
  refine Ev.seq ?_
  refine W.reg hm ?_
  refine W.mv rfl ?_
  refine W.lenL (c := SPathLines.cells) rfl ?_
  refine W.mv rfl ?_
  refine W.nil ?_
  refine Ev.block ?_
  refine Ev.loopW (β := Nat × Int) (fun v => ⟨[(1, .str a1), (2, .int .i64 a2), (9, .list 2 (List.map SPathLines.cells a0)), (10, .int .i64 (a0.length : Int)), (11, .int .i64 v.2)], [], 2⟩) (fun v => treepatch_Clash_l1 n a0 a1 a2 v.1 v.2 = some r) (fun v => v.1) (n, 0) (Wk.nrmTo [1, 2, 9, 10, 11] [] rfl rfl) h ?_
  intro ⟨m1, x1⟩ h
  try dsimp only at h ⊢
  cases m1 with
  | zero => rw [treepatch_Clash_l1] at h; cases h
  | succ m1 =>
    rw [treepatch_Clash_l1] at h
    refine Ev.seq ?_
    refine W.reg hm ?_
    refine W.lss rfl rfl ?_
    refine W.nil ?_
    refine Ev.seq ?_
    refine Ev.cond rfl (fun c1 => ?_) (fun c1 => ?_)
    · replace h := iteT h c1
      refine Ev.skip ?_
      refine Ev.seq ?_
      refine Ev.block ?_
      refine Ev.seq ?_
      refine W.reg hm ?_
      refine W.mv rfl ?_
      obtain ⟨e2, k2, h⟩ := obind h
      refine W.idxL (c := SPathLines.cells) rfl rfl k2 ?_
      refine W.load rfl rfl ?_
      refine W.alloc (dt := true) rfl rfl rfl ?_
      refine W.mv rfl ?_
      refine W.store (es' := [[.str e2.Path, .list 1 (List.map cS e2.Lines)]]) (dt := true) rfl rfl rfl rfl rfl (Nat.le_of_ble_eq_true rfl) rfl rfl rfl rfl ?_
      refine W.nil ?_
      refine Ev.seqJ (γ := Bool) (fun v => ⟨[(1, .str a1), (2, .int .i64 a2), (9, .list 2 (List.map SPathLines.cells a0)), (10, .int .i64 (a0.length : Int)), (11, .int .i64 x1), (24, .bool v)], [], 2⟩) (fun v => treepatch_Clash_j1 n x1 (treepatch_Clash_l1 n a0 a1 a2 m1) v = some r) ?_ ?_
      · refine W.reg hm ?_
        refine W.mv rfl ?_
        refine W.mv rfl ?_
        refine W.neq rfl rfl ?_
        refine W.mv rfl ?_
        refine W.split 19 rfl (fun c5 => ?_) (fun c5 => ?_)
        · replace h := iteT h c5
          refine W.guardT rfl c5 ?_
          refine W.fieldAddrO rfl rfl ?_
          refine W.guardT rfl c5 ?_
          refine W.loadO (p := .str e2.Path) rfl rfl rfl rfl ?_
          refine W.guardT rfl c5 ?_
          refine W.mv rfl ?_
          refine W.guardT rfl c5 ?_
          obtain ⟨r5, k6, h⟩ := obind h
          refine W.call (treepatch_Related_spec n e2.Path a1 r5 k6) rfl rfl (Les.refl _) rfl (.inl rfl) rfl ?_
          refine W.pickT rfl rfl rfl c5 ?_
          refine W.nil ?_
          exact ⟨r5, h, Wk.nrmTo [1, 2, 9, 10, 11, 24] [] rfl rfl⟩
        · replace h := iteF h c5
          refine W.guardF1 rfl c5 ?_
          refine W.guardF1 rfl c5 ?_
          refine W.guardF1 rfl c5 ?_
          refine W.guardF1 rfl c5 ?_
          refine W.pickN rfl rfl rfl c5 ?_
          refine W.nil ?_
          exact ⟨false, h, Wk.nrmTo [1, 2, 9, 10, 11, 24] [] rfl rfl⟩
      · intro x3 h
        try dsimp only at h ⊢
        unfold treepatch_Clash_j1 at h
        refine Ev.cond rfl (fun c3 => ?_) (fun c3 => ?_)
        · replace h := iteT h c3
          refine Ev.seq ?_
          refine W.reg hm ?_
          refine W.mv rfl ?_
          refine W.nil ?_
          refine Ev.ret ?_
          injection h with h; subst h
          exact ⟨_, rfl, .refl _⟩
        · replace h := iteF h c3
          refine Ev.skip ?_
          refine W.reg hm ?_
          obtain ⟨x4, k4, h⟩ := obind h
          refine W.addG rfl rfl k4 ?_
          refine W.mv rfl ?_
          refine W.nil ?_
          exact ⟨(m1, x4), h, Nat.lt_succ_self _, Wk.nrmTo [1, 2, 9, 10, 11] [] rfl rfl⟩
    · replace h := iteF h c1
      refine Ev.exit ?_
      refine Ev.seq ?_
      refine W.reg hm ?_
      refine W.mv rfl ?_
      refine W.nil ?_
      refine Ev.ret ?_
      injection h with h; subst h
      exact ⟨_, rfl, .refl _⟩

theorem lines_Second_spec (n : Nat) (a0 : List (List UInt8)) (a1 : Int) (r : SCodeIndex) (h : lines_Second n a0 a1 = some r) : PSpec Tryd.prog 93 [.list 1 (List.map cS a0), .int .i64 a1] (.agg (SCodeIndex.cells r)) := by
  unfold lines_Second at h
  refine spec_of Tryd.c_lines_Second (by simp) ?_
  unfold Tryd.l_lines_Second
  refine Ev.seq ?_
  refine W.reg hm ?_
  refine W.alloc (dt := true) rfl rfl rfl ?_
  refine W.nil ?_
  refine Ev.seq ?_
  refine Ev.seq ?_
  refine W.reg hm ?_
  refine W.mv rfl ?_
  obtain ⟨r1, k1, h⟩ := obind h
  refine W.call (lines_Validate_spec n a0 r1 k1) rfl rfl (Les.refl _) rfl (.inl rfl) rfl ?_
  refine W.alloc (dt := true) rfl rfl rfl ?_
  refine W.store (es' := [[.int .i64 r1.Code, .int .i64 r1.Index]]) (dt := true) rfl rfl rfl rfl rfl (Nat.le_of_ble_eq_true rfl) rfl rfl rfl rfl ?_
  refine W.nil ?_
  refine Ev.seq ?_
  refine W.reg hm ?_
  refine W.loadO (p := .agg [.int .i64 r1.Code, .int .i64 r1.Index]) rfl rfl rfl rfl ?_
  refine W.build (cs := [.int .i64 0, .int .i64 0]) rfl rfl rfl ?_
  refine W.eqs rfl rfl rfl ?_
  refine W.nil ?_
  refine Ev.cond rfl (fun c2 => ?_) (fun c2 => ?_)
  · replace h := iteT h c2
    refine Ev.seq ?_
    refine W.reg hm ?_
    refine W.fieldAddrO rfl rfl ?_
    refine W.loadO (p := .int .i64 r1.Code) rfl rfl rfl rfl ?_
    refine W.mv rfl ?_
    refine W.build (cs := [.int .i64 r1.Code, .int .i64 a1]) rfl rfl rfl ?_
    refine W.store (es' := [[.int .i64 r1.Code, .int .i64 a1]]) (dt := true) rfl rfl rfl rfl rfl (Nat.le_of_ble_eq_true rfl) rfl rfl rfl rfl ?_
    refine W.nil ?_
    refine Ev.ret ?_
    injection h with h; subst h
    exact ⟨_, rfl, .refl _⟩
  · replace h := iteF h c2
    refine Ev.skip ?_
    refine Ev.seq ?_
    refine W.reg hm ?_
    refine W.build (cs := [.int .i64 0, .int .i64 0]) rfl rfl rfl ?_
    refine W.store (es' := [[.int .i64 0, .int .i64 0]]) (dt := true) rfl rfl rfl rfl rfl (Nat.le_of_ble_eq_true rfl) rfl rfl rfl rfl ?_
    refine W.nil ?_
    refine Ev.ret ?_
    injection h with h; subst h
    exact ⟨_, rfl, .refl _⟩

set_option maxHeartbeats 4000000 in
theorem treepatch_Validate_spec (n : Nat) (a0 : SFiles) (r : SCodeIndex) (h : treepatch_Validate n a0 = some r) : PSpec Tryd.prog 77 [.agg (SFiles.cells a0)] (.agg (SCodeIndex.cells r)) := by
  unfold treepatch_Validate at h
  refine spec_of Tryd.c_treepatch_Validate (by simp) ?_
  unfold Tryd.l_treepatch_Validate
  refine Ev.seq ?_
  refine W.reg hm ?_
  refine W.box (dt := true) (cs := [.list 2 (List.map SPathLines.cells a0.Files)]) rfl rfl rfl rfl rfl rfl ?_
  refine W.alloc (dt := true) rfl rfl rfl ?_
  refine W.nil ?_
  refine Ev.seq ?_
  refine Ev.seq ?_
  refine W.reg hm ?_
  refine W.fieldAddrO rfl rfl ?_
  refine W.loadO (p := .list 2 (List.map SPathLines.cells a0.Files)) rfl rfl rfl rfl ?_
  refine W.lenL (c := SPathLines.cells) rfl ?_
  refine W.gtr rfl rfl ?_
  refine W.nil ?_
  refine Ev.cond rfl (fun c1 => ?_) (fun c1 => ?_)
  · replace h := iteT h c1
    refine Ev.seq ?_
    refine W.reg hm ?_
    refine W.build (cs := [.int .i64 2, .int .i64 (-1)]) rfl rfl rfl ?_
    refine W.store (es' := [[.int .i64 2, .int .i64 (-1)]]) (dt := true) rfl rfl rfl rfl rfl (Nat.le_of_ble_eq_true rfl) rfl rfl rfl rfl ?_
    refine W.nil ?_
    refine Ev.ret ?_
    injection h with h; subst h
    exact ⟨_, rfl, .refl _⟩
  · replace h := iteF h c1
    refine Ev.skip ?_
    refine Ev.seq ?_
    refine Ev.seq ?_
    refine W.reg hm ?_
    refine W.fieldAddrO rfl rfl ?_
    refine W.loadO (p := .list 2 (List.map SPathLines.cells a0.Files)) rfl rfl rfl rfl ?_
    refine W.lenL (c := SPathLines.cells) rfl ?_
    refine W.mv rfl ?_
    refine W.nil ?_
    refine Ev.block ?_
    refine Ev.loopW (β := Nat × Int) (fun v => ⟨[(1, .pown 10100 0 0 0), (2, .pown 10101 0 0 0), (12, .list 2 (List.map SPathLines.cells a0.Files)), (13, .int .i64 (a0.Files.length : Int)), (14, .int .i64 v.2)], [(10100, ⟨0, 28, 1, [[.list 2 (List.map SPathLines.cells a0.Files)]], true, false, false⟩), (10101, ⟨0, 30, 2, [[.int .i64 0, .int .i64 0]], true, false, false⟩)], 2⟩) (fun v => treepatch_Validate_l1 n a0 v.1 v.2 = some r) (fun v => v.1) (n, 0) (Wk.nrmTo [1, 2, 12, 13, 14] [(1, 10100), (2, 10101)] rfl rfl) h ?_
    intro ⟨m1, x1⟩ h
    try dsimp only at h ⊢
    cases m1 with
    | zero => rw [treepatch_Validate_l1] at h; cases h
    | succ m1 =>
      rw [treepatch_Validate_l1] at h
      refine Ev.seq ?_
      refine W.reg hm ?_
      refine W.lss rfl rfl ?_
      refine W.nil ?_
      refine Ev.seq ?_
      refine Ev.cond rfl (fun c2 => ?_) (fun c2 => ?_)
      · replace h := iteT h c2
        refine Ev.skip ?_
        refine Ev.seq ?_
        refine Ev.block ?_
        refine Ev.seq ?_
        refine W.reg hm ?_
        refine W.mv rfl ?_
        obtain ⟨e2, k3, h⟩ := obind h
        refine W.idxL (c := SPathLines.cells) rfl rfl k3 ?_
        refine W.load rfl rfl ?_
        refine W.alloc (dt := true) rfl rfl rfl ?_
        refine W.mv rfl ?_
        refine W.store (es' := [[.str e2.Path, .list 1 (List.map cS e2.Lines)]]) (dt := true) rfl rfl rfl rfl rfl (Nat.le_of_ble_eq_true rfl) rfl rfl rfl rfl ?_
        refine W.nil ?_
        refine Ev.seq ?_
        refine Ev.block ?_
        refine Ev.seq ?_
        refine W.reg hm ?_
        refine W.fieldAddrO rfl rfl ?_
        refine W.loadO (p := .str e2.Path) rfl rfl rfl rfl ?_
        obtain ⟨r3, k4, h⟩ := obind h
        refine W.call (treepatch_ValidPath_spec n e2.Path r3 k4) rfl rfl (Les.refl _) rfl (.inl rfl) rfl ?_
        refine W.not rfl ?_
        refine W.mv rfl ?_
        refine W.nil ?_
        refine Ev.cond rfl (fun c5 => ?_) (fun c5 => ?_)
        · replace h := iteT h c5
          refine Ev.seq ?_
          refine W.reg hm ?_
          refine W.mv rfl ?_
          refine W.build (cs := [.int .i64 12, .int .i64 x1]) rfl rfl rfl ?_
          refine W.store (es' := [[.int .i64 12, .int .i64 x1]]) (dt := true) rfl rfl rfl rfl rfl (Nat.le_of_ble_eq_true rfl) rfl rfl rfl rfl ?_
          refine W.nil ?_
          refine Ev.ret ?_
          injection h with h; subst h
          exact ⟨_, rfl, .refl _⟩
        · replace h := iteF h c5
          refine Ev.seqJ (γ := Bool) (fun v => ⟨[(1, .pown 10200 0 0 0), (2, .pown 10201 0 0 0), (3, .int .i64 x1), (4, .pown 10202 0 0 0), (12, .list 2 (List.map SPathLines.cells a0.Files)), (13, .int .i64 (a0.Files.length : Int)), (14, .int .i64 x1), (26, .bool v)], [(10200, ⟨0, 28, 1, [[.list 2 (List.map SPathLines.cells a0.Files)]], true, false, false⟩), (10201, ⟨0, 30, 2, [[.int .i64 0, .int .i64 0]], true, false, false⟩), (10202, ⟨0, 61, 2, [[.str e2.Path, .list 1 (List.map cS e2.Lines)]], true, false, false⟩)], 2⟩) (fun v => treepatch_Validate_j1 n a0 x1 (treepatch_Validate_l1 n a0 m1) e2 v = some r) ?_ ?_
          · refine W.regD hm ?_
            refine W.mv rfl ?_
            refine W.gtr rfl rfl ?_
            refine W.mv rfl ?_
            refine W.split 29 rfl (fun c13 => ?_) (fun c13 => ?_)
            · replace h := iteT h c13
              refine W.guardT rfl c13 ?_
              refine W.fieldAddrO rfl rfl ?_
              refine W.guardT rfl c13 ?_
              refine W.loadO (p := .str e2.Path) rfl rfl rfl rfl ?_
              refine W.guardT rfl c13 ?_
              refine W.fieldAddrO rfl rfl ?_
              refine W.guardT rfl c13 ?_
              refine W.loadO (p := .list 2 (List.map SPathLines.cells a0.Files)) rfl rfl rfl rfl ?_
              refine W.guardT rfl c13 ?_
              refine W.mv rfl ?_
              refine W.guardT rfl c13 ?_
              obtain ⟨x9, k14, h⟩ := obind h
              refine W.subG rfl rfl k14 ?_
              refine W.guardT rfl c13 ?_
              obtain ⟨e10, k15, h⟩ := obind h
              refine W.idxL (c := SPathLines.cells) rfl rfl k15 ?_
              refine W.guardT rfl c13 ?_
              refine W.fieldAddr rfl ?_
              refine W.guardT rfl c13 ?_
              refine W.load rfl rfl ?_
              refine W.guardT rfl c13 ?_
              refine W.sleq rfl rfl ?_
              refine W.pickT rfl rfl rfl c13 ?_
              refine W.mv rfl ?_
              refine W.nil ⟨rfl, ?_⟩
              exact ⟨(Op.bytesLess e2.Path e10.Path || e2.Path == e10.Path), h, Wk.nrmTo [1, 2, 3, 4, 12, 13, 14, 26] [(10100, 10200), (10101, 10201), (4, 10202)] rfl rfl⟩
            · replace h := iteF h c13
              refine W.guardF1 rfl c13 ?_
              refine W.guardF1 rfl c13 ?_
              refine W.guardF1 rfl c13 ?_
              refine W.guardF1 rfl c13 ?_
              refine W.guardF1 rfl c13 ?_
              refine W.guardF1 rfl c13 ?_
              refine W.guardF1 rfl c13 ?_
              refine W.guardF1 rfl c13 ?_
              refine W.guardF1 rfl c13 ?_
              refine W.guardF1 rfl c13 ?_
              refine W.pickN rfl rfl rfl c13 ?_
              refine W.mv rfl ?_
              refine W.nil ⟨rfl, ?_⟩
              exact ⟨false, h, Wk.nrmTo [1, 2, 3, 4, 12, 13, 14, 26] [(10100, 10200), (10101, 10201), (4, 10202)] rfl rfl⟩
          · intro x4 h
            try dsimp only at h ⊢
            unfold treepatch_Validate_j1 at h
            refine Ev.cond rfl (fun c6 => ?_) (fun c6 => ?_)
            · replace h := iteT h c6
              refine Ev.seq ?_
              refine W.reg hm ?_
              refine W.mv rfl ?_
              refine W.build (cs := [.int .i64 5, .int .i64 x1]) rfl rfl rfl ?_
              refine W.store (es' := [[.int .i64 5, .int .i64 x1]]) (dt := true) rfl rfl rfl rfl rfl (Nat.le_of_ble_eq_true rfl) rfl rfl rfl rfl ?_
              refine W.nil ?_
              refine Ev.ret ?_
              injection h with h; subst h
              exact ⟨_, rfl, .refl _⟩
            · replace h := iteF h c6
              refine Ev.seq ?_
              refine W.regD hm ?_
              refine W.fieldAddrO rfl rfl ?_
              refine W.loadO (p := .list 2 (List.map SPathLines.cells a0.Files)) rfl rfl rfl rfl ?_
              refine W.mv rfl ?_
              obtain ⟨s5, k7, h⟩ := obind h
              refine W.sliceL (c := SPathLines.cells) rfl k7 (ix1 (gcut_some k7).2.2.2.1) ?_
              refine W.fieldAddrO rfl rfl ?_
              refine W.loadO (p := .str e2.Path) rfl rfl rfl rfl ?_
              obtain ⟨r6, k8, h⟩ := obind h
              refine W.call (treepatch_Clash_spec n s5 e2.Path (-1) r6 k8) rfl rfl (Les.refl _) rfl (.inl rfl) rfl ?_
              refine W.mv rfl ?_
              refine W.nil ⟨rfl, ?_⟩
              refine Ev.cond rfl (fun c9 => ?_) (fun c9 => ?_)
              · replace h := iteT h c9
                refine Ev.seq ?_
                refine W.reg hm ?_
                refine W.mv rfl ?_
                refine W.build (cs := [.int .i64 7, .int .i64 x1]) rfl rfl rfl ?_
                refine W.store (es' := [[.int .i64 7, .int .i64 x1]]) (dt := true) rfl rfl rfl rfl rfl (Nat.le_of_ble_eq_true rfl) rfl rfl rfl rfl ?_
                refine W.nil ?_
                refine Ev.ret ?_
                injection h with h; subst h
                exact ⟨_, rfl, .refl _⟩
              · replace h := iteF h c9
                refine Ev.skip ?_
                refine Ev.seq ?_
                refine W.reg hm ?_
                refine W.fieldAddrO rfl rfl ?_
                refine W.loadO (p := .list 1 (List.map cS e2.Lines)) rfl rfl rfl rfl ?_
                refine W.mv rfl ?_
                obtain ⟨r7, k10, h⟩ := obind h
                refine W.call (lines_Second_spec n e2.Lines x1 r7 k10) rfl rfl (Les.refl _) rfl (.inl rfl) rfl ?_
                refine W.alloc (dt := true) rfl rfl rfl ?_
                refine W.store (es' := [[.int .i64 r7.Code, .int .i64 r7.Index]]) (dt := true) rfl rfl rfl rfl rfl (Nat.le_of_ble_eq_true rfl) rfl rfl rfl rfl ?_
                refine W.nil ?_
                refine Ev.seq ?_
                refine W.reg hm ?_
                refine W.loadO (p := .agg [.int .i64 r7.Code, .int .i64 r7.Index]) rfl rfl rfl rfl ?_
                refine W.build (cs := [.int .i64 0, .int .i64 0]) rfl rfl rfl ?_
                refine W.eqs rfl rfl rfl ?_
                refine W.nil ?_
                refine Ev.cond rfl (fun c11 => ?_) (fun c11 => ?_)
                · replace h := iteT h c11
                  refine Ev.seq ?_
                  refine W.reg hm ?_
                  refine W.loadO (p := .agg [.int .i64 r7.Code, .int .i64 r7.Index]) rfl rfl rfl rfl ?_
                  refine W.store (es' := [[.int .i64 r7.Code, .int .i64 r7.Index]]) (dt := true) rfl rfl rfl rfl rfl (Nat.le_of_ble_eq_true rfl) rfl rfl rfl rfl ?_
                  refine W.nil ?_
                  refine Ev.ret ?_
                  injection h with h; subst h
                  exact ⟨_, rfl, .refl _⟩
                · replace h := iteF h c11
                  refine Ev.skip ?_
                  refine W.reg hm ?_
                  obtain ⟨x8, k12, h⟩ := obind h
                  refine W.addG rfl rfl k12 ?_
                  refine W.mv rfl ?_
                  refine W.nil ?_
                  exact ⟨(m1, x8), h, Nat.lt_succ_self _, Wk.nrmTo [1, 2, 12, 13, 14] [(10200, 10100), (10201, 10101)] rfl rfl⟩
      · replace h := iteF h c2
        refine Ev.exit ?_
        refine Ev.seq ?_
        refine W.reg hm ?_
        refine W.build (cs := [.int .i64 0, .int .i64 0]) rfl rfl rfl ?_
        refine W.store (es' := [[.int .i64 0, .int .i64 0]]) (dt := true) rfl rfl rfl rfl rfl (Nat.le_of_ble_eq_true rfl) rfl rfl rfl rfl ?_
        refine W.nil ?_
        refine Ev.ret ?_
        injection h with h; subst h
        exact ⟨_, rfl, .refl _⟩

theorem treepatch_Second_spec (n : Nat) (a0 : SFiles) (a1 : Int) (r : SCodeIndex) (h : treepatch_Second n a0 a1 = some r) : PSpec Tryd.prog 51 [.agg (SFiles.cells a0), .int .i64 a1] (.agg (SCodeIndex.cells r)) := by
  unfold treepatch_Second at h
  refine spec_of Tryd.c_treepatch_Second (by simp) ?_
  unfold Tryd.l_treepatch_Second
  refine Ev.seq ?_
  refine W.reg hm ?_
  refine W.box (dt := true) (cs := [.list 2 (List.map SPathLines.cells a0.Files)]) rfl rfl rfl rfl rfl rfl ?_
  refine W.alloc (dt := true) rfl rfl rfl ?_
  refine W.nil ?_
  refine Ev.seq ?_
  refine Ev.seq ?_
  refine W.reg hm ?_
  refine W.loadO (p := .agg [.list 2 (List.map SPathLines.cells a0.Files)]) rfl rfl rfl rfl ?_
  obtain ⟨r1, k1, h⟩ := obind h
  refine W.call (treepatch_Validate_spec n a0 r1 k1) rfl rfl (Les.refl _) rfl (.inl rfl) rfl ?_
  refine W.alloc (dt := true) rfl rfl rfl ?_
  refine W.store (es' := [[.int .i64 r1.Code, .int .i64 r1.Index]]) (dt := true) rfl rfl rfl rfl rfl (Nat.le_of_ble_eq_true rfl) rfl rfl rfl rfl ?_
  refine W.nil ?_
  refine Ev.seq ?_
  refine W.reg hm ?_
  refine W.loadO (p := .agg [.int .i64 r1.Code, .int .i64 r1.Index]) rfl rfl rfl rfl ?_
  refine W.build (cs := [.int .i64 0, .int .i64 0]) rfl rfl rfl ?_
  refine W.eqs rfl rfl rfl ?_
  refine W.nil ?_
  refine Ev.cond rfl (fun c2 => ?_) (fun c2 => ?_)
  · replace h := iteT h c2
    refine Ev.seq ?_
    refine W.reg hm ?_
    refine W.fieldAddrO rfl rfl ?_
    refine W.loadO (p := .int .i64 r1.Code) rfl rfl rfl rfl ?_
    refine W.mv rfl ?_
    refine W.build (cs := [.int .i64 r1.Code, .int .i64 a1]) rfl rfl rfl ?_
    refine W.store (es' := [[.int .i64 r1.Code, .int .i64 a1]]) (dt := true) rfl rfl rfl rfl rfl (Nat.le_of_ble_eq_true rfl) rfl rfl rfl rfl ?_
    refine W.nil ?_
    refine Ev.ret ?_
    injection h with h; subst h
    exact ⟨_, rfl, .refl _⟩
  · replace h := iteF h c2
    refine Ev.skip ?_
    refine Ev.seq ?_
    refine W.reg hm ?_
    refine W.build (cs := [.int .i64 0, .int .i64 0]) rfl rfl rfl ?_
    refine W.store (es' := [[.int .i64 0, .int .i64 0]]) (dt := true) rfl rfl rfl rfl rfl (Nat.le_of_ble_eq_true rfl) rfl rfl rfl rfl ?_
    refine W.nil ?_
    refine Ev.ret ?_
    injection h with h; subst h
    exact ⟨_, rfl, .refl _⟩

theorem sandbox_Arguments_spec (n : Nat) (a0 : SInputsOpsOutput) (a1 : SFiles) (r : SCodeIndex) (h : sandbox_Arguments n a0 a1 = some r) : PSpec Tryd.prog 36 [.agg (SInputsOpsOutput.cells a0), .agg (SFiles.cells a1)] (.agg (SCodeIndex.cells r)) := by
  unfold sandbox_Arguments at h
  refine spec_of Tryd.c_sandbox_Arguments (by simp) ?_
  unfold Tryd.l_sandbox_Arguments
  refine Ev.seq ?_
  refine W.reg hm ?_
  refine W.box (dt := true) (cs := [.list 1 (List.map cS a0.Inputs), .list 2 (List.map SKindText.cells a0.Ops), .str a0.Output]) rfl rfl rfl rfl rfl rfl ?_
  refine W.box (dt := true) (cs := [.list 2 (List.map SPathLines.cells a1.Files)]) rfl rfl rfl rfl rfl rfl ?_
  refine W.alloc (dt := true) rfl rfl rfl ?_
  refine W.nil ?_
  refine Ev.seq ?_
  refine Ev.seq ?_
  refine W.reg hm ?_
  refine W.loadO (p := .agg [.list 1 (List.map cS a0.Inputs), .list 2 (List.map SKindText.cells a0.Ops), .str a0.Output]) rfl rfl rfl rfl ?_
  obtain ⟨r1, k1, h⟩ := obind h
  refine W.call (sandbox_Validate_spec n a0 r1 k1) rfl rfl (Les.refl _) rfl (.inl rfl) rfl ?_
  refine W.alloc (dt := true) rfl rfl rfl ?_
  refine W.store (es' := [[.int .i64 r1.Code, .int .i64 r1.Index]]) (dt := true) rfl rfl rfl rfl rfl (Nat.le_of_ble_eq_true rfl) rfl rfl rfl rfl ?_
  refine W.nil ?_
  refine Ev.seq ?_
  refine W.reg hm ?_
  refine W.loadO (p := .agg [.int .i64 r1.Code, .int .i64 r1.Index]) rfl rfl rfl rfl ?_
  refine W.build (cs := [.int .i64 0, .int .i64 0]) rfl rfl rfl ?_
  refine W.eqs rfl rfl rfl ?_
  refine W.nil ?_
  refine Ev.cond rfl (fun c2 => ?_) (fun c2 => ?_)
  · replace h := iteT h c2
    refine Ev.seq ?_
    refine W.reg hm ?_
    refine W.loadO (p := .agg [.int .i64 r1.Code, .int .i64 r1.Index]) rfl rfl rfl rfl ?_
    refine W.store (es' := [[.int .i64 r1.Code, .int .i64 r1.Index]]) (dt := true) rfl rfl rfl rfl rfl (Nat.le_of_ble_eq_true rfl) rfl rfl rfl rfl ?_
    refine W.nil ?_
    refine Ev.ret ?_
    injection h with h; subst h
    exact ⟨_, rfl, .refl _⟩
  · replace h := iteF h c2
    refine Ev.skip ?_
    refine Ev.seq ?_
    refine W.reg hm ?_
    refine W.loadO (p := .agg [.list 2 (List.map SPathLines.cells a1.Files)]) rfl rfl rfl rfl ?_
    obtain ⟨r2, k3, h⟩ := obind h
    refine W.call (treepatch_Second_spec n a1 (-20) r2 k3) rfl rfl (Les.refl _) rfl (.inl rfl) rfl ?_
    refine W.store (es' := [[.int .i64 r2.Code, .int .i64 r2.Index]]) (dt := true) rfl rfl rfl rfl rfl (Nat.le_of_ble_eq_true rfl) rfl rfl rfl rfl ?_
    refine W.nil ?_
    refine Ev.ret ?_
    injection h with h; subst h
    exact ⟨_, rfl, .refl _⟩

set_option maxHeartbeats 4000000 in
theorem slices_Clone_string_spec (n : Nat) (a0 : List (List UInt8)) (r : List (List UInt8)) (h : slices_Clone_string n a0 = some r) : PSpec Tryd.prog 52 [.list 1 (List.map cS a0)] (.list 1 (List.map cS r)) := by
  unfold slices_Clone_string at h
  refine spec_of Tryd.c_slices_Clone_string (by simp) ?_
  unfold Tryd.l_slices_Clone_string
  cases a0 with
  | nil =>
    refine Ev.nilSplit 0 1 rfl (by decide) ?_ ?_
    · refine Ev.seq ?_
      refine W.reg hm ?_
      refine W.mv rfl ?_
      refine W.nil ?_
      refine Ev.seq ?_
      refine Ev.seq ?_
      refine W.reg hm ?_
      refine W.mv rfl ?_
      refine W.isnilN rfl ?_
      refine W.nil ?_
      refine Ev.condT rfl rfl ?_
      refine Ev.seq ?_
      refine W.reg hm ?_
      refine W.mv rfl ?_
      refine W.nil ?_
      obtain ⟨w9, k9, h⟩ := obind h
      injection h with h; subst h
      have e9 := (gapp_some k9).2
      simp only [List.nil_append] at e9
      subst e9
      refine Ev.ret ?_
      exact ⟨_, rfl, .nils 1⟩
    · refine Ev.seq ?_
      refine W.reg hm ?_
      refine W.mv rfl ?_
      refine W.nil ?_
      refine Ev.seq ?_
      refine Ev.seq ?_
      refine W.reg hm ?_
      refine W.mv rfl ?_
      refine W.isnilZ rfl ?_
      refine W.nil ?_
      refine Ev.condF rfl rfl ?_
      refine Ev.skip ?_
      refine Ev.seq ?_
      refine Ev.weak ?_ (Wk.le (t := 0) rfl (.nz 1))
      refine W.reg hm ?_
      refine W.mkSlice (dt := true) (es := []) rfl rfl rfl rfl rfl rfl ?_
      refine W.mv rfl ?_
      obtain ⟨w1, k1, h⟩ := obind h
      refine W.appR true (l := ([] : List (List UInt8))) (c := cS) (ys := ([] : List (List UInt8))) rfl rfl rfl rfl rfl rfl rfl rfl k1 rfl (by simp) ?_
      refine W.mv rfl ?_
      refine W.nil ?_
      refine Ev.ret ?_
      injection h with h; subst h
      exact ⟨_, rfl, .refl _⟩
  | cons x9 xs9 =>
    refine Ev.seq ?_
    refine W.reg hm ?_
    refine W.mv rfl ?_
    refine W.nil ?_
    refine Ev.seq ?_
    refine Ev.seq ?_
    refine W.reg hm ?_
    refine W.mv rfl ?_
    refine W.isnilC rfl ?_
    refine W.nil ?_
    refine Ev.condF rfl rfl ?_
    refine Ev.skip ?_
    refine Ev.seq ?_
    refine W.reg hm ?_
    refine W.mkSlice (dt := true) (es := []) rfl rfl rfl rfl rfl rfl ?_
    refine W.mv rfl ?_
    obtain ⟨w1, k1, h⟩ := obind h
    refine W.appR true (l := ([] : List (List UInt8))) (c := cS) (ys := (x9 :: xs9)) rfl rfl rfl rfl rfl rfl rfl rfl k1 rfl (by simp) ?_
    refine W.mv rfl ?_
    refine W.nil ?_
    refine Ev.ret ?_
    injection h with h; subst h
    exact ⟨_, rfl, .refl _⟩
theorem slices_Clone_string_own (n : Nat) (a0 : List (List UInt8)) (r : List (List UInt8)) (h : slices_Clone_string n a0 = some r) : PMut Tryd.prog 52 [.list 1 (List.map cS a0)] [] (.own 70000 0) [(70000, ⟨0, 9, 1, List.map cS r, true, false, false⟩)] := by
  unfold slices_Clone_string at h
  refine specMut_of Tryd.c_slices_Clone_string (by simp) (by simp) ?_
  unfold Tryd.l_slices_Clone_string
  cases a0 with
  | nil =>
    refine Ev.nilSplit 0 1 rfl (by decide) ?_ ?_
    · refine Ev.seq ?_
      refine W.reg hm ?_
      refine W.mv rfl ?_
      refine W.nil ?_
      refine Ev.seq ?_
      refine Ev.seq ?_
      refine W.reg hm ?_
      refine W.mv rfl ?_
      refine W.isnilN rfl ?_
      refine W.nil ?_
      refine Ev.condT rfl rfl ?_
      refine Ev.seq ?_
      refine W.reg hm ?_
      refine W.mv rfl ?_
      refine W.nil ?_
      obtain ⟨w9, k9, h⟩ := obind h
      injection h with h; subst h
      have e9 := (gapp_some k9).2
      simp only [List.nil_append] at e9
      subst e9
      refine Ev.weak ?_ (Wk.ownNil 2 69999 9 1 rfl rfl)
      refine Ev.ret ?_
      exact ⟨_, _, Wk.nrmTo [2] [(69999, 70000)] rfl rfl, rfl, rfl, rfl, .refl _, fun nm h => by simp [PW.look] at h⟩
    · refine Ev.seq ?_
      refine W.reg hm ?_
      refine W.mv rfl ?_
      refine W.nil ?_
      refine Ev.seq ?_
      refine Ev.seq ?_
      refine W.reg hm ?_
      refine W.mv rfl ?_
      refine W.isnilZ rfl ?_
      refine W.nil ?_
      refine Ev.condF rfl rfl ?_
      refine Ev.skip ?_
      refine Ev.seq ?_
      refine Ev.weak ?_ (Wk.le (t := 0) rfl (.nz 1))
      refine W.reg hm ?_
      refine W.mkSlice (dt := true) (es := []) rfl rfl rfl rfl rfl rfl ?_
      refine W.mv rfl ?_
      obtain ⟨w1, k1, h⟩ := obind h
      refine W.appR true (l := ([] : List (List UInt8))) (c := cS) (ys := ([] : List (List UInt8))) rfl rfl rfl rfl rfl rfl rfl rfl k1 rfl (by simp) ?_
      refine W.mv rfl ?_
      refine W.nil ?_
      refine Ev.ret ?_
      injection h with h; subst h
      exact ⟨_, _, Wk.nrmTo [2] [(7, 70000)] rfl rfl, rfl, rfl, rfl, .refl _, fun nm h => by simp [PW.look] at h⟩
  | cons x9 xs9 =>
    refine Ev.seq ?_
    refine W.reg hm ?_
    refine W.mv rfl ?_
    refine W.nil ?_
    refine Ev.seq ?_
    refine Ev.seq ?_
    refine W.reg hm ?_
    refine W.mv rfl ?_
    refine W.isnilC rfl ?_
    refine W.nil ?_
    refine Ev.condF rfl rfl ?_
    refine Ev.skip ?_
    refine Ev.seq ?_
    refine W.reg hm ?_
    refine W.mkSlice (dt := true) (es := []) rfl rfl rfl rfl rfl rfl ?_
    refine W.mv rfl ?_
    obtain ⟨w1, k1, h⟩ := obind h
    refine W.appR true (l := ([] : List (List UInt8))) (c := cS) (ys := (x9 :: xs9)) rfl rfl rfl rfl rfl rfl rfl rfl k1 rfl (by simp) ?_
    refine W.mv rfl ?_
    refine W.nil ?_
    refine Ev.ret ?_
    injection h with h; subst h
    exact ⟨_, _, Wk.nrmTo [2] [(7, 70000)] rfl rfl, rfl, rfl, rfl, .refl _, fun nm h => by simp [PW.look] at h⟩

theorem slices_Index_string_spec (n : Nat) (a0 : List (List UInt8)) (a1 : List UInt8) (r : Int) (h : slices_Index_string n a0 a1 = some r) : PSpec Tryd.prog 54 [.list 1 (List.map cS a0), .str a1] (.int .i64 r) := by
  unfold slices_Index_string at h
  refine spec_of Tryd.c_slices_Index_string (by simp) ?_
  unfold Tryd.l_slices_Index_string
  refine Ev.seq ?_
  refine W.reg hm ?_
  refine W.mv rfl ?_
  refine W.nil ?_
  refine Ev.seq ?_
  refine Ev.seq ?_
  refine W.reg hm ?_
  refine W.mv rfl ?_
  refine W.lenL (c := cS) rfl ?_
  refine W.mv rfl ?_
  refine W.nil ?_
  refine Ev.block ?_
  refine Ev.loopW (β := Nat × Int) (fun v => ⟨[(0, .list 1 (List.map cS a0)), (1, .str a1), (7, .int .i64 (a0.length : Int)), (8, .int .i64 v.2)], [], 2⟩) (fun v => slices_Index_string_l1 n a0 a1 v.1 v.2 = some r) (fun v => v.1) (n, 0) (Wk.nrmTo [0, 1, 7, 8] [] rfl rfl) h ?_
  intro ⟨m1, x1⟩ h
  try dsimp only at h ⊢
  cases m1 with
  | zero => rw [slices_Index_string_l1] at h; cases h
  | succ m1 =>
    rw [slices_Index_string_l1] at h
    refine Ev.seq ?_
    refine W.reg hm ?_
    refine W.lss rfl rfl ?_
    refine W.nil ?_
    refine Ev.seq ?_
    refine Ev.cond rfl (fun c1 => ?_) (fun c1 => ?_)
    · replace h := iteT h c1
      refine Ev.skip ?_
      refine Ev.seq ?_
      refine Ev.block ?_
      refine Ev.seq ?_
      refine W.reg hm ?_
      refine W.mv rfl ?_
      refine W.mv rfl ?_
      refine W.nil ?_
      refine Ev.seq ?_
      refine W.reg hm ?_
      refine W.mv rfl ?_
      refine W.mv rfl ?_
      refine W.mv rfl ?_
      obtain ⟨e2, k2, h⟩ := obind h
      refine W.idxL (c := cS) rfl rfl k2 ?_
      refine W.load rfl rfl ?_
      refine W.seql rfl rfl ?_
      refine W.nil ?_
      refine Ev.cond rfl (fun c3 => ?_) (fun c3 => ?_)
      · replace h := iteT h c3
        refine Ev.seq ?_
        refine W.reg hm ?_
        refine W.mv rfl ?_
        refine W.mv rfl ?_
        refine W.nil ?_
        refine Ev.ret ?_
        injection h with h; subst h
        exact ⟨_, rfl, .refl _⟩
      · replace h := iteF h c3
        refine Ev.skip ?_
        refine W.reg hm ?_
        obtain ⟨x3, k4, h⟩ := obind h
        refine W.addG rfl rfl k4 ?_
        refine W.mv rfl ?_
        refine W.nil ?_
        exact ⟨(m1, x3), h, Nat.lt_succ_self _, Wk.nrmTo [0, 1, 7, 8] [] rfl rfl⟩
    · replace h := iteF h c1
      refine Ev.exit ?_
      refine Ev.seq ?_
      refine W.reg hm ?_
      refine W.mv rfl ?_
      refine W.nil ?_
      refine Ev.ret ?_
      injection h with h; subst h
      exact ⟨_, rfl, .refl _⟩

theorem slices_Contains_string_spec (n : Nat) (a0 : List (List UInt8)) (a1 : List UInt8) (r : Bool) (h : slices_Contains_string n a0 a1 = some r) : PSpec Tryd.prog 40 [.list 1 (List.map cS a0), .str a1] (.bool r) := by
  unfold slices_Contains_string at h
  refine spec_of Tryd.c_slices_Contains_string (by simp) ?_
  unfold Tryd.l_slices_Contains_string
  refine Ev.seq ?_
  refine W.reg hm ?_
  refine W.mv rfl ?_
  refine W.nil ?_
  refine Ev.seq ?_
  refine W.reg hm ?_
  refine W.mv rfl ?_
  refine W.mv rfl ?_
  obtain ⟨r1, k1, h⟩ := obind h
  refine W.call (slices_Index_string_spec n a0 a1 r1 k1) rfl rfl (Les.refl _) rfl (.inl rfl) rfl ?_
  refine W.geq rfl rfl ?_
  refine W.mv rfl ?_
  refine W.nil ?_
  refine Ev.ret ?_
  injection h with h; subst h
  exact ⟨_, rfl, .refl _⟩
end Go.Proofs.YtadeoaglhaaimaaDoor
