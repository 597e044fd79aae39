/- The functions compute what the texts of D say. Laid by a program (wip/gen/dec.py). -/
import Derived.Test.YtlkknmhhefjmjaaDoorD
import Derived.Test.YtlkknmhhefjmjaaDoorK
namespace Go.Proofs.YtlkknmhhefjmjaaDoor
open Go.PW Go
theorem ref5_in_spec (n : Nat) (a0 : Int) (a1 : Int) (a2 : Int) (r : Bool) (h : ref5_in n a0 a1 a2 = some r) : PSpec Tryd.prog 54 [.int .i64 a0, .int .i64 a1, .int .i64 a2] (.bool r) := by
  unfold ref5_in at h
  refine spec_of Tryd.c_ref5_in (by simp) ?_
  unfold Tryd.l_ref5_in
  refine Ev.seq ?_
  refine W.reg hm ?_
  refine W.mv rfl ?_
  refine W.nil ?_
  refine Ev.seqJ (γ := Bool) (fun v => ⟨[(6, .bool v)], [], 2⟩) (fun v => ref5_in_j1 n v = some r) ?_ ?_
  · refine W.reg hm ?_
    refine W.mv rfl ?_
    refine W.mv rfl ?_
    refine W.geq rfl rfl ?_
    refine W.mv rfl ?_
    refine W.split 10 rfl (fun c1 => ?_) (fun c1 => ?_)
    · replace h := iteT h c1
      refine W.guardT rfl c1 ?_
      refine W.mv rfl ?_
      refine W.guardT rfl c1 ?_
      refine W.mv rfl ?_
      refine W.guardT rfl c1 ?_
      refine W.leq rfl rfl ?_
      refine W.pickT rfl rfl rfl c1 ?_
      refine W.mv rfl ?_
      refine W.nil ?_
      exact ⟨(decide (a0 ≤ a2)), h, Wk.nrmTo [6] [] rfl rfl⟩
    · replace h := iteF h c1
      refine W.guardF1 rfl c1 ?_
      refine W.guardF1 rfl c1 ?_
      refine W.guardF1 rfl c1 ?_
      refine W.pickN rfl rfl rfl c1 ?_
      refine W.mv rfl ?_
      refine W.nil ?_
      exact ⟨false, h, Wk.nrmTo [6] [] rfl rfl⟩
  · intro x1 h
    try dsimp only at h ⊢
    unfold ref5_in_j1 at h
    refine Ev.ret ?_
    injection h with h; subst h
    exact ⟨_, rfl, .refl _⟩
theorem ref5_IsDigest_spec (n : Nat) (a0 : Int) (r : Bool) (h : ref5_IsDigest n a0 = some r) : PSpec Tryd.prog 18 [.int .i64 a0] (.bool r) := by
  unfold ref5_IsDigest at h
  refine spec_of Tryd.c_ref5_IsDigest (by simp) ?_
  unfold Tryd.l_ref5_IsDigest
  refine Ev.seq ?_
  refine W.reg hm ?_
  refine W.mv rfl ?_
  refine W.nil ?_
  refine Ev.seq ?_
  refine W.reg hm ?_
  refine W.mv rfl ?_
  obtain ⟨r1, k1, h⟩ := obind h
  refine W.call (ref5_in_spec n a0 0 2305843009213693950 r1 k1) rfl rfl (Les.refl _) rfl (.inl rfl) rfl ?_
  refine W.mv rfl ?_
  refine W.nil ?_
  refine Ev.ret ?_
  injection h with h; subst h
  exact ⟨_, rfl, .refl _⟩
theorem ref6_fault_spec (n : Nat) (a0 : Int) (a1 : Int) (r : SCodeIndex) (h : ref6_fault n a0 a1 = some r) : PSpec Tryd.prog 48 [.int .i64 a0, .int .i64 a1] (.agg (SCodeIndex.cells r)) := by
  unfold ref6_fault at h
  refine spec_of Tryd.c_ref6_fault (by simp) ?_
  unfold Tryd.l_ref6_fault
  refine Ev.seq ?_
  refine W.reg hm ?_
  refine W.alloc (dt := true) rfl rfl rfl ?_
  refine W.nil ?_
  refine Ev.seq ?_
  refine W.reg hm ?_
  refine W.mv rfl ?_
  refine W.mv rfl ?_
  refine W.build (cs := [.int .i64 a0, .int .i64 a1]) rfl rfl rfl ?_
  refine W.store (es' := [[.int .i64 a0, .int .i64 a1]]) (dt := true) rfl rfl rfl rfl rfl (Nat.le_of_ble_eq_true rfl) rfl rfl rfl rfl ?_
  refine W.nil ?_
  refine Ev.ret ?_
  injection h with h; subst h
  exact ⟨_, rfl, .refl _⟩
set_option maxHeartbeats 4000000 in
theorem ref2_pathByte_spec (n : Nat) (a0 : Int) (r : Bool) (h : ref2_pathByte n a0 = some r) : PSpec Tryd.prog 113 [.int .u8 a0] (.bool r) := by
  unfold ref2_pathByte at h
  refine spec_of Tryd.c_ref2_pathByte (by simp) ?_
  unfold Tryd.l_ref2_pathByte
  refine Ev.seq ?_
  refine W.reg hm ?_
  refine W.mv rfl ?_
  refine W.nil ?_
  refine Ev.seqJ (γ := Bool) (fun v => ⟨[(2, .bool v)], [], 2⟩) (fun v => ref2_pathByte_j1 n v = some r) ?_ ?_
  · refine W.reg hm ?_
    refine W.mv rfl ?_
    refine W.geq rfl rfl ?_
    refine W.mv rfl ?_
    refine W.split 5 rfl (fun c1 => ?_) (fun c1 => ?_)
    · replace h := iteT h c1
      refine W.guardT rfl c1 ?_
      refine W.mv rfl ?_
      refine W.guardT rfl c1 ?_
      refine W.leq rfl rfl ?_
      refine W.pickT rfl rfl rfl c1 ?_
      refine W.mv rfl ?_
      refine W.split 9 rfl (fun c2 => ?_) (fun c2 => ?_)
      · replace h := iteT h c2
        refine W.guardF2 rfl c2 ?_
        refine W.guardF2 rfl c2 ?_
        refine W.guardF2 rfl c2 ?_
        refine W.guardU rfl ?_
        refine W.guardU rfl ?_
        refine W.guardF2 rfl c2 ?_
        refine W.pickT rfl rfl rfl c2 ?_
        refine W.mv rfl ?_
        refine W.guardF2 rfl rfl ?_
        refine W.guardF2 rfl rfl ?_
        refine W.guardF2 rfl rfl ?_
        refine W.guardU rfl ?_
        refine W.guardU rfl ?_
        refine W.guardF2 rfl rfl ?_
        refine W.pickT rfl rfl rfl rfl ?_
        refine W.mv rfl ?_
        refine W.guardF2 rfl rfl ?_
        refine W.guardF2 rfl rfl ?_
        refine W.pickT rfl rfl rfl rfl ?_
        refine W.mv rfl ?_
        refine W.guardF2 rfl rfl ?_
        refine W.guardF2 rfl rfl ?_
        refine W.pickT rfl rfl rfl rfl ?_
        refine W.mv rfl ?_
        refine W.guardF2 rfl rfl ?_
        refine W.guardF2 rfl rfl ?_
        refine W.pickT rfl rfl rfl rfl ?_
        refine W.mv rfl ?_
        refine W.nil ?_
        exact ⟨true, h, Wk.nrmTo [2] [] rfl rfl⟩
      · replace h := iteF h c2
        refine W.guardT rfl c2 ?_
        refine W.mv rfl ?_
        refine W.guardT rfl c2 ?_
        refine W.geq rfl rfl ?_
        refine W.guardT rfl c2 ?_
        refine W.mv rfl ?_
        refine W.split 12 rfl (fun c3 => ?_) (fun c3 => ?_)
        · replace h := iteT h c3
          refine W.guardT rfl c3 ?_
          refine W.mv rfl ?_
          refine W.guardT rfl c3 ?_
          refine W.leq rfl rfl ?_
          refine W.guardT rfl c2 ?_
          refine W.pickT rfl rfl rfl c3 ?_
          refine W.pickN rfl rfl rfl c2 ?_
          refine W.mv rfl ?_
          refine W.split 17 rfl (fun c4 => ?_) (fun c4 => ?_)
          · replace h := iteT h c4
            refine W.guardF2 rfl c4 ?_
            refine W.guardF2 rfl c4 ?_
            refine W.guardF2 rfl c4 ?_
            refine W.guardU rfl ?_
            refine W.guardU rfl ?_
            refine W.guardF2 rfl c4 ?_
            refine W.pickT rfl rfl rfl c4 ?_
            refine W.mv rfl ?_
            refine W.guardF2 rfl rfl ?_
            refine W.guardF2 rfl rfl ?_
            refine W.pickT rfl rfl rfl rfl ?_
            refine W.mv rfl ?_
            refine W.guardF2 rfl rfl ?_
            refine W.guardF2 rfl rfl ?_
            refine W.pickT rfl rfl rfl rfl ?_
            refine W.mv rfl ?_
            refine W.guardF2 rfl rfl ?_
            refine W.guardF2 rfl rfl ?_
            refine W.pickT rfl rfl rfl rfl ?_
            refine W.mv rfl ?_
            refine W.nil ?_
            exact ⟨true, h, Wk.nrmTo [2] [] rfl rfl⟩
          · replace h := iteF h c4
            refine W.guardT rfl c4 ?_
            refine W.mv rfl ?_
            refine W.guardT rfl c4 ?_
            refine W.geq rfl rfl ?_
            refine W.guardT rfl c4 ?_
            refine W.mv rfl ?_
            refine W.split 20 rfl (fun c5 => ?_) (fun c5 => ?_)
            · replace h := iteT h c5
              refine W.guardT rfl c5 ?_
              refine W.mv rfl ?_
              refine W.guardT rfl c5 ?_
              refine W.leq rfl rfl ?_
              refine W.guardT rfl c4 ?_
              refine W.pickT rfl rfl rfl c5 ?_
              refine W.pickN rfl rfl rfl c4 ?_
              refine W.mv rfl ?_
              refine W.split 25 rfl (fun c6 => ?_) (fun c6 => ?_)
              · replace h := iteT h c6
                refine W.guardF2 rfl c6 ?_
                refine W.guardF2 rfl c6 ?_
                refine W.pickT rfl rfl rfl c6 ?_
                refine W.mv rfl ?_
                refine W.guardF2 rfl rfl ?_
                refine W.guardF2 rfl rfl ?_
                refine W.pickT rfl rfl rfl rfl ?_
                refine W.mv rfl ?_
                refine W.guardF2 rfl rfl ?_
                refine W.guardF2 rfl rfl ?_
                refine W.pickT rfl rfl rfl rfl ?_
                refine W.mv rfl ?_
                refine W.nil ?_
                exact ⟨true, h, Wk.nrmTo [2] [] rfl rfl⟩
              · replace h := iteF h c6
                refine W.guardT rfl c6 ?_
                refine W.mv rfl ?_
                refine W.guardT rfl c6 ?_
                refine W.eql rfl rfl ?_
                refine W.pickN rfl rfl rfl c6 ?_
                refine W.mv rfl ?_
                refine W.split 29 rfl (fun c7 => ?_) (fun c7 => ?_)
                · replace h := iteT h c7
                  refine W.guardF2 rfl c7 ?_
                  refine W.guardF2 rfl c7 ?_
                  refine W.pickT rfl rfl rfl c7 ?_
                  refine W.mv rfl ?_
                  refine W.guardF2 rfl rfl ?_
                  refine W.guardF2 rfl rfl ?_
                  refine W.pickT rfl rfl rfl rfl ?_
                  refine W.mv rfl ?_
                  refine W.nil ?_
                  exact ⟨true, h, Wk.nrmTo [2] [] rfl rfl⟩
                · replace h := iteF h c7
                  refine W.guardT rfl c7 ?_
                  refine W.mv rfl ?_
                  refine W.guardT rfl c7 ?_
                  refine W.eql rfl rfl ?_
                  refine W.pickN rfl rfl rfl c7 ?_
                  refine W.mv rfl ?_
                  refine W.split 33 rfl (fun c8 => ?_) (fun c8 => ?_)
                  · replace h := iteT h c8
                    refine W.guardF2 rfl c8 ?_
                    refine W.guardF2 rfl c8 ?_
                    refine W.pickT rfl rfl rfl c8 ?_
                    refine W.mv rfl ?_
                    refine W.nil ?_
                    exact ⟨true, h, Wk.nrmTo [2] [] rfl rfl⟩
                  · replace h := iteF h c8
                    refine W.guardT rfl c8 ?_
                    refine W.mv rfl ?_
                    refine W.guardT rfl c8 ?_
                    refine W.eql rfl rfl ?_
                    refine W.pickN rfl rfl rfl c8 ?_
                    refine W.mv rfl ?_
                    refine W.nil ?_
                    exact ⟨(decide (a0 = 45)), h, Wk.nrmTo [2] [] rfl rfl⟩
            · replace h := iteF h c5
              refine W.guardF1 rfl c5 ?_
              refine W.guardF1 rfl c5 ?_
              refine W.guardT rfl c4 ?_
              refine W.pickN rfl rfl rfl c5 ?_
              refine W.pickN rfl rfl rfl c4 ?_
              refine W.mv rfl ?_
              refine W.guardT rfl rfl ?_
              refine W.mv rfl ?_
              refine W.guardT rfl rfl ?_
              refine W.eql rfl rfl ?_
              refine W.pickN rfl rfl rfl rfl ?_
              refine W.mv rfl ?_
              refine W.split 29 rfl (fun c9 => ?_) (fun c9 => ?_)
              · replace h := iteT h c9
                refine W.guardF2 rfl c9 ?_
                refine W.guardF2 rfl c9 ?_
                refine W.pickT rfl rfl rfl c9 ?_
                refine W.mv rfl ?_
                refine W.guardF2 rfl rfl ?_
                refine W.guardF2 rfl rfl ?_
                refine W.pickT rfl rfl rfl rfl ?_
                refine W.mv rfl ?_
                refine W.nil ?_
                exact ⟨true, h, Wk.nrmTo [2] [] rfl rfl⟩
              · replace h := iteF h c9
                refine W.guardT rfl c9 ?_
                refine W.mv rfl ?_
                refine W.guardT rfl c9 ?_
                refine W.eql rfl rfl ?_
                refine W.pickN rfl rfl rfl c9 ?_
                refine W.mv rfl ?_
                refine W.split 33 rfl (fun c10 => ?_) (fun c10 => ?_)
                · replace h := iteT h c10
                  refine W.guardF2 rfl c10 ?_
                  refine W.guardF2 rfl c10 ?_
                  refine W.pickT rfl rfl rfl c10 ?_
                  refine W.mv rfl ?_
                  refine W.nil ?_
                  exact ⟨true, h, Wk.nrmTo [2] [] rfl rfl⟩
                · replace h := iteF h c10
                  refine W.guardT rfl c10 ?_
                  refine W.mv rfl ?_
                  refine W.guardT rfl c10 ?_
                  refine W.eql rfl rfl ?_
                  refine W.pickN rfl rfl rfl c10 ?_
                  refine W.mv rfl ?_
                  refine W.nil ?_
                  exact ⟨(decide (a0 = 45)), h, Wk.nrmTo [2] [] rfl rfl⟩
        · replace h := iteF h c3
          refine W.guardF1 rfl c3 ?_
          refine W.guardF1 rfl c3 ?_
          refine W.guardT rfl c2 ?_
          refine W.pickN rfl rfl rfl c3 ?_
          refine W.pickN rfl rfl rfl c2 ?_
          refine W.mv rfl ?_
          refine W.guardT rfl rfl ?_
          refine W.mv rfl ?_
          refine W.guardT rfl rfl ?_
          refine W.geq rfl rfl ?_
          refine W.guardT rfl rfl ?_
          refine W.mv rfl ?_
          refine W.split 20 rfl (fun c11 => ?_) (fun c11 => ?_)
          · replace h := iteT h c11
            refine W.guardT rfl c11 ?_
            refine W.mv rfl ?_
            refine W.guardT rfl c11 ?_
            refine W.leq rfl rfl ?_
            refine W.guardT rfl rfl ?_
            refine W.pickT rfl rfl rfl c11 ?_
            refine W.pickN rfl rfl rfl rfl ?_
            refine W.mv rfl ?_
            refine W.split 25 rfl (fun c12 => ?_) (fun c12 => ?_)
            · replace h := iteT h c12
              refine W.guardF2 rfl c12 ?_
              refine W.guardF2 rfl c12 ?_
              refine W.pickT rfl rfl rfl c12 ?_
              refine W.mv rfl ?_
              refine W.guardF2 rfl rfl ?_
              refine W.guardF2 rfl rfl ?_
              refine W.pickT rfl rfl rfl rfl ?_
              refine W.mv rfl ?_
              refine W.guardF2 rfl rfl ?_
              refine W.guardF2 rfl rfl ?_
              refine W.pickT rfl rfl rfl rfl ?_
              refine W.mv rfl ?_
              refine W.nil ?_
              exact ⟨true, h, Wk.nrmTo [2] [] rfl rfl⟩
            · replace h := iteF h c12
              refine W.guardT rfl c12 ?_
              refine W.mv rfl ?_
              refine W.guardT rfl c12 ?_
              refine W.eql rfl rfl ?_
              refine W.pickN rfl rfl rfl c12 ?_
              refine W.mv rfl ?_
              refine W.split 29 rfl (fun c13 => ?_) (fun c13 => ?_)
              · replace h := iteT h c13
                refine W.guardF2 rfl c13 ?_
                refine W.guardF2 rfl c13 ?_
                refine W.pickT rfl rfl rfl c13 ?_
                refine W.mv rfl ?_
                refine W.guardF2 rfl rfl ?_
                refine W.guardF2 rfl rfl ?_
                refine W.pickT rfl rfl rfl rfl ?_
                refine W.mv rfl ?_
                refine W.nil ?_
                exact ⟨true, h, Wk.nrmTo [2] [] rfl rfl⟩
              · replace h := iteF h c13
                refine W.guardT rfl c13 ?_
                refine W.mv rfl ?_
                refine W.guardT rfl c13 ?_
                refine W.eql rfl rfl ?_
                refine W.pickN rfl rfl rfl c13 ?_
                refine W.mv rfl ?_
                refine W.split 33 rfl (fun c14 => ?_) (fun c14 => ?_)
                · replace h := iteT h c14
                  refine W.guardF2 rfl c14 ?_
                  refine W.guardF2 rfl c14 ?_
                  refine W.pickT rfl rfl rfl c14 ?_
                  refine W.mv rfl ?_
                  refine W.nil ?_
                  exact ⟨true, h, Wk.nrmTo [2] [] rfl rfl⟩
                · replace h := iteF h c14
                  refine W.guardT rfl c14 ?_
                  refine W.mv rfl ?_
                  refine W.guardT rfl c14 ?_
                  refine W.eql rfl rfl ?_
                  refine W.pickN rfl rfl rfl c14 ?_
                  refine W.mv rfl ?_
                  refine W.nil ?_
                  exact ⟨(decide (a0 = 45)), h, Wk.nrmTo [2] [] rfl rfl⟩
          · replace h := iteF h c11
            refine W.guardF1 rfl c11 ?_
            refine W.guardF1 rfl c11 ?_
            refine W.guardT rfl rfl ?_
            refine W.pickN rfl rfl rfl c11 ?_
            refine W.pickN rfl rfl rfl rfl ?_
            refine W.mv rfl ?_
            refine W.guardT rfl rfl ?_
            refine W.mv rfl ?_
            refine W.guardT rfl rfl ?_
            refine W.eql rfl rfl ?_
            refine W.pickN rfl rfl rfl rfl ?_
            refine W.mv rfl ?_
            refine W.split 29 rfl (fun c15 => ?_) (fun c15 => ?_)
            · replace h := iteT h c15
              refine W.guardF2 rfl c15 ?_
              refine W.guardF2 rfl c15 ?_
              refine W.pickT rfl rfl rfl c15 ?_
              refine W.mv rfl ?_
              refine W.guardF2 rfl rfl ?_
              refine W.guardF2 rfl rfl ?_
              refine W.pickT rfl rfl rfl rfl ?_
              refine W.mv rfl ?_
              refine W.nil ?_
              exact ⟨true, h, Wk.nrmTo [2] [] rfl rfl⟩
            · replace h := iteF h c15
              refine W.guardT rfl c15 ?_
              refine W.mv rfl ?_
              refine W.guardT rfl c15 ?_
              refine W.eql rfl rfl ?_
              refine W.pickN rfl rfl rfl c15 ?_
              refine W.mv rfl ?_
              refine W.split 33 rfl (fun c16 => ?_) (fun c16 => ?_)
              · replace h := iteT h c16
                refine W.guardF2 rfl c16 ?_
                refine W.guardF2 rfl c16 ?_
                refine W.pickT rfl rfl rfl c16 ?_
                refine W.mv rfl ?_
                refine W.nil ?_
                exact ⟨true, h, Wk.nrmTo [2] [] rfl rfl⟩
              · replace h := iteF h c16
                refine W.guardT rfl c16 ?_
                refine W.mv rfl ?_
                refine W.guardT rfl c16 ?_
                refine W.eql rfl rfl ?_
                refine W.pickN rfl rfl rfl c16 ?_
                refine W.mv rfl ?_
                refine W.nil ?_
                exact ⟨(decide (a0 = 45)), h, Wk.nrmTo [2] [] rfl rfl⟩
    · replace h := iteF h c1
      refine W.guardF1 rfl c1 ?_
      refine W.guardF1 rfl c1 ?_
      refine W.pickN rfl rfl rfl c1 ?_
      refine W.mv rfl ?_
      refine W.guardT rfl rfl ?_
      refine W.mv rfl ?_
      refine W.guardT rfl rfl ?_
      refine W.geq rfl rfl ?_
      refine W.guardT rfl rfl ?_
      refine W.mv rfl ?_
      refine W.split 12 rfl (fun c17 => ?_) (fun c17 => ?_)
      · replace h := iteT h c17
        refine W.guardT rfl c17 ?_
        refine W.mv rfl ?_
        refine W.guardT rfl c17 ?_
        refine W.leq rfl rfl ?_
        refine W.guardT rfl rfl ?_
        refine W.pickT rfl rfl rfl c17 ?_
        refine W.pickN rfl rfl rfl rfl ?_
        refine W.mv rfl ?_
        refine W.split 17 rfl (fun c18 => ?_) (fun c18 => ?_)
        · replace h := iteT h c18
          refine W.guardF2 rfl c18 ?_
          refine W.guardF2 rfl c18 ?_
          refine W.guardF2 rfl c18 ?_
          refine W.guardU rfl ?_
          refine W.guardU rfl ?_
          refine W.guardF2 rfl c18 ?_
          refine W.pickT rfl rfl rfl c18 ?_
          refine W.mv rfl ?_
          refine W.guardF2 rfl rfl ?_
          refine W.guardF2 rfl rfl ?_
          refine W.pickT rfl rfl rfl rfl ?_
          refine W.mv rfl ?_
          refine W.guardF2 rfl rfl ?_
          refine W.guardF2 rfl rfl ?_
          refine W.pickT rfl rfl rfl rfl ?_
          refine W.mv rfl ?_
          refine W.guardF2 rfl rfl ?_
          refine W.guardF2 rfl rfl ?_
          refine W.pickT rfl rfl rfl rfl ?_
          refine W.mv rfl ?_
          refine W.nil ?_
          exact ⟨true, h, Wk.nrmTo [2] [] rfl rfl⟩
        · replace h := iteF h c18
          refine W.guardT rfl c18 ?_
          refine W.mv rfl ?_
          refine W.guardT rfl c18 ?_
          refine W.geq rfl rfl ?_
          refine W.guardT rfl c18 ?_
          refine W.mv rfl ?_
          refine W.split 20 rfl (fun c19 => ?_) (fun c19 => ?_)
          · replace h := iteT h c19
            refine W.guardT rfl c19 ?_
            refine W.mv rfl ?_
            refine W.guardT rfl c19 ?_
            refine W.leq rfl rfl ?_
            refine W.guardT rfl c18 ?_
            refine W.pickT rfl rfl rfl c19 ?_
            refine W.pickN rfl rfl rfl c18 ?_
            refine W.mv rfl ?_
            refine W.split 25 rfl (fun c20 => ?_) (fun c20 => ?_)
            · replace h := iteT h c20
              refine W.guardF2 rfl c20 ?_
              refine W.guardF2 rfl c20 ?_
              refine W.pickT rfl rfl rfl c20 ?_
              refine W.mv rfl ?_
              refine W.guardF2 rfl rfl ?_
              refine W.guardF2 rfl rfl ?_
              refine W.pickT rfl rfl rfl rfl ?_
              refine W.mv rfl ?_
              refine W.guardF2 rfl rfl ?_
              refine W.guardF2 rfl rfl ?_
              refine W.pickT rfl rfl rfl rfl ?_
              refine W.mv rfl ?_
              refine W.nil ?_
              exact ⟨true, h, Wk.nrmTo [2] [] rfl rfl⟩
            · replace h := iteF h c20
              refine W.guardT rfl c20 ?_
              refine W.mv rfl ?_
              refine W.guardT rfl c20 ?_
              refine W.eql rfl rfl ?_
              refine W.pickN rfl rfl rfl c20 ?_
              refine W.mv rfl ?_
              refine W.split 29 rfl (fun c21 => ?_) (fun c21 => ?_)
              · replace h := iteT h c21
                refine W.guardF2 rfl c21 ?_
                refine W.guardF2 rfl c21 ?_
                refine W.pickT rfl rfl rfl c21 ?_
                refine W.mv rfl ?_
                refine W.guardF2 rfl rfl ?_
                refine W.guardF2 rfl rfl ?_
                refine W.pickT rfl rfl rfl rfl ?_
                refine W.mv rfl ?_
                refine W.nil ?_
                exact ⟨true, h, Wk.nrmTo [2] [] rfl rfl⟩
              · replace h := iteF h c21
                refine W.guardT rfl c21 ?_
                refine W.mv rfl ?_
                refine W.guardT rfl c21 ?_
                refine W.eql rfl rfl ?_
                refine W.pickN rfl rfl rfl c21 ?_
                refine W.mv rfl ?_
                refine W.split 33 rfl (fun c22 => ?_) (fun c22 => ?_)
                · replace h := iteT h c22
                  refine W.guardF2 rfl c22 ?_
                  refine W.guardF2 rfl c22 ?_
                  refine W.pickT rfl rfl rfl c22 ?_
                  refine W.mv rfl ?_
                  refine W.nil ?_
                  exact ⟨true, h, Wk.nrmTo [2] [] rfl rfl⟩
                · replace h := iteF h c22
                  refine W.guardT rfl c22 ?_
                  refine W.mv rfl ?_
                  refine W.guardT rfl c22 ?_
                  refine W.eql rfl rfl ?_
                  refine W.pickN rfl rfl rfl c22 ?_
                  refine W.mv rfl ?_
                  refine W.nil ?_
                  exact ⟨(decide (a0 = 45)), h, Wk.nrmTo [2] [] rfl rfl⟩
          · replace h := iteF h c19
            refine W.guardF1 rfl c19 ?_
            refine W.guardF1 rfl c19 ?_
            refine W.guardT rfl c18 ?_
            refine W.pickN rfl rfl rfl c19 ?_
            refine W.pickN rfl rfl rfl c18 ?_
            refine W.mv rfl ?_
            refine W.guardT rfl rfl ?_
            refine W.mv rfl ?_
            refine W.guardT rfl rfl ?_
            refine W.eql rfl rfl ?_
            refine W.pickN rfl rfl rfl rfl ?_
            refine W.mv rfl ?_
            refine W.split 29 rfl (fun c23 => ?_) (fun c23 => ?_)
            · replace h := iteT h c23
              refine W.guardF2 rfl c23 ?_
              refine W.guardF2 rfl c23 ?_
              refine W.pickT rfl rfl rfl c23 ?_
              refine W.mv rfl ?_
              refine W.guardF2 rfl rfl ?_
              refine W.guardF2 rfl rfl ?_
              refine W.pickT rfl rfl rfl rfl ?_
              refine W.mv rfl ?_
              refine W.nil ?_
              exact ⟨true, h, Wk.nrmTo [2] [] rfl rfl⟩
            · replace h := iteF h c23
              refine W.guardT rfl c23 ?_
              refine W.mv rfl ?_
              refine W.guardT rfl c23 ?_
              refine W.eql rfl rfl ?_
              refine W.pickN rfl rfl rfl c23 ?_
              refine W.mv rfl ?_
              refine W.split 33 rfl (fun c24 => ?_) (fun c24 => ?_)
              · replace h := iteT h c24
                refine W.guardF2 rfl c24 ?_
                refine W.guardF2 rfl c24 ?_
                refine W.pickT rfl rfl rfl c24 ?_
                refine W.mv rfl ?_
                refine W.nil ?_
                exact ⟨true, h, Wk.nrmTo [2] [] rfl rfl⟩
              · replace h := iteF h c24
                refine W.guardT rfl c24 ?_
                refine W.mv rfl ?_
                refine W.guardT rfl c24 ?_
                refine W.eql rfl rfl ?_
                refine W.pickN rfl rfl rfl c24 ?_
                refine W.mv rfl ?_
                refine W.nil ?_
                exact ⟨(decide (a0 = 45)), h, Wk.nrmTo [2] [] rfl rfl⟩
      · replace h := iteF h c17
        refine W.guardF1 rfl c17 ?_
        refine W.guardF1 rfl c17 ?_
        refine W.guardT rfl rfl ?_
        refine W.pickN rfl rfl rfl c17 ?_
        refine W.pickN rfl rfl rfl rfl ?_
        refine W.mv rfl ?_
        refine W.guardT rfl rfl ?_
        refine W.mv rfl ?_
        refine W.guardT rfl rfl ?_
        refine W.geq rfl rfl ?_
        refine W.guardT rfl rfl ?_
        refine W.mv rfl ?_
        refine W.split 20 rfl (fun c25 => ?_) (fun c25 => ?_)
        · replace h := iteT h c25
          refine W.guardT rfl c25 ?_
          refine W.mv rfl ?_
          refine W.guardT rfl c25 ?_
          refine W.leq rfl rfl ?_
          refine W.guardT rfl rfl ?_
          refine W.pickT rfl rfl rfl c25 ?_
          refine W.pickN rfl rfl rfl rfl ?_
          refine W.mv rfl ?_
          refine W.split 25 rfl (fun c26 => ?_) (fun c26 => ?_)
          · replace h := iteT h c26
            refine W.guardF2 rfl c26 ?_
            refine W.guardF2 rfl c26 ?_
            refine W.pickT rfl rfl rfl c26 ?_
            refine W.mv rfl ?_
            refine W.guardF2 rfl rfl ?_
            refine W.guardF2 rfl rfl ?_
            refine W.pickT rfl rfl rfl rfl ?_
            refine W.mv rfl ?_
            refine W.guardF2 rfl rfl ?_
            refine W.guardF2 rfl rfl ?_
            refine W.pickT rfl rfl rfl rfl ?_
            refine W.mv rfl ?_
            refine W.nil ?_
            exact ⟨true, h, Wk.nrmTo [2] [] rfl rfl⟩
          · replace h := iteF h c26
            refine W.guardT rfl c26 ?_
            refine W.mv rfl ?_
            refine W.guardT rfl c26 ?_
            refine W.eql rfl rfl ?_
            refine W.pickN rfl rfl rfl c26 ?_
            refine W.mv rfl ?_
            refine W.split 29 rfl (fun c27 => ?_) (fun c27 => ?_)
            · replace h := iteT h c27
              refine W.guardF2 rfl c27 ?_
              refine W.guardF2 rfl c27 ?_
              refine W.pickT rfl rfl rfl c27 ?_
              refine W.mv rfl ?_
              refine W.guardF2 rfl rfl ?_
              refine W.guardF2 rfl rfl ?_
              refine W.pickT rfl rfl rfl rfl ?_
              refine W.mv rfl ?_
              refine W.nil ?_
              exact ⟨true, h, Wk.nrmTo [2] [] rfl rfl⟩
            · replace h := iteF h c27
              refine W.guardT rfl c27 ?_
              refine W.mv rfl ?_
              refine W.guardT rfl c27 ?_
              refine W.eql rfl rfl ?_
              refine W.pickN rfl rfl rfl c27 ?_
              refine W.mv rfl ?_
              refine W.split 33 rfl (fun c28 => ?_) (fun c28 => ?_)
              · replace h := iteT h c28
                refine W.guardF2 rfl c28 ?_
                refine W.guardF2 rfl c28 ?_
                refine W.pickT rfl rfl rfl c28 ?_
                refine W.mv rfl ?_
                refine W.nil ?_
                exact ⟨true, h, Wk.nrmTo [2] [] rfl rfl⟩
              · replace h := iteF h c28
                refine W.guardT rfl c28 ?_
                refine W.mv rfl ?_
                refine W.guardT rfl c28 ?_
                refine W.eql rfl rfl ?_
                refine W.pickN rfl rfl rfl c28 ?_
                refine W.mv rfl ?_
                refine W.nil ?_
                exact ⟨(decide (a0 = 45)), h, Wk.nrmTo [2] [] rfl rfl⟩
        · replace h := iteF h c25
          refine W.guardF1 rfl c25 ?_
          refine W.guardF1 rfl c25 ?_
          refine W.guardT rfl rfl ?_
          refine W.pickN rfl rfl rfl c25 ?_
          refine W.pickN rfl rfl rfl rfl ?_
          refine W.mv rfl ?_
          refine W.guardT rfl rfl ?_
          refine W.mv rfl ?_
          refine W.guardT rfl rfl ?_
          refine W.eql rfl rfl ?_
          refine W.pickN rfl rfl rfl rfl ?_
          refine W.mv rfl ?_
          refine W.split 29 rfl (fun c29 => ?_) (fun c29 => ?_)
          · replace h := iteT h c29
            refine W.guardF2 rfl c29 ?_
            refine W.guardF2 rfl c29 ?_
            refine W.pickT rfl rfl rfl c29 ?_
            refine W.mv rfl ?_
            refine W.guardF2 rfl rfl ?_
            refine W.guardF2 rfl rfl ?_
            refine W.pickT rfl rfl rfl rfl ?_
            refine W.mv rfl ?_
            refine W.nil ?_
            exact ⟨true, h, Wk.nrmTo [2] [] rfl rfl⟩
          · replace h := iteF h c29
            refine W.guardT rfl c29 ?_
            refine W.mv rfl ?_
            refine W.guardT rfl c29 ?_
            refine W.eql rfl rfl ?_
            refine W.pickN rfl rfl rfl c29 ?_
            refine W.mv rfl ?_
            refine W.split 33 rfl (fun c30 => ?_) (fun c30 => ?_)
            · replace h := iteT h c30
              refine W.guardF2 rfl c30 ?_
              refine W.guardF2 rfl c30 ?_
              refine W.pickT rfl rfl rfl c30 ?_
              refine W.mv rfl ?_
              refine W.nil ?_
              exact ⟨true, h, Wk.nrmTo [2] [] rfl rfl⟩
            · replace h := iteF h c30
              refine W.guardT rfl c30 ?_
              refine W.mv rfl ?_
              refine W.guardT rfl c30 ?_
              refine W.eql rfl rfl ?_
              refine W.pickN rfl rfl rfl c30 ?_
              refine W.mv rfl ?_
              refine W.nil ?_
              exact ⟨(decide (a0 = 45)), h, Wk.nrmTo [2] [] rfl rfl⟩
  · intro x1 h
    try dsimp only at h ⊢
    unfold ref2_pathByte_j1 at h
    refine Ev.ret ?_
    injection h with h; subst h
    exact ⟨_, rfl, .refl _⟩
set_option maxHeartbeats 4000000 in
theorem ref2_PathValid_spec (n : Nat) (a0 : List UInt8) (r : Bool) (h : ref2_PathValid n a0 = some r) : PSpec Tryd.prog 82 [.str a0] (.bool r) := by
  unfold ref2_PathValid at h
  refine spec_of Tryd.c_ref2_PathValid (by simp) ?_
  unfold Tryd.l_ref2_PathValid
  refine Ev.seq ?_
  refine W.reg hm ?_
  refine W.mv rfl ?_
  refine W.nil ?_
  refine Ev.seq ?_
  refine Ev.seq ?_
  refine W.reg hm ?_
  refine W.mv rfl ?_
  refine W.slen rfl ?_
  refine W.gtr rfl rfl ?_
  refine W.nil ?_
  refine Ev.cond rfl (fun c1 => ?_) (fun c1 => ?_)
  · replace h := iteT h c1
    refine Ev.seq ?_
    refine W.reg hm ?_
    refine W.mv rfl ?_
    refine W.nil ?_
    refine Ev.ret ?_
    injection h with h; subst h
    exact ⟨_, rfl, .refl _⟩
  · replace h := iteF h c1
    refine Ev.skip ?_
    refine Ev.seq ?_
    refine W.reg hm ?_
    refine W.mv rfl ?_
    refine W.slen rfl ?_
    refine W.mv rfl ?_
    refine W.nil ?_
    refine Ev.seq ?_
    refine Ev.seq ?_
    refine W.reg hm ?_
    refine W.mv rfl ?_
    refine W.slen rfl ?_
    obtain ⟨x1, k2, h⟩ := obind h
    refine W.subG rfl rfl k2 ?_
    refine W.mv rfl ?_
    refine W.nil ?_
    refine Ev.block ?_
    refine Ev.loopW (β := Nat × Int × Int) (fun v => ⟨[(0, .str a0), (3, .int .i64 v.2.1), (4, .int .i64 v.2.2)], [], 2⟩) (fun v => ref2_PathValid_l1 n a0 v.1 v.2.1 v.2.2 = some r) (fun v => v.1) (n, (a0.length : Int), x1) (Wk.nrmTo [0, 3, 4] [] rfl rfl) h ?_
    intro ⟨m1, x2, x3⟩ h
    try dsimp only at h ⊢
    cases m1 with
    | zero => rw [ref2_PathValid_l1] at h; cases h
    | succ m1 =>
      rw [ref2_PathValid_l1] at h
      refine Ev.seq ?_
      refine Ev.seq ?_
      refine W.reg hm ?_
      refine W.mv rfl ?_
      refine W.geq rfl rfl ?_
      refine W.nil ?_
      refine Ev.cond rfl (fun c3 => ?_) (fun c3 => ?_)
      · replace h := iteT h c3
        refine Ev.skip ?_
        refine Ev.seqJ (γ := Int) (fun v => ⟨[(0, .str a0), (3, .int .i64 v), (4, .int .i64 x3)], [], 2⟩) (fun v => ref2_PathValid_j1 n x3 (ref2_PathValid_l1 n a0 m1) v = some r) ?_ ?_
        · refine Ev.block ?_
          refine Ev.seq ?_
          refine Ev.seqJ (γ := Bool) (fun v => ⟨[(0, .str a0), (3, .int .i64 x2), (4, .int .i64 x3), (25, .bool v)], [], 2⟩) (fun v => ref2_PathValid_j2 n a0 x2 x3 (ref2_PathValid_l1 n a0 m1) v = some r) ?_ ?_
          · refine W.reg hm ?_
            refine W.mv rfl ?_
            refine W.geq rfl rfl ?_
            refine W.mv rfl ?_
            refine W.split 20 rfl (fun c14 => ?_) (fun c14 => ?_)
            · replace h := iteT h c14
              refine W.guardT rfl c14 ?_
              refine W.mv rfl ?_
              refine W.guardT rfl c14 ?_
              refine W.mv rfl ?_
              refine W.guardT rfl c14 ?_
              obtain ⟨y12, k15, h⟩ := obind h
              refine W.sidxG rfl rfl k15 ?_
              refine W.guardT rfl c14 ?_
              refine W.neq rfl rfl ?_
              refine W.pickT rfl rfl rfl c14 ?_
              refine W.nil ?_
              exact ⟨(decide ((y12.toNat : Int) ≠ 47)), h, Wk.nrmTo [0, 3, 4, 25] [] rfl rfl⟩
            · replace h := iteF h c14
              refine W.guardF1 rfl c14 ?_
              refine W.guardF1 rfl c14 ?_
              refine W.guardF1 rfl c14 ?_
              refine W.guardF1 rfl c14 ?_
              refine W.pickN rfl rfl rfl c14 ?_
              refine W.nil ?_
              exact ⟨false, h, Wk.nrmTo [0, 3, 4, 25] [] rfl rfl⟩
          · intro x6 h
            try dsimp only at h ⊢
            unfold ref2_PathValid_j2 at h
            refine Ev.cond rfl (fun c5 => ?_) (fun c5 => ?_)
            · replace h := iteT h c5
              refine Ev.seq ?_
              refine Ev.seq ?_
              refine W.reg hm ?_
              refine W.mv rfl ?_
              refine W.mv rfl ?_
              obtain ⟨y7, k6, h⟩ := obind h
              refine W.sidxG rfl rfl k6 ?_
              obtain ⟨r8, k7, h⟩ := obind h
              refine W.call (ref2_pathByte_spec n (y7.toNat : Int) r8 k7) rfl rfl (Les.refl _) rfl (.inl rfl) rfl ?_
              refine W.not rfl ?_
              refine W.nil ?_
              refine Ev.cond rfl (fun c8 => ?_) (fun c8 => ?_)
              · replace h := iteT h c8
                refine Ev.seq ?_
                refine W.reg hm ?_
                refine W.mv rfl ?_
                refine W.nil ?_
                refine Ev.ret ?_
                injection h with h; subst h
                exact ⟨_, rfl, .refl _⟩
              · replace h := iteF h c8
                refine Ev.skip ?_
                refine Ev.exit ?_
                exact ⟨x2, h, Wk.nrmTo [0, 3, 4] [] rfl rfl⟩
            · replace h := iteF h c5
              refine Ev.skip ?_
              refine Ev.seq ?_
              refine W.reg hm ?_
              refine W.mv rfl ?_
              refine W.mv rfl ?_
              obtain ⟨x9, k9, h⟩ := obind h
              refine W.addG rfl rfl k9 ?_
              refine W.mv rfl ?_
              obtain ⟨s10, k10, h⟩ := obind h
              refine W.ssliceG rfl k10 (ix2 (gcut_some k10).1 (gcut_some k10).2.2.2.1) ?_
              refine W.mv rfl ?_
              refine W.nil ?_
              refine Ev.seq ?_
              refine Ev.seqJ (γ := Bool) (fun v => ⟨[(0, .str a0), (4, .int .i64 x3), (45, .bool v)], [], 2⟩) (fun v => ref2_PathValid_j3 n x3 (ref2_PathValid_l1 n a0 m1) v = some r) ?_ ?_
              · refine W.reg hm ?_
                refine W.mv rfl ?_
                refine W.seql rfl rfl ?_
                refine W.mv rfl ?_
                refine W.split 38 rfl (fun c12 => ?_) (fun c12 => ?_)
                · replace h := iteT h c12
                  refine W.guardF2 rfl c12 ?_
                  refine W.guardF2 rfl c12 ?_
                  refine W.pickT rfl rfl rfl c12 ?_
                  refine W.mv rfl ?_
                  refine W.guardF2 rfl rfl ?_
                  refine W.guardF2 rfl rfl ?_
                  refine W.pickT rfl rfl rfl rfl ?_
                  refine W.nil ?_
                  exact ⟨true, h, Wk.nrmTo [0, 4, 45] [] rfl rfl⟩
                · replace h := iteF h c12
                  refine W.guardT rfl c12 ?_
                  refine W.mv rfl ?_
                  refine W.guardT rfl c12 ?_
                  refine W.seql rfl rfl ?_
                  refine W.pickN rfl rfl rfl c12 ?_
                  refine W.mv rfl ?_
                  refine W.split 42 rfl (fun c13 => ?_) (fun c13 => ?_)
                  · replace h := iteT h c13
                    refine W.guardF2 rfl c13 ?_
                    refine W.guardF2 rfl c13 ?_
                    refine W.pickT rfl rfl rfl c13 ?_
                    refine W.nil ?_
                    exact ⟨true, h, Wk.nrmTo [0, 4, 45] [] rfl rfl⟩
                  · replace h := iteF h c13
                    refine W.guardT rfl c13 ?_
                    refine W.mv rfl ?_
                    refine W.guardT rfl c13 ?_
                    refine W.seql rfl rfl ?_
                    refine W.pickN rfl rfl rfl c13 ?_
                    refine W.nil ?_
                    exact ⟨(decide (s10 = ([46, 46] : List UInt8))), h, Wk.nrmTo [0, 4, 45] [] rfl rfl⟩
              · intro x11 h
                try dsimp only at h ⊢
                unfold ref2_PathValid_j3 at h
                refine Ev.cond rfl (fun c11 => ?_) (fun c11 => ?_)
                · replace h := iteT h c11
                  refine Ev.seq ?_
                  refine W.reg hm ?_
                  refine W.mv rfl ?_
                  refine W.nil ?_
                  refine Ev.ret ?_
                  injection h with h; subst h
                  exact ⟨_, rfl, .refl _⟩
                · replace h := iteF h c11
                  refine Ev.skip ?_
                  refine W.reg hm ?_
                  refine W.mv rfl ?_
                  refine W.mv rfl ?_
                  refine W.nil ?_
                  exact ⟨x3, h, Wk.nrmTo [0, 3, 4] [] rfl rfl⟩
        · intro x4 h
          try dsimp only at h ⊢
          unfold ref2_PathValid_j1 at h
          refine W.reg hm ?_
          refine W.mv rfl ?_
          obtain ⟨x5, k4, h⟩ := obind h
          refine W.subG rfl rfl k4 ?_
          refine W.mv rfl ?_
          refine W.nil ?_
          exact ⟨(m1, x4, x5), h, Nat.lt_succ_self _, Wk.nrmTo [0, 3, 4] [] rfl rfl⟩
      · replace h := iteF h c3
        refine Ev.exit ?_
        refine Ev.seq ?_
        refine W.reg hm ?_
        refine W.mv rfl ?_
        refine W.nil ?_
        refine Ev.ret ?_
        injection h with h; subst h
        exact ⟨_, rfl, .refl _⟩
set_option maxHeartbeats 4000000 in
theorem ref6_PathsFault_spec (n : Nat) (a0 : List (List UInt8)) (r : SCodeIndex) (h : ref6_PathsFault n a0 = some r) : PSpec Tryd.prog 41 [.list 1 (List.map cS a0)] (.agg (SCodeIndex.cells r)) := by
  unfold ref6_PathsFault at h
  refine spec_of Tryd.c_ref6_PathsFault (by simp) ?_
  unfold Tryd.l_ref6_PathsFault
  refine Ev.seq ?_
  refine W.reg hm ?_
  refine W.alloc (dt := true) rfl rfl rfl ?_
  refine W.nil ?_
  refine Ev.seq ?_
  refine Ev.seq ?_
  refine W.reg hm ?_
  refine W.mv rfl ?_
  refine W.lenL (c := cS) rfl ?_
  refine W.gtr rfl rfl ?_
  refine W.nil ?_
  refine Ev.cond rfl (fun c1 => ?_) (fun c1 => ?_)
  · replace h := iteT h c1
    refine Ev.seq ?_
    refine W.reg hm ?_
    obtain ⟨r1, k2, h⟩ := obind h
    refine W.call (ref6_fault_spec n 2 (-1) r1 k2) rfl rfl (Les.refl _) rfl (.inl rfl) rfl ?_
    refine W.store (es' := [[.int .i64 r1.Code, .int .i64 r1.Index]]) (dt := true) rfl rfl rfl rfl rfl (Nat.le_of_ble_eq_true rfl) rfl rfl rfl rfl ?_
    refine W.nil ?_
    refine Ev.ret ?_
    injection h with h; subst h
    exact ⟨_, rfl, .refl _⟩
  · replace h := iteF h c1
    refine Ev.skip ?_
    refine Ev.seq ?_
    refine Ev.seq ?_
    refine W.reg hm ?_
    refine W.mv rfl ?_
    refine W.nil ?_
    refine Ev.block ?_
    refine Ev.loopW (β := Nat × Int) (fun v => ⟨[(0, .list 1 (List.map cS a0)), (2, .pown 10100 0 0 0), (3, .int .i64 v.2)], [(10100, ⟨0, 25, 2, [[.int .i64 0, .int .i64 0]], true, false, false⟩)], 2⟩) (fun v => ref6_PathsFault_l1 n a0 v.1 v.2 = some r) (fun v => v.1) (n, 0) (Wk.nrmTo [0, 2, 3] [(2, 10100)] rfl rfl) h ?_
    intro ⟨m1, x2⟩ h
    try dsimp only at h ⊢
    cases m1 with
    | zero => rw [ref6_PathsFault_l1] at h; cases h
    | succ m1 =>
      rw [ref6_PathsFault_l1] at h
      refine Ev.seq ?_
      refine Ev.seq ?_
      refine W.reg hm ?_
      refine W.mv rfl ?_
      refine W.mv rfl ?_
      refine W.lenL (c := cS) rfl ?_
      refine W.lss rfl rfl ?_
      refine W.nil ?_
      refine Ev.cond rfl (fun c3 => ?_) (fun c3 => ?_)
      · replace h := iteT h c3
        refine Ev.skip ?_
        refine Ev.seq ?_
        refine Ev.block ?_
        refine Ev.seq ?_
        refine Ev.seq ?_
        refine W.reg hm ?_
        refine W.mv rfl ?_
        refine W.mv rfl ?_
        obtain ⟨e3, k4, h⟩ := obind h
        refine W.idxL (c := cS) rfl rfl k4 ?_
        refine W.load rfl rfl ?_
        obtain ⟨r4, k5, h⟩ := obind h
        refine W.call (ref2_PathValid_spec n e3 r4 k5) rfl rfl (Les.refl _) rfl (.inl rfl) rfl ?_
        refine W.not rfl ?_
        refine W.nil ?_
        refine Ev.cond rfl (fun c6 => ?_) (fun c6 => ?_)
        · replace h := iteT h c6
          refine Ev.seq ?_
          refine W.reg hm ?_
          refine W.mv rfl ?_
          obtain ⟨r5, k7, h⟩ := obind h
          refine W.call (ref6_fault_spec n 12 x2 r5 k7) rfl rfl (Les.refl _) rfl (.inl rfl) rfl ?_
          refine W.store (es' := [[.int .i64 r5.Code, .int .i64 r5.Index]]) (dt := true) rfl rfl rfl rfl rfl (Nat.le_of_ble_eq_true rfl) rfl rfl rfl rfl ?_
          refine W.nil ?_
          refine Ev.ret ?_
          injection h with h; subst h
          exact ⟨_, rfl, .refl _⟩
        · replace h := iteF h c6
          refine Ev.skip ?_
          refine Ev.seqJ (γ := Bool) (fun v => ⟨[(0, .list 1 (List.map cS a0)), (2, .pown 10200 0 0 0), (3, .int .i64 x2), (35, .bool v)], [(10200, ⟨0, 25, 2, [[.int .i64 0, .int .i64 0]], true, false, false⟩)], 2⟩) (fun v => ref6_PathsFault_j1 n x2 (ref6_PathsFault_l1 n a0 m1) v = some r) ?_ ?_
          · refine W.regD hm ?_
            refine W.mv rfl ?_
            refine W.gtr rfl rfl ?_
            refine W.mv rfl ?_
            refine W.split 24 rfl (fun c11 => ?_) (fun c11 => ?_)
            · replace h := iteT h c11
              refine W.guardT rfl c11 ?_
              refine W.mv rfl ?_
              refine W.guardT rfl c11 ?_
              refine W.mv rfl ?_
              refine W.guardT rfl c11 ?_
              refine W.idxL (c := cS) rfl rfl k4 ?_
              refine W.guardT rfl c11 ?_
              refine W.load rfl rfl ?_
              refine W.guardT rfl c11 ?_
              refine W.mv rfl ?_
              refine W.guardT rfl c11 ?_
              refine W.mv rfl ?_
              refine W.guardT rfl c11 ?_
              obtain ⟨x9, k12, h⟩ := obind h
              refine W.subG rfl rfl k12 ?_
              refine W.guardT rfl c11 ?_
              obtain ⟨e10, k13, h⟩ := obind h
              refine W.idxL (c := cS) rfl rfl k13 ?_
              refine W.guardT rfl c11 ?_
              refine W.load rfl rfl ?_
              refine W.guardT rfl c11 ?_
              refine W.sleq rfl rfl ?_
              refine W.pickT rfl rfl rfl c11 ?_
              refine W.nil ⟨rfl, ?_⟩
              exact ⟨(Op.bytesLess e3 e10 || e3 == e10), h, Wk.nrmTo [0, 2, 3, 35] [(10100, 10200)] rfl rfl⟩
            · replace h := iteF h c11
              refine W.guardF1 rfl c11 ?_
              refine W.guardF1 rfl c11 ?_
              refine W.guardF1 rfl c11 ?_
              refine W.guardF1 rfl c11 ?_
              refine W.guardF1 rfl c11 ?_
              refine W.guardF1 rfl c11 ?_
              refine W.guardF1 rfl c11 ?_
              refine W.guardF1 rfl c11 ?_
              refine W.guardF1 rfl c11 ?_
              refine W.guardF1 rfl c11 ?_
              refine W.pickN rfl rfl rfl c11 ?_
              refine W.nil ⟨rfl, ?_⟩
              exact ⟨false, h, Wk.nrmTo [0, 2, 3, 35] [(10100, 10200)] rfl rfl⟩
          · intro x6 h
            try dsimp only at h ⊢
            unfold ref6_PathsFault_j1 at h
            refine Ev.cond rfl (fun c8 => ?_) (fun c8 => ?_)
            · replace h := iteT h c8
              refine Ev.seq ?_
              refine W.reg hm ?_
              refine W.mv rfl ?_
              obtain ⟨r7, k9, h⟩ := obind h
              refine W.call (ref6_fault_spec n 5 x2 r7 k9) rfl rfl (Les.refl _) rfl (.inl rfl) rfl ?_
              refine W.store (es' := [[.int .i64 r7.Code, .int .i64 r7.Index]]) (dt := true) rfl rfl rfl rfl rfl (Nat.le_of_ble_eq_true rfl) rfl rfl rfl rfl ?_
              refine W.nil ?_
              refine Ev.ret ?_
              injection h with h; subst h
              exact ⟨_, rfl, .refl _⟩
            · replace h := iteF h c8
              refine Ev.skip ?_
              refine W.reg hm ?_
              refine W.mv rfl ?_
              obtain ⟨x8, k10, h⟩ := obind h
              refine W.addG rfl rfl k10 ?_
              refine W.mv rfl ?_
              refine W.nil ?_
              exact ⟨(m1, x8), h, Nat.lt_succ_self _, Wk.nrmTo [0, 2, 3] [(10200, 10100)] rfl rfl⟩
      · replace h := iteF h c3
        refine Ev.exit ?_
        refine Ev.seq ?_
        refine W.reg hm ?_
        refine W.build (cs := [.int .i64 0, .int .i64 0]) rfl rfl rfl ?_
        refine W.store (es' := [[.int .i64 0, .int .i64 0]]) (dt := true) rfl rfl rfl rfl rfl (Nat.le_of_ble_eq_true rfl) rfl rfl rfl rfl ?_
        refine W.nil ?_
        refine Ev.ret ?_
        injection h with h; subst h
        exact ⟨_, rfl, .refl _⟩
set_option maxHeartbeats 4000000 in
theorem ref6_BomFault_spec (n : Nat) (a0 : List SPathDigest) (r : SCodeIndex) (h : ref6_BomFault n a0 = some r) : PSpec Tryd.prog 34 [.list 2 (List.map SPathDigest.cells a0)] (.agg (SCodeIndex.cells r)) := by
  unfold ref6_BomFault at h
  refine spec_of Tryd.c_ref6_BomFault (by simp) ?_
  unfold Tryd.l_ref6_BomFault
  refine Ev.seq ?_
  refine W.reg hm ?_
  refine W.alloc (dt := true) rfl rfl rfl ?_
  refine W.nil ?_
  refine Ev.seq ?_
  refine W.reg hm ?_
  refine W.mv rfl ?_
  refine W.nil ?_
  refine Ev.seq ?_
  refine Ev.seq ?_
  refine W.reg hm ?_
  refine W.mv rfl ?_
  refine W.nil ?_
  refine Ev.block ?_
  refine Ev.loopW (β := Nat × (List (List UInt8)) × Int) (fun v => ⟨[(0, .list 2 (List.map SPathDigest.cells a0)), (2, .pown 10100 0 0 0), (3, .own 10101 0), (4, .int .i64 v.2.2)], [(10100, ⟨0, 25, 2, [[.int .i64 0, .int .i64 0]], true, false, false⟩), (10101, ⟨0, 9, 1, List.map cS v.2.1, true, false, false⟩)], 2⟩) (fun v => ref6_BomFault_l1 n a0 v.1 v.2.1 v.2.2 = some r) (fun v => v.1) (n + a0.length, ([] : List (List UInt8)), 0) ((Wk.ownNil 3 30101 9 1 rfl rfl true).trans (Wk.nrmTo [0, 2, 3, 4] [(2, 10100), (30101, 10101)] rfl rfl)) h ?_
  intro ⟨m1, w1, x2⟩ h
  try dsimp only at h ⊢
  cases m1 with
  | zero => rw [ref6_BomFault_l1] at h; cases h
  | succ m1 =>
    rw [ref6_BomFault_l1] at h
    refine Ev.seq ?_
    refine Ev.seq ?_
    refine W.reg hm ?_
    refine W.mv rfl ?_
    refine W.mv rfl ?_
    refine W.lenL (c := SPathDigest.cells) rfl ?_
    refine W.lss rfl rfl ?_
    refine W.nil ?_
    refine Ev.cond rfl (fun c1 => ?_) (fun c1 => ?_)
    · replace h := iteT h c1
      refine Ev.skip ?_
      refine Ev.seq ?_
      refine Ev.block ?_
      refine W.reg hm ?_
      refine W.mv rfl ?_
      refine W.mv rfl ?_
      refine W.mv rfl ?_
      obtain ⟨e3, k2, h⟩ := obind h
      refine W.idxL (c := SPathDigest.cells) rfl rfl k2 ?_
      refine W.fieldAddr rfl ?_
      refine W.load rfl rfl ?_
      refine W.mkSlice (dt := true) (es := [[.str e3.Path]]) rfl rfl rfl rfl rfl rfl ?_
      obtain ⟨w4, k3, h⟩ := obind h
      refine W.appR true (l := w1) (c := cS) (ys := ([e3.Path] : List (List UInt8))) rfl rfl rfl rfl rfl rfl rfl rfl k3 rfl (by simp) ?_
      refine W.mv rfl ?_
      refine W.nil ?_
      refine W.reg hm ?_
      refine W.mv rfl ?_
      obtain ⟨x5, k4, h⟩ := obind h
      refine W.addG rfl rfl k4 ?_
      refine W.mv rfl ?_
      refine W.nil ?_
      exact ⟨(m1, w4, x5), h, Nat.lt_succ_self _, Wk.nrmTo [0, 2, 3, 4] [(10100, 10100), (20, 10101)] rfl rfl⟩
    · replace h := iteF h c1
      refine Ev.exit ?_
      refine Ev.seq ?_
      refine W.reg hm ?_
      refine W.mv rfl ?_
      obtain ⟨r6, k5, h⟩ := obind h
      refine W.call (ref6_PathsFault_spec n w1 r6 k5) rfl rfl (Les.refl _) rfl (.inr rfl) rfl ?_
      refine W.alloc (dt := true) rfl rfl rfl ?_
      refine W.store (es' := [[.int .i64 r6.Code, .int .i64 r6.Index]]) (dt := true) rfl rfl rfl rfl rfl (Nat.le_of_ble_eq_true rfl) rfl rfl rfl rfl ?_
      refine W.nil ?_
      refine Ev.seq ?_
      refine Ev.seq ?_
      refine W.reg hm ?_
      refine W.mv rfl ?_
      refine W.nil ?_
      refine Ev.block ?_
      refine Ev.loopW (β := Nat × Int × Int × Int) (fun v => ⟨[(0, .list 2 (List.map SPathDigest.cells a0)), (2, .pown 10200 0 0 0), (5, .pown 10201 0 0 0), (6, .int .i64 v.2.2.2)], [(10200, ⟨0, 25, 2, [[.int .i64 0, .int .i64 0]], true, false, false⟩), (10201, ⟨0, 25, 2, [[.int .i64 v.2.1, .int .i64 v.2.2.1]], true, false, false⟩)], 2⟩) (fun v => ref6_BomFault_l2 n a0 v.1 v.2.1 v.2.2.1 v.2.2.2 = some r) (fun v => v.1) (n, r6.Code, r6.Index, 0) (Wk.nrmTo [0, 2, 5, 6] [(10100, 10200), (5, 10201)] rfl rfl) h ?_
      intro ⟨m2, b7, b8, x9⟩ h
      try dsimp only at h ⊢
      cases m2 with
      | zero => rw [ref6_BomFault_l2] at h; cases h
      | succ m2 =>
        rw [ref6_BomFault_l2] at h
        refine Ev.seq ?_
        refine Ev.seqJ (γ := Bool) (fun v => ⟨[(0, .list 2 (List.map SPathDigest.cells a0)), (2, .pown 10300 0 0 0), (5, .pown 10301 0 0 0), (6, .int .i64 x9), (31, .bool v)], [(10300, ⟨0, 25, 2, [[.int .i64 0, .int .i64 0]], true, false, false⟩), (10301, ⟨0, 25, 2, [[.int .i64 b7, .int .i64 b8]], true, false, false⟩)], 2⟩) (fun v => ref6_BomFault_j1 n a0 b7 b8 x9 (ref6_BomFault_l2 n a0 m2) v = some r) ?_ ?_
        · refine W.reg hm ?_
          refine W.mv rfl ?_
          refine W.mv rfl ?_
          refine W.lenL (c := SPathDigest.cells) rfl ?_
          refine W.lss rfl rfl ?_
          refine W.mv rfl ?_
          refine W.split 27 rfl (fun c13 => ?_) (fun c13 => ?_)
          · replace h := iteT h c13
            refine W.guardT rfl c13 ?_
            refine W.fieldAddrO rfl rfl ?_
            refine W.guardT rfl c13 ?_
            refine W.loadO (p := .int .i64 b7) rfl rfl rfl rfl ?_
            refine W.guardT rfl c13 ?_
            refine W.eql rfl rfl ?_
            refine W.pickT rfl rfl rfl c13 ?_
            refine W.nil ?_
            exact ⟨(decide (b7 = 0)), h, Wk.nrmTo [0, 2, 5, 6, 31] [(10200, 10300), (10201, 10301)] rfl rfl⟩
          · replace h := iteF h c13
            refine W.guardF1 rfl c13 ?_
            refine W.guardF1 rfl c13 ?_
            refine W.guardF1 rfl c13 ?_
            refine W.pickN rfl rfl rfl c13 ?_
            refine W.nil ?_
            exact ⟨false, h, Wk.nrmTo [0, 2, 5, 6, 31] [(10200, 10300), (10201, 10301)] rfl rfl⟩
        · intro x10 h
          try dsimp only at h ⊢
          unfold ref6_BomFault_j1 at h
          refine Ev.cond rfl (fun c6 => ?_) (fun c6 => ?_)
          · replace h := iteT h c6
            refine Ev.skip ?_
            refine Ev.seqJ (γ := Int × Int) (fun v => ⟨[(0, .list 2 (List.map SPathDigest.cells a0)), (2, .pown 10400 0 0 0), (5, .pown 10401 0 0 0), (6, .int .i64 x9)], [(10400, ⟨0, 25, 2, [[.int .i64 0, .int .i64 0]], true, false, false⟩), (10401, ⟨0, 25, 2, [[.int .i64 v.1, .int .i64 v.2]], true, false, false⟩)], 2⟩) (fun v => ref6_BomFault_j2 n x9 (ref6_BomFault_l2 n a0 m2) v.1 v.2 = some r) ?_ ?_
            · refine Ev.block ?_
              refine Ev.seqJ (γ := Bool) (fun v => ⟨[(0, .list 2 (List.map SPathDigest.cells a0)), (2, .pown 10500 0 0 0), (5, .pown 10501 0 0 0), (6, .int .i64 x9), (48, .bool v)], [(10500, ⟨0, 25, 2, [[.int .i64 0, .int .i64 0]], true, false, false⟩), (10501, ⟨0, 25, 2, [[.int .i64 b7, .int .i64 b8]], true, false, false⟩)], 2⟩) (fun v => ref6_BomFault_j3 n b7 b8 x9 (ref6_BomFault_l2 n a0 m2) v = some r) ?_ ?_
              · refine W.reg hm ?_
                refine W.mv rfl ?_
                refine W.mv rfl ?_
                obtain ⟨e16, k10, h⟩ := obind h
                refine W.idxL (c := SPathDigest.cells) rfl rfl k10 ?_
                refine W.fieldAddr rfl ?_
                refine W.load rfl rfl ?_
                refine W.neq rfl rfl ?_
                refine W.mv rfl ?_
                refine W.split 40 rfl (fun c11 => ?_) (fun c11 => ?_)
                · replace h := iteT h c11
                  refine W.guardT rfl c11 ?_
                  refine W.mv rfl ?_
                  refine W.guardT rfl c11 ?_
                  refine W.mv rfl ?_
                  refine W.guardT rfl c11 ?_
                  refine W.idxL (c := SPathDigest.cells) rfl rfl k10 ?_
                  refine W.guardT rfl c11 ?_
                  refine W.fieldAddr rfl ?_
                  refine W.guardT rfl c11 ?_
                  refine W.load rfl rfl ?_
                  refine W.guardT rfl c11 ?_
                  obtain ⟨r17, k12, h⟩ := obind h
                  refine W.call (ref5_IsDigest_spec n e16.Digest r17 k12) rfl rfl (Les.refl _) rfl (.inl rfl) rfl ?_
                  refine W.guardT rfl c11 ?_
                  refine W.not rfl ?_
                  refine W.pickT rfl rfl rfl c11 ?_
                  refine W.nil ?_
                  exact ⟨(!r17), h, Wk.nrmTo [0, 2, 5, 6, 48] [(10300, 10500), (10301, 10501)] rfl rfl⟩
                · replace h := iteF h c11
                  refine W.guardF1 rfl c11 ?_
                  refine W.guardF1 rfl c11 ?_
                  refine W.guardF1 rfl c11 ?_
                  refine W.guardF1 rfl c11 ?_
                  refine W.guardF1 rfl c11 ?_
                  refine W.guardF1 rfl c11 ?_
                  refine W.guardF1 rfl c11 ?_
                  refine W.pickN rfl rfl rfl c11 ?_
                  refine W.nil ?_
                  exact ⟨false, h, Wk.nrmTo [0, 2, 5, 6, 48] [(10300, 10500), (10301, 10501)] rfl rfl⟩
              · intro x14 h
                try dsimp only at h ⊢
                unfold ref6_BomFault_j3 at h
                refine Ev.cond rfl (fun c8 => ?_) (fun c8 => ?_)
                · replace h := iteT h c8
                  refine W.reg hm ?_
                  refine W.mv rfl ?_
                  obtain ⟨r15, k9, h⟩ := obind h
                  refine W.call (ref6_fault_spec n 3 x9 r15 k9) rfl rfl (Les.refl _) rfl (.inl rfl) rfl ?_
                  refine W.store (es' := [[.int .i64 r15.Code, .int .i64 r15.Index]]) (dt := true) rfl rfl rfl rfl rfl (Nat.le_of_ble_eq_true rfl) rfl rfl rfl rfl ?_
                  refine W.nil ?_
                  exact ⟨(r15.Code, r15.Index), h, Wk.nrmTo [0, 2, 5, 6] [(10500, 10400), (10501, 10401)] rfl rfl⟩
                · replace h := iteF h c8
                  refine Ev.skip ?_
                  exact ⟨(b7, b8), h, Wk.nrmTo [0, 2, 5, 6] [(10500, 10400), (10501, 10401)] rfl rfl⟩
            · intro ⟨b11, b12⟩ h
              try dsimp only at h ⊢
              unfold ref6_BomFault_j2 at h
              refine W.reg hm ?_
              refine W.mv rfl ?_
              obtain ⟨x13, k7, h⟩ := obind h
              refine W.addG rfl rfl k7 ?_
              refine W.mv rfl ?_
              refine W.nil ?_
              exact ⟨(m2, b11, b12, x13), h, Nat.lt_succ_self _, Wk.nrmTo [0, 2, 5, 6] [(10400, 10200), (10401, 10201)] rfl rfl⟩
          · replace h := iteF h c6
            refine Ev.exit ?_
            refine Ev.seq ?_
            refine W.reg hm ?_
            refine W.loadO (p := .agg [.int .i64 b7, .int .i64 b8]) rfl rfl rfl rfl ?_
            refine W.store (es' := [[.int .i64 b7, .int .i64 b8]]) (dt := true) rfl rfl rfl rfl rfl (Nat.le_of_ble_eq_true rfl) rfl rfl rfl rfl ?_
            refine W.nil ?_
            refine Ev.ret ?_
            injection h with h; subst h
            exact ⟨_, rfl, .refl _⟩
theorem law6_fault_spec (n : Nat) (a0 : Int) (a1 : Int) (r : SCodeIndex) (h : law6_fault n a0 a1 = some r) : PSpec Tryd.prog 19 [.int .i64 a0, .int .i64 a1] (.agg (SCodeIndex.cells r)) := by
  unfold law6_fault at h
  refine spec_of Tryd.c_law6_fault (by simp) ?_
  unfold Tryd.l_law6_fault
  refine Ev.seq ?_
  refine W.reg hm ?_
  refine W.alloc (dt := true) rfl rfl rfl ?_
  refine W.nil ?_
  refine Ev.seq ?_
  refine W.reg hm ?_
  refine W.mv rfl ?_
  refine W.mv rfl ?_
  refine W.build (cs := [.int .i64 a0, .int .i64 a1]) rfl rfl rfl ?_
  refine W.store (es' := [[.int .i64 a0, .int .i64 a1]]) (dt := true) rfl rfl rfl rfl rfl (Nat.le_of_ble_eq_true rfl) rfl rfl rfl rfl ?_
  refine W.nil ?_
  refine Ev.ret ?_
  injection h with h; subst h
  exact ⟨_, rfl, .refl _⟩
theorem signing_IsDigest_spec (n : Nat) (a0 : Int) (r : Bool) (h : signing_IsDigest n a0 = some r) : PSpec Tryd.prog 52 [.int .i64 a0] (.bool r) := by
  unfold signing_IsDigest at h
  refine spec_of Tryd.c_signing_IsDigest (by simp) ?_
  unfold Tryd.l_signing_IsDigest
  refine Ev.seq ?_
  refine W.reg hm ?_
  refine W.mv rfl ?_
  refine W.nil ?_
  refine Ev.seqJ (γ := Bool) (fun v => ⟨[(2, .bool v)], [], 2⟩) (fun v => signing_IsDigest_j1 n v = some r) ?_ ?_
  · refine W.reg hm ?_
    refine W.mv rfl ?_
    refine W.geq rfl rfl ?_
    refine W.mv rfl ?_
    refine W.split 5 rfl (fun c1 => ?_) (fun c1 => ?_)
    · replace h := iteT h c1
      refine W.guardT rfl c1 ?_
      refine W.mv rfl ?_
      refine W.guardT rfl c1 ?_
      refine W.lss rfl rfl ?_
      refine W.pickT rfl rfl rfl c1 ?_
      refine W.mv rfl ?_
      refine W.nil ?_
      exact ⟨(decide (a0 < 2305843009213693951)), h, Wk.nrmTo [2] [] rfl rfl⟩
    · replace h := iteF h c1
      refine W.guardF1 rfl c1 ?_
      refine W.guardF1 rfl c1 ?_
      refine W.pickN rfl rfl rfl c1 ?_
      refine W.mv rfl ?_
      refine W.nil ?_
      exact ⟨false, h, Wk.nrmTo [2] [] rfl rfl⟩
  · intro x1 h
    try dsimp only at h ⊢
    unfold signing_IsDigest_j1 at h
    refine Ev.ret ?_
    injection h with h; subst h
    exact ⟨_, rfl, .refl _⟩
theorem treepatch_ValidPath_spec (n : Nat) (a0 : List UInt8) (r : Bool) (h : treepatch_ValidPath n a0 = some r) : PSpec Tryd.prog 110 [.str a0] (.bool r) := by
  unfold treepatch_ValidPath at h
  injection h with h
  subst h
  exact k_ValidPath a0
set_option maxHeartbeats 4000000 in
theorem bom_Validate_spec (n : Nat) (a0 : List SPathDigest) (r : SCodeIndex) (h : bom_Validate n a0 = some r) : PSpec Tryd.prog 36 [.list 2 (List.map SPathDigest.cells a0)] (.agg (SCodeIndex.cells r)) := by
  unfold bom_Validate at h
  refine spec_of Tryd.c_bom_Validate (by simp) ?_
  unfold Tryd.l_bom_Validate
  refine Ev.seq ?_
  refine W.reg hm ?_
  refine W.box (dt := true) (cs := [.list 2 (List.map SPathDigest.cells a0)]) rfl rfl rfl rfl rfl rfl ?_
  refine W.alloc (dt := true) rfl rfl rfl ?_
  refine W.nil ?_
  refine Ev.seq ?_
  refine Ev.seq ?_
  refine Ev.regS rfl ?_
  refine Sq.w 3 (Nat.le_of_ble_eq_true rfl) ?_
  refine W.loadO (p := .list 2 (List.map SPathDigest.cells a0)) rfl rfl rfl rfl ?_
  refine W.lenL (c := SPathDigest.cells) rfl ?_
  refine W.mkfn rfl ?_
  refine W.nil ?_
  refine Sq.weak (st' := ⟨[(1, .pown 10000 0 0 0), (2, .pown 10001 0 0 0), (7, .int .i64 (a0.length : Int)), (8, .fn 77 [] [.pown 10000 0 0 0])], [(10000, ⟨0, 63, 1, [[.list 2 (List.map SPathDigest.cells a0)]], true, false, false⟩), (10001, ⟨0, 25, 2, [[.int .i64 0, .int .i64 0]], true, false, false⟩)], 2⟩) ?_ (Wk.nrmTo [1, 2, 7, 8] [(1, 10000), (2, 10001)] rfl rfl)
  refine Sq.call rfl Tryd.c_bom_checkPaths ⟨_, rfl, Nat.le_of_ble_eq_true rfl, ?_⟩
  unfold Tryd.l_bom_checkPaths
  refine Ev.retJ (γ := Int × Int) (fun v => ⟨[(4, .pown 10100 0 0 0), (65537, .pown 10101 0 0 0), (65538, .pown 10102 0 0 0)], [(10100, ⟨0, 25, 2, [[.int .i64 v.1, .int .i64 v.2]], true, false, false⟩), (10101, ⟨0, 63, 1, [[.list 2 (List.map SPathDigest.cells a0)]], true, false, false⟩), (10102, ⟨0, 25, 2, [[.int .i64 0, .int .i64 0]], true, false, false⟩)], 2⟩) (fun v => bom_Validate_j1 n a0 v.1 v.2 = some r) ?_ ?_
  · refine Ev.seq ?_
    refine W.reg hm ?_
    refine W.alloc (dt := true) rfl rfl rfl ?_
    refine W.nil ?_
    refine Ev.seq ?_
    refine Ev.seq ?_
    refine W.reg hm ?_
    refine W.mv rfl ?_
    refine W.gtr rfl rfl ?_
    refine W.nil ?_
    refine Ev.cond rfl (fun c8 => ?_) (fun c8 => ?_)
    · replace h := iteT h c8
      refine Ev.seq ?_
      refine W.reg hm ?_
      refine W.build (cs := [.int .i64 2, .int .i64 (-1)]) rfl rfl rfl ?_
      refine W.store (es' := [[.int .i64 2, .int .i64 (-1)]]) (dt := true) rfl rfl rfl rfl rfl (Nat.le_of_ble_eq_true rfl) rfl rfl rfl rfl ?_
      refine W.nil ?_
      refine Ev.ret ?_
      exact ⟨(2, (-1)), h, Wk.nrmTo [4, 65537, 65538] [(4, 10100), (10000, 10101), (10001, 10102)] rfl rfl⟩
    · replace h := iteF h c8
      refine Ev.skip ?_
      refine Ev.seq ?_
      refine Ev.seq ?_
      refine W.reg hm ?_
      refine W.mv rfl ?_
      refine W.mv rfl ?_
      refine W.nil ?_
      refine Ev.block ?_
      refine Ev.loopW (β := Nat × Int) (fun v => ⟨[(1, .fn 77 [] [.pown 10200 0 0 0]), (4, .pown 10201 0 0 0), (9, .int .i64 (a0.length : Int)), (10, .int .i64 v.2), (65537, .pown 10200 0 0 0), (65538, .pown 10202 0 0 0)], [(10200, ⟨0, 63, 1, [[.list 2 (List.map SPathDigest.cells a0)]], true, false, false⟩), (10201, ⟨0, 25, 2, [[.int .i64 0, .int .i64 0]], true, false, false⟩), (10202, ⟨0, 25, 2, [[.int .i64 0, .int .i64 0]], true, false, false⟩)], 2⟩) (fun v => bom_Validate_l2 n a0 v.1 v.2 = some r) (fun v => v.1) (n, 0) (Wk.nrmTo [1, 4, 9, 10, 65537, 65538] [(10000, 10200), (4, 10201), (10001, 10202)] rfl rfl) h ?_
      intro ⟨m2, x8⟩ h
      try dsimp only at h ⊢
      cases m2 with
      | zero => rw [bom_Validate_l2] at h; cases h
      | succ m2 =>
        rw [bom_Validate_l2] at h
        refine Ev.seq ?_
        refine W.reg hm ?_
        refine W.lss rfl rfl ?_
        refine W.nil ?_
        refine Ev.seq ?_
        refine Ev.cond rfl (fun c9 => ?_) (fun c9 => ?_)
        · replace h := iteT h c9
          refine Ev.skip ?_
          refine Ev.seq ?_
          refine Ev.block ?_
          refine Ev.seq ?_
          refine W.reg hm ?_
          refine W.mv rfl ?_
          refine W.mv rfl ?_
          refine W.nil ?_
          refine Ev.seq ?_
          refine Ev.seq ?_
          refine Ev.regS rfl ?_
          refine Sq.w 2 (Nat.le_of_ble_eq_true rfl) ?_
          refine W.mv rfl ?_
          refine W.mv rfl ?_
          refine W.nil ?_
          refine Sq.callv (f := 77) rfl Tryd.b_bom_Validate_1 Tryd.c_bom_Validate_1 ⟨_, _, _, rfl, Nat.le_of_ble_eq_true rfl, ?_⟩
          unfold Tryd.l_bom_Validate_1
          refine Ev.retJ (γ := List UInt8) (fun v => ⟨[(3, .str v), (65537, .fn 77 [] [.pown 10300 0 0 0]), (65540, .pown 10301 0 0 0), (65541, .int .i64 x8), (65545, .int .i64 (a0.length : Int)), (65546, .int .i64 x8), (131073, .pown 10300 0 0 0), (131074, .pown 10302 0 0 0)], [(10300, ⟨0, 63, 1, [[.list 2 (List.map SPathDigest.cells a0)]], true, false, false⟩), (10301, ⟨0, 25, 2, [[.int .i64 0, .int .i64 0]], true, false, false⟩), (10302, ⟨0, 25, 2, [[.int .i64 0, .int .i64 0]], true, false, false⟩)], 2⟩) (fun v => bom_Validate_j3 n a0 x8 (bom_Validate_l2 n a0 m2) v = some r) ?_ ?_
          · refine Ev.seq ?_
            refine W.reg hm ?_
            refine W.mv rfl ?_
            refine W.nil ?_
            refine Ev.seq ?_
            refine W.reg hm ?_
            refine W.loadO (p := .list 2 (List.map SPathDigest.cells a0)) rfl rfl rfl rfl ?_
            refine W.mv rfl ?_
            obtain ⟨e18, k18, h⟩ := obind h
            refine W.idxL (c := SPathDigest.cells) rfl rfl k18 ?_
            refine W.fieldAddr rfl ?_
            refine W.load rfl rfl ?_
            refine W.mv rfl ?_
            refine W.nil ?_
            refine Ev.ret ?_
            exact ⟨e18.Path, h, Wk.nrmTo [3, 65537, 65540, 65541, 65545, 65546, 131073, 131074] [(10200, 10300), (10201, 10301), (10202, 10302)] rfl rfl⟩
          · intro x9 h
            try dsimp only at h ⊢
            unfold bom_Validate_j3 at h
            refine ⟨_, rfl, ?_⟩
            refine Sq.wEnd (Nat.le_of_ble_eq_true rfl) ?_
            obtain ⟨r10, k10, h⟩ := obind h
            refine W.call (treepatch_ValidPath_spec n x9 r10 k10) rfl rfl (Les.refl _) rfl (.inl rfl) rfl ?_
            refine W.not rfl ?_
            refine W.nil ?_
            refine Ev.cond rfl (fun c11 => ?_) (fun c11 => ?_)
            · replace h := iteT h c11
              refine Ev.seq ?_
              refine W.reg hm ?_
              refine W.mv rfl ?_
              refine W.build (cs := [.int .i64 12, .int .i64 x8]) rfl rfl rfl ?_
              refine W.store (es' := [[.int .i64 12, .int .i64 x8]]) (dt := true) rfl rfl rfl rfl rfl (Nat.le_of_ble_eq_true rfl) rfl rfl rfl rfl ?_
              refine W.nil ?_
              refine Ev.ret ?_
              exact ⟨(12, x8), h, Wk.nrmTo [4, 65537, 65538] [(10301, 10100), (10300, 10101), (10302, 10102)] rfl rfl⟩
            · replace h := iteF h c11
              refine Ev.skip ?_
              refine Ev.seqJ (γ := Bool) (fun v => ⟨[(1, .fn 77 [] [.pown 10400 0 0 0]), (4, .pown 10401 0 0 0), (5, .int .i64 x8), (9, .int .i64 (a0.length : Int)), (10, .int .i64 x8), (31, .bool v), (65537, .pown 10400 0 0 0), (65538, .pown 10402 0 0 0)], [(10400, ⟨0, 63, 1, [[.list 2 (List.map SPathDigest.cells a0)]], true, false, false⟩), (10401, ⟨0, 25, 2, [[.int .i64 0, .int .i64 0]], true, false, false⟩), (10402, ⟨0, 25, 2, [[.int .i64 0, .int .i64 0]], true, false, false⟩)], 2⟩) (fun v => bom_Validate_j4 n a0 x8 (bom_Validate_l2 n a0 m2) v = some r) ?_ ?_
              · refine Ev.regS rfl ?_
                refine Sq.w 5 (Nat.le_of_ble_eq_true rfl) ?_
                refine W.mv rfl ?_
                refine W.gtr rfl rfl ?_
                refine W.mv rfl ?_
                refine W.split 22 rfl (fun c14 => ?_) (fun c14 => ?_)
                · replace h := iteT h c14
                  refine W.guardT rfl c14 ?_
                  refine W.mv rfl ?_
                  refine W.guardT rfl c14 ?_
                  refine W.mv rfl ?_
                  refine W.nil ?_
                  refine Sq.callvG (f := 77) rfl Tryd.b_bom_Validate_1 Tryd.c_bom_Validate_1 (lookT rfl c14) ⟨_, _, _, rfl, Nat.le_of_ble_eq_true rfl, ?_⟩
                  unfold Tryd.l_bom_Validate_1
                  refine Ev.retJ (γ := List UInt8) (fun v => ⟨[(3, .str v), (65537, .fn 77 [] [.pown 10500 0 0 0]), (65540, .pown 10501 0 0 0), (65541, .int .i64 x8), (65545, .int .i64 (a0.length : Int)), (65546, .int .i64 x8), (65558, .bool (decide (0 < x8))), (65559, .fn 77 [] [.pown 10500 0 0 0]), (65560, .int .i64 x8), (131073, .pown 10500 0 0 0), (131074, .pown 10502 0 0 0)], [(10500, ⟨0, 63, 1, [[.list 2 (List.map SPathDigest.cells a0)]], true, false, false⟩), (10501, ⟨0, 25, 2, [[.int .i64 0, .int .i64 0]], true, false, false⟩), (10502, ⟨0, 25, 2, [[.int .i64 0, .int .i64 0]], true, false, false⟩)], 2⟩) (fun v => bom_Validate_j5 n a0 x8 (bom_Validate_l2 n a0 m2) v = some r) ?_ ?_
                  · refine Ev.seq ?_
                    refine W.reg hm ?_
                    refine W.mv rfl ?_
                    refine W.nil ?_
                    refine Ev.seq ?_
                    refine W.reg hm ?_
                    refine W.loadO (p := .list 2 (List.map SPathDigest.cells a0)) rfl rfl rfl rfl ?_
                    refine W.mv rfl ?_
                    obtain ⟨e17, k17, h⟩ := obind h
                    refine W.idxL (c := SPathDigest.cells) rfl rfl k17 ?_
                    refine W.fieldAddr rfl ?_
                    refine W.load rfl rfl ?_
                    refine W.mv rfl ?_
                    refine W.nil ?_
                    refine Ev.ret ?_
                    exact ⟨e17.Path, h, Wk.nrmTo [3, 65537, 65540, 65541, 65545, 65546, 65558, 65559, 65560, 131073, 131074] [(10300, 10500), (10301, 10501), (10302, 10502)] rfl rfl⟩
                  · intro x13 h
                    try dsimp only at h ⊢
                    unfold bom_Validate_j5 at h
                    refine ⟨_, rfl, ?_⟩
                    refine Sq.w 3 (Nat.le_of_ble_eq_true rfl) ?_
                    refine W.guardT rfl c14 ?_
                    refine W.mv rfl ?_
                    refine W.guardT rfl c14 ?_
                    refine W.mv rfl ?_
                    refine W.guardT rfl c14 ?_
                    obtain ⟨x14, k15, h⟩ := obind h
                    refine W.subG rfl rfl k15 ?_
                    refine W.nil ?_
                    refine Sq.callvG (f := 77) rfl Tryd.b_bom_Validate_1 Tryd.c_bom_Validate_1 (lookT rfl c14) ⟨_, _, _, rfl, Nat.le_of_ble_eq_true rfl, ?_⟩
                    unfold Tryd.l_bom_Validate_1
                    refine Ev.retJ (γ := List UInt8) (fun v => ⟨[(3, .str v), (65537, .fn 77 [] [.pown 10600 0 0 0]), (65540, .pown 10601 0 0 0), (65541, .int .i64 x8), (65545, .int .i64 (a0.length : Int)), (65546, .int .i64 x8), (65558, .bool (decide (0 < x8))), (65559, .fn 77 [] [.pown 10600 0 0 0]), (65560, .int .i64 x8), (65561, .str x13), (65562, .fn 77 [] [.pown 10600 0 0 0]), (65563, .int .i64 x8), (65564, .int .i64 x14), (131073, .pown 10600 0 0 0), (131074, .pown 10602 0 0 0)], [(10600, ⟨0, 63, 1, [[.list 2 (List.map SPathDigest.cells a0)]], true, false, false⟩), (10601, ⟨0, 25, 2, [[.int .i64 0, .int .i64 0]], true, false, false⟩), (10602, ⟨0, 25, 2, [[.int .i64 0, .int .i64 0]], true, false, false⟩)], 2⟩) (fun v => bom_Validate_j6 n a0 x8 (bom_Validate_l2 n a0 m2) x13 v = some r) ?_ ?_
                    · refine Ev.seq ?_
                      refine W.reg hm ?_
                      refine W.mv rfl ?_
                      refine W.nil ?_
                      refine Ev.seq ?_
                      refine W.reg hm ?_
                      refine W.loadO (p := .list 2 (List.map SPathDigest.cells a0)) rfl rfl rfl rfl ?_
                      refine W.mv rfl ?_
                      obtain ⟨e16, k16, h⟩ := obind h
                      refine W.idxL (c := SPathDigest.cells) rfl rfl k16 ?_
                      refine W.fieldAddr rfl ?_
                      refine W.load rfl rfl ?_
                      refine W.mv rfl ?_
                      refine W.nil ?_
                      refine Ev.ret ?_
                      exact ⟨e16.Path, h, Wk.nrmTo [3, 65537, 65540, 65541, 65545, 65546, 65558, 65559, 65560, 65561, 65562, 65563, 65564, 131073, 131074] [(10500, 10600), (10501, 10601), (10502, 10602)] rfl rfl⟩
                    · intro x15 h
                      try dsimp only at h ⊢
                      unfold bom_Validate_j6 at h
                      refine ⟨_, rfl, ?_⟩
                      refine Sq.wEnd (Nat.le_of_ble_eq_true rfl) ?_
                      refine W.guardT rfl c14 ?_
                      refine W.sleq rfl rfl ?_
                      refine W.pickT rfl rfl rfl c14 ?_
                      refine W.nil ?_
                      exact ⟨(Op.bytesLess x13 x15 || x13 == x15), h, Wk.nrmTo [1, 4, 5, 9, 10, 31, 65537, 65538] [(10600, 10400), (10601, 10401), (10602, 10402)] rfl rfl⟩
                · replace h := iteF h c14
                  refine W.guardF1 rfl c14 ?_
                  refine W.guardF1 rfl c14 ?_
                  refine W.nil ?_
                  refine Sq.off rfl (.inl (lookT rfl c14)) ?_
                  refine Sq.w 3 (Nat.le_of_ble_eq_true rfl) ?_
                  refine W.guardF1 rfl c14 ?_
                  refine W.guardF1 rfl c14 ?_
                  refine W.guardF1 rfl c14 ?_
                  refine W.nil ?_
                  refine Sq.off rfl (.inl (lookT rfl c14)) ?_
                  refine Sq.wEnd (Nat.le_of_ble_eq_true rfl) ?_
                  refine W.guardF1 rfl c14 ?_
                  refine W.pickN rfl rfl rfl c14 ?_
                  refine W.nil ?_
                  exact ⟨false, h, Wk.nrmTo [1, 4, 5, 9, 10, 31, 65537, 65538] [(10300, 10400), (10301, 10401), (10302, 10402)] rfl rfl⟩
              · intro x11 h
                try dsimp only at h ⊢
                unfold bom_Validate_j4 at h
                refine Ev.cond rfl (fun c12 => ?_) (fun c12 => ?_)
                · replace h := iteT h c12
                  refine Ev.seq ?_
                  refine W.reg hm ?_
                  refine W.mv rfl ?_
                  refine W.build (cs := [.int .i64 5, .int .i64 x8]) rfl rfl rfl ?_
                  refine W.store (es' := [[.int .i64 5, .int .i64 x8]]) (dt := true) rfl rfl rfl rfl rfl (Nat.le_of_ble_eq_true rfl) rfl rfl rfl rfl ?_
                  refine W.nil ?_
                  refine Ev.ret ?_
                  exact ⟨(5, x8), h, Wk.nrmTo [4, 65537, 65538] [(10401, 10100), (10400, 10101), (10402, 10102)] rfl rfl⟩
                · replace h := iteF h c12
                  refine Ev.skip ?_
                  refine W.reg hm ?_
                  obtain ⟨x12, k13, h⟩ := obind h
                  refine W.addG rfl rfl k13 ?_
                  refine W.mv rfl ?_
                  refine W.nil ?_
                  exact ⟨(m2, x12), h, Nat.lt_succ_self _, Wk.nrmTo [1, 4, 9, 10, 65537, 65538] [(10400, 10200), (10401, 10201), (10402, 10202)] rfl rfl⟩
        · replace h := iteF h c9
          refine Ev.exit ?_
          refine Ev.seq ?_
          refine W.reg hm ?_
          refine W.build (cs := [.int .i64 0, .int .i64 0]) rfl rfl rfl ?_
          refine W.store (es' := [[.int .i64 0, .int .i64 0]]) (dt := true) rfl rfl rfl rfl rfl (Nat.le_of_ble_eq_true rfl) rfl rfl rfl rfl ?_
          refine W.nil ?_
          refine Ev.ret ?_
          exact ⟨(0, 0), h, Wk.nrmTo [4, 65537, 65538] [(10201, 10100), (10200, 10101), (10202, 10102)] rfl rfl⟩
  · intro ⟨b1, b2⟩ h
    try dsimp only at h ⊢
    unfold bom_Validate_j1 at h
    refine ⟨_, rfl, ?_⟩
    refine Sq.wEnd (Nat.le_of_ble_eq_true rfl) ?_
    refine W.alloc (dt := true) rfl rfl rfl ?_
    refine W.store (es' := [[.int .i64 b1, .int .i64 b2]]) (dt := true) rfl rfl rfl rfl rfl (Nat.le_of_ble_eq_true rfl) rfl rfl rfl rfl ?_
    refine W.nil ?_
    refine Ev.seq ?_
    refine W.reg hm ?_
    refine W.loadO (p := .agg [.int .i64 b1, .int .i64 b2]) rfl rfl rfl rfl ?_
    refine W.build (cs := [.int .i64 0, .int .i64 0]) rfl rfl rfl ?_
    refine W.eqs rfl rfl rfl ?_
    refine W.nil ?_
    refine Ev.cond rfl (fun c1 => ?_) (fun c1 => ?_)
    · replace h := iteT h c1
      refine Ev.seq ?_
      refine W.reg hm ?_
      refine W.loadO (p := .agg [.int .i64 b1, .int .i64 b2]) rfl rfl rfl rfl ?_
      refine W.store (es' := [[.int .i64 b1, .int .i64 b2]]) (dt := true) rfl rfl rfl rfl rfl (Nat.le_of_ble_eq_true rfl) rfl rfl rfl rfl ?_
      refine W.nil ?_
      refine Ev.ret ?_
      injection h with h; subst h
      exact ⟨_, rfl, .refl _⟩
    · replace h := iteF h c1
      refine Ev.skip ?_
      refine Ev.seq ?_
      refine Ev.seq ?_
      refine W.reg hm ?_
      refine W.loadO (p := .list 2 (List.map SPathDigest.cells a0)) rfl rfl rfl rfl ?_
      refine W.lenL (c := SPathDigest.cells) rfl ?_
      refine W.mv rfl ?_
      refine W.nil ?_
      refine Ev.block ?_
      refine Ev.loopW (β := Nat × Int) (fun v => ⟨[(2, .pown 10200 0 0 0), (14, .list 2 (List.map SPathDigest.cells a0)), (15, .int .i64 (a0.length : Int)), (16, .int .i64 v.2)], [(10200, ⟨0, 25, 2, [[.int .i64 0, .int .i64 0]], true, false, false⟩)], 2⟩) (fun v => bom_Validate_l1 n a0 v.1 v.2 = some r) (fun v => v.1) (n, 0) (Wk.nrmTo [2, 14, 15, 16] [(10102, 10200)] rfl rfl) h ?_
      intro ⟨m1, x3⟩ h
      try dsimp only at h ⊢
      cases m1 with
      | zero => rw [bom_Validate_l1] at h; cases h
      | succ m1 =>
        rw [bom_Validate_l1] at h
        refine Ev.seq ?_
        refine W.reg hm ?_
        refine W.lss rfl rfl ?_
        refine W.nil ?_
        refine Ev.seq ?_
        refine Ev.cond rfl (fun c2 => ?_) (fun c2 => ?_)
        · replace h := iteT h c2
          refine Ev.skip ?_
          refine Ev.seq ?_
          refine Ev.block ?_
          refine Ev.seq ?_
          refine W.reg hm ?_
          refine W.mv rfl ?_
          obtain ⟨e4, k3, h⟩ := obind h
          refine W.idxL (c := SPathDigest.cells) rfl rfl k3 ?_
          refine W.load rfl rfl ?_
          refine W.alloc (dt := true) rfl rfl rfl ?_
          refine W.mv rfl ?_
          refine W.store (es' := [[.str e4.Path, .int .i64 e4.Digest]]) (dt := true) rfl rfl rfl rfl rfl (Nat.le_of_ble_eq_true rfl) rfl rfl rfl rfl ?_
          refine W.nil ?_
          refine Ev.seqJ (γ := Bool) (fun v => ⟨[(2, .pown 10300 0 0 0), (4, .int .i64 x3), (14, .list 2 (List.map SPathDigest.cells a0)), (15, .int .i64 (a0.length : Int)), (16, .int .i64 x3), (29, .bool v)], [(10300, ⟨0, 25, 2, [[.int .i64 0, .int .i64 0]], true, false, false⟩)], 2⟩) (fun v => bom_Validate_j2 n x3 (bom_Validate_l1 n a0 m1) v = some r) ?_ ?_
          · refine W.reg hm ?_
            refine W.fieldAddrO rfl rfl ?_
            refine W.loadO (p := .int .i64 e4.Digest) rfl rfl rfl rfl ?_
            refine W.neq rfl rfl ?_
            refine W.mv rfl ?_
            refine W.split 24 rfl (fun c6 => ?_) (fun c6 => ?_)
            · replace h := iteT h c6
              refine W.guardT rfl c6 ?_
              refine W.fieldAddrO rfl rfl ?_
              refine W.guardT rfl c6 ?_
              refine W.loadO (p := .int .i64 e4.Digest) rfl rfl rfl rfl ?_
              refine W.guardT rfl c6 ?_
              obtain ⟨r7, k7, h⟩ := obind h
              refine W.call (signing_IsDigest_spec n e4.Digest r7 k7) rfl rfl (Les.refl _) rfl (.inl rfl) rfl ?_
              refine W.guardT rfl c6 ?_
              refine W.not rfl ?_
              refine W.pickT rfl rfl rfl c6 ?_
              refine W.nil ?_
              exact ⟨(!r7), h, Wk.nrmTo [2, 4, 14, 15, 16, 29] [(10200, 10300)] rfl rfl⟩
            · replace h := iteF h c6
              refine W.guardF1 rfl c6 ?_
              refine W.guardF1 rfl c6 ?_
              refine W.guardF1 rfl c6 ?_
              refine W.guardF1 rfl c6 ?_
              refine W.pickN rfl rfl rfl c6 ?_
              refine W.nil ?_
              exact ⟨false, h, Wk.nrmTo [2, 4, 14, 15, 16, 29] [(10200, 10300)] rfl rfl⟩
          · intro x5 h
            try dsimp only at h ⊢
            unfold bom_Validate_j2 at h
            refine Ev.cond rfl (fun c4 => ?_) (fun c4 => ?_)
            · replace h := iteT h c4
              refine Ev.seq ?_
              refine W.reg hm ?_
              refine W.mv rfl ?_
              refine W.build (cs := [.int .i64 3, .int .i64 x3]) rfl rfl rfl ?_
              refine W.store (es' := [[.int .i64 3, .int .i64 x3]]) (dt := true) rfl rfl rfl rfl rfl (Nat.le_of_ble_eq_true rfl) rfl rfl rfl rfl ?_
              refine W.nil ?_
              refine Ev.ret ?_
              injection h with h; subst h
              exact ⟨_, rfl, .refl _⟩
            · replace h := iteF h c4
              refine Ev.skip ?_
              refine W.reg hm ?_
              obtain ⟨x6, k5, h⟩ := obind h
              refine W.addG rfl rfl k5 ?_
              refine W.mv rfl ?_
              refine W.nil ?_
              exact ⟨(m1, x6), h, Nat.lt_succ_self _, Wk.nrmTo [2, 14, 15, 16] [(10300, 10200)] rfl rfl⟩
        · replace h := iteF h c2
          refine Ev.exit ?_
          refine Ev.seq ?_
          refine W.reg hm ?_
          refine W.build (cs := [.int .i64 0, .int .i64 0]) rfl rfl rfl ?_
          refine W.store (es' := [[.int .i64 0, .int .i64 0]]) (dt := true) rfl rfl rfl rfl rfl (Nat.le_of_ble_eq_true rfl) rfl rfl rfl rfl ?_
          refine W.nil ?_
          refine Ev.ret ?_
          injection h with h; subst h
          exact ⟨_, rfl, .refl _⟩
theorem strings_IndexByte_spec (n : Nat) (a0 : List UInt8) (a1 : Int) (r : Int) (h : strings_IndexByte n a0 a1 = some r) : PSpec Tryd.prog 118 [.str a0, .int .u8 a1] (.int .i64 r) := by
  unfold strings_IndexByte at h
  injection h with h
  subst h
  exact k_IndexByte a0 a1
end Go.Proofs.YtlkknmhhefjmjaaDoor
