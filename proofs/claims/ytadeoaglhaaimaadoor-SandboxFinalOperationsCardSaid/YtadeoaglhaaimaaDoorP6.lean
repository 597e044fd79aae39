/- The plain laws: the faults of actions and trees are as specified. -/
import Derived.Test.YtadeoaglhaaimaaDoorP5
namespace Go.Proofs.YtadeoaglhaaimaaDoor
open Go.PW Go

theorem opCode_eq (o : SKindText) : ref6_opCode 200 o = sandbox_checkOp 200 o := by
  obtain ⟨r, h1, _⟩ := linesV [o.Text]
  have h2 : ref6_lineCode 200 [o.Text] = some r.Code := by rw [lineCode_eq, h1]; rfl
  unfold ref6_opCode sandbox_checkOp ref6_opCode_j1 ref6_opCode_j2 sandbox_checkOp_j2 sandbox_checkOp_j3 sandbox_checkOp_j1 treepatch_ValidPath
  rw [pathValid_eq]
  simp only [bsome, h1, h2]
  by_cases k1 : o.Kind = 1 <;> by_cases k2 : o.Kind = 2 <;> by_cases k3 : o.Kind = 3 <;> by_cases k4 : o.Kind = 4 <;> by_cases k5 : o.Kind = 5 <;> simp [k1, k2, k3, k4, k5]

theorem action_l2 (a : SInputsOpsOutput) (hl : a.Ops.length ≤ 16) : ∀ (m i : Nat), ref6_ActionFault_l2 200 a m (i : Int) = sandbox_Validate_l2 200 a m (i : Int) := by
  intro m
  induction m with
  | zero => intro i; rfl
  | succ m ih =>
    intro i
    rw [ref6_ActionFault_l2, sandbox_Validate_l2]
    unfold ref6_fault
    by_cases hi : i < a.Ops.length
    · rw [if_pos (lt_dec hi), if_pos (lt_dec hi), gidx_nat, getElem?_lt hi]
      simp only [bsome, opCode_eq]
      obtain ⟨r, h1⟩ := checkOp_ok a.Ops[i]
      rw [h1]
      simp only [bsome, gsubI (show -9223372036854775808 ≤ (-3 : Int) - (i : Int) ∧ (-3 : Int) - (i : Int) < 9223372036854775808 by omega), gadd_nat (show i < 1000000 by omega), ih (i + 1)]
    · rw [if_neg (nlt_dec hi), if_neg (nlt_dec hi)]
theorem action_l1 (a : SInputsOpsOutput) (hl : a.Inputs.length ≤ 8) (ho : a.Ops.length ≤ 16) : ∀ (m i : Nat), ref6_ActionFault_l1 200 a m (i : Int) = sandbox_Validate_l1 200 a m (i : Int) := by
  intro m
  induction m with
  | zero => intro i; rfl
  | succ m ih =>
    intro i
    rw [ref6_ActionFault_l1, sandbox_Validate_l1]
    unfold treepatch_ValidPath ref6_fault
    by_cases hi : i < a.Inputs.length
    · rw [if_pos (lt_dec hi), if_pos (lt_dec hi), gidx_nat, getElem?_lt hi]
      have tail : ∀ b : Bool, ref6_ActionFault_j2 200 (i : Int) (ref6_ActionFault_l1 200 a m) b = sandbox_Validate_j2 200 (i : Int) (sandbox_Validate_l1 200 a m) b := by
        intro b
        unfold ref6_ActionFault_j2 sandbox_Validate_j2 ref6_fault
        simp only [bsome, gadd_nat (show i < 1000000 by omega), ih (i + 1)]
      simp only [bsome, pathValid_eq, tail]
    · rw [if_neg (nlt_dec hi), if_neg (nlt_dec hi)]
      simp only [bsome, pathValid_eq]
      have := action_l2 a ho 200 0
      rw [show ref6_ActionFault_l2 200 a 200 0 = sandbox_Validate_l2 200 a 200 0 from this]
theorem action_eq (a : SInputsOpsOutput) : ref6_ActionFault 200 a = sandbox_Validate 200 a := by
  unfold ref6_ActionFault sandbox_Validate ref6_ActionFault_j1 sandbox_Validate_j1 ref6_fault
  by_cases h1 : 8 < a.Inputs.length
  · have d1 : decide ((8 : Int) < (a.Inputs.length : Int)) = true := by simp; omega
    simp only [d1, bsome, ↓reduceIte]
  · have d1 : decide ((8 : Int) < (a.Inputs.length : Int)) = false := by simp; omega
    by_cases h2 : 16 < a.Ops.length
    · have d2 : decide ((16 : Int) < (a.Ops.length : Int)) = true := by simp; omega
      simp only [d1, d2, bsome, ↓reduceIte, Bool.false_eq_true]
    · have d2 : decide ((16 : Int) < (a.Ops.length : Int)) = false := by simp; omega
      simp only [d1, d2, bsome, ↓reduceIte, Bool.false_eq_true]
      exact action_l1 a (by omega) (by omega) 200 0

theorem clash_eq (l : List SPathLines) (x : List UInt8) (hl : l.length < 100000) (hx : x.length < big) (hf : ∀ f ∈ l, f.Path.length < big) : ∀ (m i : Nat), l.length - i < m → treepatch_Clash_l1 200 l x (-1) m (i : Int) = some (decide (∃ f ∈ l.drop i, Rel f.Path x)) := by
  intro m
  induction m with
  | zero => intro i h; omega
  | succ m ih =>
    intro i h
    rw [treepatch_Clash_l1]
    unfold treepatch_Clash_j1
    by_cases hi : i < l.length
    · rw [if_pos (lt_dec hi), gidx_nat, getElem?_lt hi, bsome, if_pos (by simp), related_eq _ _ _ (hf _ (List.getElem_mem hi)) hx, bsome, gadd_nat (by omega), bsome, ih (i + 1) (by omega)]
      by_cases hr : Rel l[i].Path x
      · rw [if_pos (by simp [hr])]
        congr 1; symm; rw [decide_eq_true_eq]
        exact ⟨l[i], by rw [List.drop_eq_getElem_cons hi]; exact List.mem_cons_self, hr⟩
      · rw [if_neg (by simp [hr])]
        congr 1; rw [decide_eq_decide, List.drop_eq_getElem_cons hi]
        constructor
        · rintro ⟨f, hm, h2⟩; exact ⟨f, List.mem_cons_of_mem _ hm, h2⟩
        · rintro ⟨f, hm, h2⟩
          rcases List.mem_cons.1 hm with rfl | hm
          · exact absurd h2 hr
          · exact ⟨f, hm, h2⟩
    · rw [if_neg (nlt_dec hi), List.drop_eq_nil_of_le (by omega)]
      simp
theorem tf_l2 (t : SFiles) (k : Nat) (lp : Int → Option SCodeIndex) (e : SPathLines) (hl : t.Files.length ≤ 24) (hk : k ≤ t.Files.length) : ∀ (m j : Nat), k - j < m → j ≤ k →
    ref2_TreeFault_l2 200 t (k : Int) lp e m (j : Int) = if ∃ f ∈ (t.Files.take k).drop j, Rel f.Path e.Path then some ⟨7, k⟩ else ((ref1_LinesCode 200 e.Lines).bind fun r13 => if (decide (r13 ≠ 0)) = true then some ⟨r13, k⟩ else lp ((k + 1 : Nat) : Int)) := by
  intro m
  induction m with
  | zero => intro j h; omega
  | succ m ih =>
    intro j h hj
    rw [ref2_TreeFault_l2]
    unfold ref1_At
    by_cases hi : j < k
    · have hjl : j < t.Files.length := by omega
      have hlt : j < (t.Files.take k).length := by simp; omega
      have hg : (t.Files.take k)[j] = t.Files[j] := by simp
      rw [if_pos (lt_dec hi), gidx_nat, getElem?_lt hjl, bsome, related2_eq, gadd_nat (by omega)]
      simp only [bsome]
      rw [ih (j + 1) (by omega) (by omega), List.drop_eq_getElem_cons hlt, hg]
      by_cases hr : Rel t.Files[j].Path e.Path
      · rw [if_pos (by simp [hr]), if_pos ⟨_, List.mem_cons_self, hr⟩]
      · rw [if_neg (by simp [hr])]
        by_cases hx : ∃ f ∈ (t.Files.take k).drop (j + 1), Rel f.Path e.Path
        · obtain ⟨f, hm, h2⟩ := hx
          rw [if_pos ⟨f, hm, h2⟩, if_pos ⟨f, List.mem_cons_of_mem _ hm, h2⟩]
        · rw [if_neg hx, if_neg]
          rintro ⟨f, hm, h2⟩
          rcases List.mem_cons.1 hm with rfl | hm
          · exact hr h2
          · exact hx ⟨f, hm, h2⟩
    · rw [if_neg (nlt_dec hi), List.drop_eq_nil_of_le (by simp; omega), if_neg (by simp)]
      simp only [bsome, gadd_nat (show k < 1000000 by omega)]
theorem tree_l1 (t : SFiles) (hl : t.Files.length ≤ 24) (hf : ∀ f ∈ t.Files, f.Path.length < big) : ∀ (m i : Nat), ref2_TreeFault_l1 200 t m (i : Int) = treepatch_Validate_l1 200 t m (i : Int) := by
  intro m
  induction m with
  | zero => intro i; rfl
  | succ m ih =>
    intro i
    rw [ref2_TreeFault_l1, treepatch_Validate_l1]
    unfold treepatch_ValidPath ref1_At
    by_cases hi : i < t.Files.length
    · rw [if_pos (lt_dec hi), if_pos (lt_dec hi), gidx_nat, getElem?_lt hi]
      have tail : ∀ b : Bool, ref2_TreeFault_j1 200 t (i : Int) (ref2_TreeFault_l1 200 t m) t.Files[i] b = treepatch_Validate_j1 200 t (i : Int) (treepatch_Validate_l1 200 t m) t.Files[i] b := by
        intro b
        unfold ref2_TreeFault_j1 treepatch_Validate_j1 ref1_At
        cases b with
        | true => rw [if_pos rfl, if_pos rfl, bsome]
        | false =>
          rw [if_neg (by simp), if_neg (by simp)]
          have h1 := tf_l2 t i (ref2_TreeFault_l1 200 t m) t.Files[i] hl (by omega) 200 0 (by omega) (by omega)
          have h2 := clash_eq (t.Files.take i) t.Files[i].Path (by simp; omega) (hf _ (List.getElem_mem hi)) (fun f h => hf f (List.mem_of_mem_take h)) 200 0 (by simp; omega)
          have h2' : treepatch_Clash 200 (t.Files.take i) t.Files[i].Path (-1) = some (decide (∃ f ∈ t.Files.take i, Rel f.Path t.Files[i].Path)) := by unfold treepatch_Clash; simpa using h2
          have h1' : ref2_TreeFault_l2 200 t (i : Int) (ref2_TreeFault_l1 200 t m) t.Files[i] 200 0 = _ := h1
          rw [h1', gcut_take (by omega), bsome, h2', bsome, List.drop_zero]
          by_cases hx : ∃ f ∈ t.Files.take i, Rel f.Path t.Files[i].Path
          · rw [if_pos hx, if_pos (by simpa using hx)]
          · rw [if_neg hx, if_neg (by simpa using hx)]
            obtain ⟨r, h3, h4⟩ := linesV t.Files[i].Lines
            unfold ref1_LinesCode lines_Second
            rw [linesFault_eq, h3, bsome, bsome, bsome]
            rcases h4 with rfl | h4
            · rw [if_neg (by simp), if_neg fault_none, bsome, if_neg fault_none, gadd_nat (by omega), bsome]
              exact ih (i + 1)
            · rw [if_pos (by simp [h4]), if_pos (fault_ne h4), bsome, if_pos (fault_ne (r := ⟨r.Code, (i : Int)⟩) h4)]
      simp only [bsome, pathValid_eq, tail]
    · rw [if_neg (nlt_dec hi), if_neg (nlt_dec hi)]
theorem tree_eq (t : SFiles) (hf : ∀ f ∈ t.Files, f.Path.length < big) : ref2_TreeFault 200 t = treepatch_Validate 200 t := by
  unfold ref2_TreeFault treepatch_Validate ref1_At
  by_cases h : 24 < t.Files.length
  · rw [if_pos (by simp; omega), if_pos (by simp; omega), bsome]
  · rw [if_neg (by simp; omega), if_neg (by simp; omega)]
    exact tree_l1 t (by omega) hf 200 0
theorem treeV_ok (t : SFiles) (hf : ∀ f ∈ t.Files, f.Path.length < big) : ∃ r, treepatch_Validate 200 t = some r ∧ Fine r := by
  unfold treepatch_Validate
  split
  · exact ⟨_, rfl, .inr (by simp)⟩
  · rename_i h
    simp at h
    exact treeV_l t (by omega) hf 200 0 (by omega)
theorem runFault_eq (a : SInputsOpsOutput) (t : SFiles) (hf : ∀ f ∈ t.Files, f.Path.length < big) : ref6_RunFault 200 a t = sandbox_Arguments 200 a t := by
  obtain ⟨r, h1, h2, _⟩ := validate_ok a
  obtain ⟨q, h3, h4⟩ := treeV_ok t hf
  unfold ref6_RunFault sandbox_Arguments ref6_RunFault_j1 ref6_TreeAt ref6_TreeAt_j1 treepatch_Second
  rw [action_eq, h1, bsome, bsome, tree_eq t hf, h3, bsome, bsome]
  rcases h2 with rfl | h2
  · rw [if_pos (by simp), if_neg fault_none]
    rcases h4 with rfl | h4
    · rw [if_neg (by simp), if_neg fault_none]
    · rw [if_pos (by simp [h4]), if_pos (fault_ne h4)]
  · rw [if_neg (by simp [h2]), if_pos (fault_ne h2)]
end Go.Proofs.YtadeoaglhaaimaaDoor
