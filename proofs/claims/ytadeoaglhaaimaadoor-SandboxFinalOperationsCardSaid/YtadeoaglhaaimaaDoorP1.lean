/- The plain laws: what the functions hand back is there, and what it says. -/
import Derived.Test.YtadeoaglhaaimaaDoorD
import Derived.Test.YtadeoaglhaaimaaDoorPwPlain
import Derived.KernelRfl
namespace Go.Proofs.YtadeoaglhaaimaaDoor
open Go.PW Go

theorem runs_eq : law6_runs 200 = some true := by kernel_rfl

theorem lt_dec {i : Nat} {k : Nat} (h : i < k) : (decide ((i : Int) < (k : Int))) = true := by simp; omega
theorem nlt_dec {i : Nat} {k : Nat} (h : ¬ i < k) : ¬ (decide ((i : Int) < (k : Int))) = true := by simp; omega

theorem index_l (n : Nat) (l : List (List UInt8)) (x : List UInt8) (hl : l.length < 100000) : ∀ (m i : Nat), l.length - i < m → ∃ r, slices_Index_string_l1 n l x m (i : Int) = some r ∧ (0 ≤ r ↔ x ∈ l.drop i) := by
  intro m
  induction m with
  | zero => intro i h; omega
  | succ m ih =>
    intro i h
    rw [slices_Index_string_l1]
    by_cases hi : i < l.length
    · rw [if_pos (lt_dec hi), gidx_nat, getElem?_lt hi, bsome]
      by_cases he : x = l[i]
      · rw [if_pos (by simp [he])]
        refine ⟨_, rfl, ?_⟩
        rw [List.drop_eq_getElem_cons hi]
        simp only [List.mem_cons, he, true_or, iff_true]
        omega
      · rw [if_neg (by simp [he]), gadd_nat (by omega), bsome]
        obtain ⟨r, h1, h2⟩ := ih (i + 1) (by omega)
        refine ⟨r, h1, ?_⟩
        rw [h2, List.drop_eq_getElem_cons hi]
        simp only [List.mem_cons, he, false_or]
    · rw [if_neg (nlt_dec hi)]
      refine ⟨_, rfl, ?_⟩
      rw [List.drop_eq_nil_of_le (by omega)]
      simp
theorem contains_eq (l : List (List UInt8)) (x : List UInt8) (hl : l.length < 200) : slices_Contains_string 200 l x = some (decide (x ∈ l)) := by
  obtain ⟨r, h1, h2⟩ := index_l 200 l x (by omega) 200 0 (by omega)
  have h1' : slices_Index_string_l1 200 l x 200 0 = some r := h1
  unfold slices_Contains_string slices_Index_string
  rw [h1', bsome]
  simp only [List.drop_zero] at h2
  simp [h2]

theorem hasString_l (n : Nat) (l : List (List UInt8)) (x : List UInt8) (hl : l.length < 100000) : ∀ (m i : Nat), l.length - i < m → ref6_HasString_l1 n l x m (i : Int) = some (decide (x ∈ l.drop i)) := by
  intro m
  induction m with
  | zero => intro i h; omega
  | succ m ih =>
    intro i h
    rw [ref6_HasString_l1]
    by_cases hi : i < l.length
    · rw [if_pos (lt_dec hi), gidx_nat, getElem?_lt hi, bsome, List.drop_eq_getElem_cons hi]
      by_cases he : l[i] = x
      · rw [if_pos (by simp [he])]
        simp [he]
      · rw [if_neg (by simp [he]), gadd_nat (by omega), bsome]
        rw [ih (i + 1) (by omega)]
        have : x ≠ l[i] := fun e => he e.symm
        simp only [List.mem_cons, this, false_or]
    · rw [if_neg (nlt_dec hi), List.drop_eq_nil_of_le (by omega)]
      simp
theorem hasString_eq (l : List (List UInt8)) (x : List UInt8) (hl : l.length < 200) : ref6_HasString 200 l x = some (decide (x ∈ l)) := by
  have := hasString_l 200 l x (by omega) 200 0 (by omega)
  unfold ref6_HasString
  simpa using this

/-- a fault: none, or a code -/
def Fine (r : SCodeIndex) : Prop := r = ⟨0, 0⟩ ∨ r.Code ≠ 0
theorem Fine.none : Fine ⟨0, 0⟩ := .inl rfl
theorem fault_ne {r : SCodeIndex} (h : r.Code ≠ 0) : ((r.Code == 0 && (r.Index == 0 && true)) != true) = true := by simp [h]
theorem fault_none : ¬ (((⟨0, 0⟩ : SCodeIndex).Code == 0 && ((⟨0, 0⟩ : SCodeIndex).Index == 0 && true)) != true) = true := by decide

theorem linesV_l (n : Nat) (l : List (List UInt8)) (hl : l.length < 100000) : ∀ (m i : Nat), l.length - i < m → ∃ r, lines_Validate_l1 n l m (i : Int) = some r ∧ Fine r := by
  intro m
  induction m with
  | zero => intro i h; omega
  | succ m ih =>
    intro i h
    rw [lines_Validate_l1]
    by_cases hi : i < l.length
    · rw [if_pos (lt_dec hi), gidx_nat, getElem?_lt hi, bsome]
      split
      · exact ⟨_, rfl, .inr (by simp)⟩
      · unfold strings_IndexByte
        rw [bsome]
        split
        · exact ⟨_, rfl, .inr (by simp)⟩
        · rw [gadd_nat (by omega), bsome]
          exact ih (i + 1) (by omega)
    · rw [if_neg (nlt_dec hi)]
      exact ⟨_, rfl, .none⟩
theorem linesV (l : List (List UInt8)) : ∃ r, lines_Validate 200 l = some r ∧ Fine r := by
  unfold lines_Validate
  split
  · exact ⟨_, rfl, .inr (by simp)⟩
  · rename_i h
    simp at h
    exact linesV_l 200 l (by omega) 200 0 (by omega)
theorem linesSecond (l : List (List UInt8)) (k : Int) : ∃ r, lines_Second 200 l k = some r ∧ Fine r := by
  obtain ⟨r, h1, h2⟩ := linesV l
  unfold lines_Second
  rw [h1, bsome]
  rcases h2 with rfl | h2
  · rw [if_neg fault_none]; exact ⟨_, rfl, .none⟩
  · rw [if_pos (fault_ne h2)]; exact ⟨_, rfl, .inr h2⟩

theorem prefix_ok (n : Nat) (a b : List UInt8) : ∃ r, strings_HasPrefix n a b = some r := by
  unfold strings_HasPrefix internal_stringslite_HasPrefix internal_stringslite_HasPrefix_j1
  split
  · rename_i h
    simp at h
    rw [gcut_take h, bsome, bsome]
    exact ⟨_, rfl⟩
  · exact ⟨_, rfl⟩
theorem related_ok (n : Nat) (a b : List UInt8) (ha : a.length < big) (hb : b.length < big) : ∃ r, treepatch_Related n a b = some r := by
  unfold treepatch_Related treepatch_Related_j1
  split
  · exact ⟨_, rfl⟩
  · obtain ⟨r1, h1⟩ := prefix_ok n a (b ++ [47])
    obtain ⟨r2, h2⟩ := prefix_ok n b (a ++ [47])
    have g1 : gcat b [47] = some (b ++ [47]) := by unfold gcat; rw [if_pos (by simp; omega)]
    have g2 : gcat a [47] = some (a ++ [47]) := by unfold gcat; rw [if_pos (by simp; omega)]
    rw [g1, bsome, h1, bsome, g2, bsome, h2, bsome]
    split <;> exact ⟨_, rfl⟩
theorem clash_l (n : Nat) (l : List SPathLines) (x : List UInt8) (k : Int) (hl : l.length < 100000) (hx : x.length < big) (hf : ∀ f ∈ l, f.Path.length < big) : ∀ (m i : Nat), l.length - i < m → ∃ r, treepatch_Clash_l1 n l x k m (i : Int) = some r := by
  intro m
  induction m with
  | zero => intro i h; omega
  | succ m ih =>
    intro i h
    rw [treepatch_Clash_l1]
    unfold treepatch_Clash_j1
    by_cases hi : i < l.length
    · rw [if_pos (lt_dec hi), gidx_nat, getElem?_lt hi, bsome, gadd_nat (by omega), bsome]
      obtain ⟨r, hr⟩ := related_ok n l[i].Path x (hf _ (List.getElem_mem hi)) hx
      have hI := ih (i + 1) (by omega)
      split
      · rw [hr, bsome]
        split
        · exact ⟨_, rfl⟩
        · exact hI
      · rw [if_neg (by simp)]; exact hI
    · rw [if_neg (nlt_dec hi)]; exact ⟨_, rfl⟩

theorem treeV_l (t : SFiles) (hl : t.Files.length ≤ 24) (hf : ∀ f ∈ t.Files, f.Path.length < big) : ∀ (m i : Nat), t.Files.length - i < m → ∃ r, treepatch_Validate_l1 200 t m (i : Int) = some r ∧ Fine r := by
  intro m
  induction m with
  | zero => intro i h; omega
  | succ m ih =>
    intro i h
    rw [treepatch_Validate_l1]
    by_cases hi : i < t.Files.length
    · rw [if_pos (lt_dec hi), gidx_nat, getElem?_lt hi, bsome]
      unfold treepatch_ValidPath
      rw [bsome]
      have tail : ∀ b : Bool, ∃ r, treepatch_Validate_j1 200 t (i : Int) (treepatch_Validate_l1 200 t m) t.Files[i] b = some r ∧ Fine r := by
        intro b
        unfold treepatch_Validate_j1
        split
        · exact ⟨_, rfl, .inr (by simp)⟩
        · rw [gcut_take (by omega), bsome]
          obtain ⟨r1, h1⟩ := clash_l 200 (t.Files.take i) t.Files[i].Path (-1) (by simp; omega) (hf _ (List.getElem_mem hi)) (fun f h => hf f (List.mem_of_mem_take h)) 200 0 (by simp; omega)
          have h1' : treepatch_Clash 200 (t.Files.take i) t.Files[i].Path (-1) = some r1 := h1
          rw [h1', bsome]
          split
          · exact ⟨_, rfl, .inr (by simp)⟩
          · obtain ⟨r2, h2, h3⟩ := linesSecond t.Files[i].Lines i
            rw [h2, bsome]
            rcases h3 with rfl | h3
            · rw [if_neg fault_none, gadd_nat (by omega), bsome]
              exact ih (i + 1) (by omega)
            · rw [if_pos (fault_ne h3)]; exact ⟨_, rfl, .inr h3⟩
      split
      · exact ⟨_, rfl, .inr (by simp)⟩
      · split
        · rename_i h0
          simp at h0
          rw [gsubI (by omega), bsome]
          have e1 : ((i : Int) - 1) = ((i - 1 : Nat) : Int) := by omega
          rw [e1, gidx_nat, getElem?_lt (by omega), bsome]
          exact tail _
        · exact tail _
    · rw [if_neg (nlt_dec hi)]; exact ⟨_, rfl, .none⟩
theorem second_ok (t : SFiles) (hf : ∀ f ∈ t.Files, f.Path.length < big) (k : Int) : ∃ r, treepatch_Second 200 t k = some r ∧ Fine r ∧ (r = ⟨0, 0⟩ → t.Files.length ≤ 24) := by
  unfold treepatch_Second treepatch_Validate
  split
  · rw [bsome, if_pos (fault_ne (by decide))]
    exact ⟨_, rfl, .inr (by simp), fun h => by cases h⟩
  · rename_i h
    simp at h
    obtain ⟨r, h1, h2⟩ := treeV_l t (by omega) hf 200 0 (by omega)
    have h1' : treepatch_Validate_l1 200 t 200 0 = some r := h1
    rw [h1', bsome]
    rcases h2 with rfl | h2
    · rw [if_neg fault_none]; exact ⟨_, rfl, .none, fun _ => by omega⟩
    · rw [if_pos (fault_ne h2)]; exact ⟨_, rfl, .inr h2, fun _ => by omega⟩

theorem checkOp_ok (o : SKindText) : ∃ r, sandbox_checkOp 200 o = some r := by
  obtain ⟨r, h1, _⟩ := linesV [o.Text]
  unfold sandbox_checkOp sandbox_checkOp_j2 sandbox_checkOp_j3 sandbox_checkOp_j1 treepatch_ValidPath
  simp only [bsome, h1]
  repeat' split
  all_goals exact ⟨_, rfl⟩
theorem validate_l2 (a : SInputsOpsOutput) (hl : a.Ops.length ≤ 16) : ∀ (m i : Nat), a.Ops.length - i < m → ∃ r, sandbox_Validate_l2 200 a m (i : Int) = some r ∧ Fine r := by
  intro m
  induction m with
  | zero => intro i h; omega
  | succ m ih =>
    intro i h
    rw [sandbox_Validate_l2]
    by_cases hi : i < a.Ops.length
    · rw [if_pos (lt_dec hi), gidx_nat, getElem?_lt hi, bsome]
      obtain ⟨r, h1⟩ := checkOp_ok a.Ops[i]
      rw [h1, bsome]
      split
      · rename_i hc
        rw [gsubI (by omega), bsome]
        exact ⟨_, rfl, .inr (by simpa using hc)⟩
      · rw [gadd_nat (by omega), bsome]
        exact ih (i + 1) (by omega)
    · rw [if_neg (nlt_dec hi)]; exact ⟨_, rfl, .none⟩
theorem validate_l1 (a : SInputsOpsOutput) (hl : a.Inputs.length ≤ 8) (ho : a.Ops.length ≤ 16) : ∀ (m i : Nat), a.Inputs.length - i < m → ∃ r, sandbox_Validate_l1 200 a m (i : Int) = some r ∧ Fine r := by
  intro m
  induction m with
  | zero => intro i h; omega
  | succ m ih =>
    intro i h
    rw [sandbox_Validate_l1]
    unfold treepatch_ValidPath
    by_cases hi : i < a.Inputs.length
    · rw [if_pos (lt_dec hi), gidx_nat, getElem?_lt hi, bsome, bsome]
      have tail : ∀ b : Bool, ∃ r, sandbox_Validate_j2 200 (i : Int) (sandbox_Validate_l1 200 a m) b = some r ∧ Fine r := by
        intro b
        unfold sandbox_Validate_j2
        split
        · exact ⟨_, rfl, .inr (by simp)⟩
        · rw [gadd_nat (by omega), bsome]
          exact ih (i + 1) (by omega)
      split
      · exact ⟨_, rfl, .inr (by simp)⟩
      · split
        · rename_i h0
          simp at h0
          rw [gsubI (by omega), bsome]
          have e1 : ((i : Int) - 1) = ((i - 1 : Nat) : Int) := by omega
          rw [e1, gidx_nat, getElem?_lt (by omega), bsome]
          exact tail _
        · exact tail _
    · rw [if_neg (nlt_dec hi), bsome]
      split
      · exact ⟨_, rfl, .inr (by simp)⟩
      · exact validate_l2 a ho 200 0 (by omega)
theorem validate_ok (a : SInputsOpsOutput) : ∃ r, sandbox_Validate 200 a = some r ∧ Fine r ∧ (r = ⟨0, 0⟩ → a.Inputs.length ≤ 8 ∧ a.Ops.length ≤ 16) := by
  unfold sandbox_Validate sandbox_Validate_j1
  by_cases h1 : 8 < a.Inputs.length
  · rw [if_pos (by simp; omega), if_pos rfl]
    exact ⟨_, rfl, .inr (by decide), fun h => by cases h⟩
  · rw [if_neg (by simp; omega)]
    by_cases h2 : 16 < a.Ops.length
    · rw [if_pos (by simp; omega)]
      exact ⟨_, rfl, .inr (by decide), fun h => by cases h⟩
    · rw [if_neg (by simp; omega)]
      obtain ⟨r, h3, h4⟩ := validate_l1 a (by omega) (by omega) 200 0 (by omega)
      exact ⟨r, h3, h4, fun _ => ⟨by omega, by omega⟩⟩
end Go.Proofs.YtadeoaglhaaimaaDoor
