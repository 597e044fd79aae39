/- The plain laws: a beginning of the operations of an action that succeeds succeeds, too. -/
import Derived.Test.YtadeoaglhaaimaaDoorP6
namespace Go.Proofs.YtadeoaglhaaimaaDoor
open Go.PW Go

theorem rev_ex (n : Nat) (x3 : Int) (N : Nat) (hN : N ≤ 120) : ∀ (m i j : Nat) (w : List (List UInt8)), w.length = N → j ≤ N → j - i < m → i ≤ N →
    ∃ w', w'.length = N ∧ ∀ lp, sandbox_Run_l2 n x3 lp m w (i : Int) ((j : Int) - 1) = sandbox_Run_j1 n x3 lp w' 0 := by
  intro m
  induction m with
  | zero => intro i j w _ _ h; omega
  | succ m ih =>
    intro i j w hw hj h hi
    by_cases hij : i + 1 < j
    · have e1 : ((j : Int) - 1) = ((j - 1 : Nat) : Int) := by omega
      obtain ⟨w', h1, h2⟩ := ih (i + 1) (j - 1) ((w.set i (w[j - 1]'(by omega))).set (j - 1) (w[i]'(by omega))) (by simp; omega) (by omega) (by omega) (by omega)
      refine ⟨w', h1, fun lp => ?_⟩
      rw [sandbox_Run_l2, if_pos (by simp; omega), e1, gidx_nat, getElem?_lt (show j - 1 < w.length by omega), bsome, gidx_nat, getElem?_lt (show i < w.length by omega), bsome, gset_nat, gidx_nat,
        getElem?_lt (show j - 1 < (w.set i w[j - 1]).length by simp; omega), bsome, gadd_nat (by omega), bsome, gsubI (by omega), bsome, gset_nat]
      exact h2 lp
    · refine ⟨w, hw, fun lp => ?_⟩
      rw [sandbox_Run_l2, if_neg (by simp; omega)]
      rfl

theorem one_ex (i : Int) (w : List (List UInt8)) (hw : w.length ≤ 120) (x : List UInt8) : ∃ w' c, (∀ lp, ((gadd (w.length : Int) (([x] : List (List UInt8)).length : Int)).bind fun x14 => if (decide (120 < x14)) = true then sandbox_Run_j1 200 i lp [] 10 else (gapp 16 w [x]).bind fun w15 => sandbox_Run_j1 200 i lp w15 0) = sandbox_Run_j1 200 i lp w' c) ∧ (c = 0 → w'.length ≤ 120) := by
  by_cases hc : 120 < w.length + 1
  · refine ⟨[], 10, fun lp => ?_, by simp⟩
    rw [gaddI (by simp; omega), bsome, if_pos (by simp; omega)]
  · refine ⟨w ++ [x], 0, fun lp => ?_, fun _ => by simp; omega⟩
    rw [gaddI (by simp; omega), bsome, if_neg (by simp; omega), gapp_ok (by simp; omega), bsome]
theorem step_ex (t : SFiles) (hf : ∀ f ∈ t.Files, f.Lines.length ≤ reachBytes) (w : List (List UInt8)) (hw : w.length ≤ 120) (i : Int) (o : SKindText) (k : Nat) (b den : Bool) (h2 : b = true → k < t.Files.length) :
    ∃ w' c, (∀ lp, sandbox_Run_j2 200 t w i lp o ((k : Int), b) den = sandbox_Run_j1 200 i lp w' c) ∧ (c = 0 → w'.length ≤ 120) := by
  unfold sandbox_Run_j2 sandbox_Run_j3 sandbox_Run_j4 sandbox_Run_j5 sandbox_Run_j6
  cases den with
  | true => exact ⟨[], 13, fun lp => if_pos rfl, by simp⟩
  | false =>
    simp only [Bool.false_eq_true, ↓reduceIte]
    by_cases k1 : o.Kind = 1
    · simp only [k1, decide_true, ↓reduceIte]
      cases b with
      | false => exact ⟨[], 6, fun lp => if_pos (by simp), by simp⟩
      | true =>
        have hk := h2 rfl
        have hb := hf _ (List.getElem_mem hk)
        unfold reachBytes at hb
        by_cases hc : 120 < w.length + (t.Files[k]'hk).Lines.length
        · refine ⟨[], 10, fun lp => ?_, by simp⟩
          rw [if_neg (by simp), gidx_nat, getElem?_lt hk, bsome, gaddI (by omega), bsome, if_pos (by simp; omega)]
        · refine ⟨w ++ (t.Files[k]'hk).Lines, 0, fun lp => ?_, fun _ => by simp; omega⟩
          rw [if_neg (by simp), gidx_nat, getElem?_lt hk, bsome, gaddI (by omega), bsome, if_neg (by simp; omega), gapp_ok (by omega), bsome]
    · simp only [k1, decide_false, Bool.false_eq_true, ↓reduceIte]
      by_cases k2 : o.Kind = 2
      · simp only [k2, decide_true, ↓reduceIte]
        cases b with
        | false => simpa using one_ex i w hw [110, 111]
        | true => simpa using one_ex i w hw [121, 101, 115]
      · simp only [k2, decide_false, Bool.false_eq_true, ↓reduceIte]
        by_cases k3 : o.Kind = 3
        · simp only [k3, decide_true, ↓reduceIte]
          exact one_ex i w hw _
        · simp only [k3, decide_false, Bool.false_eq_true, ↓reduceIte]
          by_cases k4 : o.Kind = 4
          · simp only [k4, decide_true, ↓reduceIte]
            obtain ⟨w', h3, h4⟩ := rev_ex 200 i w.length hw 200 0 w.length w rfl (by omega) (by omega) (by omega)
            refine ⟨w', 0, fun lp => ?_, fun _ => by omega⟩
            rw [gsubI (by omega), bsome]
            exact h4 lp
          · simp only [k4, decide_false, Bool.false_eq_true, ↓reduceIte]
            obtain ⟨r, h3, h4⟩ := unique_l w hw 200 0 [] (by omega) (by simp) (by omega)
            have h3' : sandbox_unique 200 w = some r := h3
            refine ⟨r, 0, fun lp => ?_, fun _ => by omega⟩
            rw [h3', bsome]
theorem iter_ex (ins : List (List UInt8)) (t : SFiles) (hi : ins.length ≤ 8) (ht : t.Files.length ≤ 24) (hf : ∀ f ∈ t.Files, f.Lines.length ≤ reachBytes) (w : List (List UInt8)) (hw : w.length ≤ 120) (i : Nat) (o : SKindText) :
    ∃ w' c, (∀ (a : SInputsOpsOutput) (m : Nat), a.Inputs = ins → a.Ops[i]? = some o → sandbox_Run_l1 200 a t (m + 1) w (i : Int) = sandbox_Run_j1 200 (i : Int) (sandbox_Run_l1 200 a t m) w' c) ∧ (c = 0 → w'.length ≤ 120) := by
  obtain ⟨k, b, h1, h2⟩ := find_ok t.Files o.Text ht
  have main : ∀ den : Bool, (∀ (a : SInputsOpsOutput) (m : Nat), a.Inputs = ins → a.Ops[i]? = some o → sandbox_Run_l1 200 a t (m + 1) w (i : Int) = sandbox_Run_j2 200 t w (i : Int) (sandbox_Run_l1 200 a t m) o ((k : Int), b) den) →
      ∃ w' c, (∀ (a : SInputsOpsOutput) (m : Nat), a.Inputs = ins → a.Ops[i]? = some o → sandbox_Run_l1 200 a t (m + 1) w (i : Int) = sandbox_Run_j1 200 (i : Int) (sandbox_Run_l1 200 a t m) w' c) ∧ (c = 0 → w'.length ≤ 120) := by
    intro den hd
    obtain ⟨w', c, h3, h4⟩ := step_ex t hf w hw i o k b den h2
    exact ⟨w', c, fun a m ha ho => (hd a m ha ho).trans (h3 _), h4⟩
  by_cases hk : o.Kind = 1 ∨ o.Kind = 2
  · refine main (!decide (o.Text ∈ ins)) fun a m ha ho => ?_
    have hl : i < a.Ops.length := (List.getElem?_eq_some_iff.1 ho).1
    rw [sandbox_Run_l1, if_pos (lt_dec hl), gidx_nat, ho, bsome, h1, bsome, ha, contains_eq _ _ (by omega)]
    simp only [bsome]
    rcases hk with hk | hk
    · rw [if_pos (by simp [hk])]
    · rw [if_neg (by simp [hk]), if_pos (by simp [hk])]
  · refine main false fun a m ha ho => ?_
    have hl : i < a.Ops.length := (List.getElem?_eq_some_iff.1 ho).1
    rw [sandbox_Run_l1, if_pos (lt_dec hl), gidx_nat, ho, bsome, h1, bsome, if_neg (by simp; omega), if_neg (by simp; omega)]

theorem run_end (a : SInputsOpsOutput) (t : SFiles) (m i : Nat) (w : List (List UInt8)) (h : a.Ops.length ≤ i) : sandbox_Run_l1 200 a t (m + 1) w (i : Int) = some (w, ⟨0, 0⟩) := by
  rw [sandbox_Run_l1, if_neg (nlt_dec (by omega))]

end Go.Proofs.YtadeoaglhaaimaaDoor
