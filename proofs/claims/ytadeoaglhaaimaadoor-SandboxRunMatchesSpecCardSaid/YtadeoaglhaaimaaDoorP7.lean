/- The plain laws: a beginning of the operations of an action that succeeds succeeds, too. -/
import Derived.Test.YtadeoaglhaaimaaDoorP6
namespace Go.Proofs.YtadeoaglhaaimaaDoor
open Go.PW Go

theorem rev_ex (n : Nat) (x3 : Int) (N : Nat) (hN : N ≤ 120) : ∀ (m i j : Nat) (w : List (List UInt8)), w.length = N → j ≤ N → j - i < m → i ≤ N →
    ∃ w', w'.length = N ∧ ∀ lp, sandbox_Run_l2 n x3 lp m w (i : Int) ((j : Int) - 1) = sandbox_Run_j1 n x3 lp w' 0 := by
  intro m
  induction m with
  | zero => intro i j w _ _ h; omega
  | succ m ih =>
    intro i j w hw hj h hi
    by_cases hij : i + 1 < j
    · have e1 : ((j : Int) - 1) = ((j - 1 : Nat) : Int) := by omega
      obtain ⟨w', h1, h2⟩ := ih (i + 1) (j - 1) ((w.set i (w[j - 1]'(by omega))).set (j - 1) (w[i]'(by omega))) (by simp; omega) (by omega) (by omega) (by omega)
      refine ⟨w', h1, fun lp => ?_⟩
      rw [sandbox_Run_l2, if_pos (by simp; omega), e1, gidx_nat, getElem?_lt (show j - 1 < w.length by omega), bsome, gidx_nat, getElem?_lt (show i < w.length by omega), bsome, gset_nat, gidx_nat,
        getElem?_lt (show j - 1 < (w.set i w[j - 1]).length by simp; omega), bsome, gadd_nat (by omega), bsome, gsubI (by omega), bsome, gset_nat]
      exact h2 lp
    · refine ⟨w, hw, fun lp => ?_⟩
      rw [sandbox_Run_l2, if_neg (by simp; omega)]
      rfl

theorem one_ex (i : Int) (w : List (List UInt8)) (hw : w.length ≤ 120) (x : List UInt8) : ∃ w' c, (∀ lp, ((gadd (w.length : Int) (([x] : List (List UInt8)).length : Int)).bind fun x14 => if (decide (120 < x14)) = true then sandbox_Run_j1 200 i lp [] 10 else (gapp 16 w [x]).bind fun w15 => sandbox_Run_j1 200 i lp w15 0) = sandbox_Run_j1 200 i lp w' c) ∧ (c = 0 → w'.length ≤ 120) := by
  by_cases hc : 120 < w.length + 1
  · refine ⟨[], 10, fun lp => ?_, by simp⟩
    rw [gaddI (by simp; omega), bsome, if_pos (by simp; omega)]
  · refine ⟨w ++ [x], 0, fun lp => ?_, fun _ => by simp; omega⟩
    rw [gaddI (by simp; omega), bsome, if_neg (by simp; omega), gapp_ok (by simp; omega), bsome]
theorem step_ex (t : SFiles) (hf : ∀ f ∈ t.Files, f.Lines.length ≤ reachBytes) (w : List (List UInt8)) (hw : w.length ≤ 120) (i : Int) (o : SKindText) (k : Nat) (b den : Bool) (h2 : b = true → k < t.Files.length) :
    ∃ w' c, (∀ lp, sandbox_Run_j2 200 t w i lp o ((k : Int), b) den = sandbox_Run_j1 200 i lp w' c) ∧ (c = 0 → w'.length ≤ 120) := by
  unfold sandbox_Run_j2 sandbox_Run_j3 sandbox_Run_j4 sandbox_Run_j5 sandbox_Run_j6
  cases den with
  | true => exact ⟨[], 13, fun lp => if_pos rfl, by simp⟩
  | false =>
    simp only [Bool.false_eq_true, ↓reduceIte]
    by_cases k1 : o.Kind = 1
    · simp only [k1, decide_true, ↓reduceIte]
      cases b with
      | false => exact ⟨[], 6, fun lp => if_pos (by simp), by simp⟩
      | true =>
        have hk := h2 rfl
        have hb := hf _ (List.getElem_mem hk)
        unfold reachBytes at hb
        by_cases hc : 120 < w.length + (t.Files[k]'hk).Lines.length
        · refine ⟨[], 10, fun lp => ?_, by simp⟩
          rw [if_neg (by simp), gidx_nat, getElem?_lt hk, bsome, gaddI (by omega), bsome, if_pos (by simp; omega)]
        · refine ⟨w ++ (t.Files[k]'hk).Lines, 0, fun lp => ?_, fun _ => by simp; omega⟩
          rw [if_neg (by simp), gidx_nat, getElem?_lt hk, bsome, gaddI (by omega), bsome, if_neg (by simp; omega), gapp_ok (by omega), bsome]
    · simp only [k1, decide_false, Bool.false_eq_true, ↓reduceIte]
      by_cases k2 : o.Kind = 2
      · simp only [k2, decide_true, ↓reduceIte]
        cases b with
        | false => simpa using one_ex i w hw [110, 111]
        | true => simpa using one_ex i w hw [121, 101, 115]
      · simp only [k2, decide_false, Bool.false_eq_true, ↓reduceIte]
        by_cases k3 : o.Kind = 3
        · simp only [k3, decide_true, ↓reduceIte]
          exact one_ex i w hw _
        · simp only [k3, decide_false, Bool.false_eq_true, ↓reduceIte]
          by_cases k4 : o.Kind = 4
          · simp only [k4, decide_true, ↓reduceIte]
            obtain ⟨w', h3, h4⟩ := rev_ex 200 i w.length hw 200 0 w.length w rfl (by omega) (by omega) (by omega)
            refine ⟨w', 0, fun lp => ?_, fun _ => by omega⟩
            rw [gsubI (by omega), bsome]
            exact h4 lp
          · simp only [k4, decide_false, Bool.false_eq_true, ↓reduceIte]
            obtain ⟨r, h3, h4⟩ := unique_l w hw 200 0 [] (by omega) (by simp) (by omega)
            have h3' : sandbox_unique 200 w = some r := h3
            refine ⟨r, 0, fun lp => ?_, fun _ => by omega⟩
            rw [h3', bsome]
theorem iter_ex (ins : List (List UInt8)) (t : SFiles) (hi : ins.length ≤ 8) (ht : t.Files.length ≤ 24) (hf : ∀ f ∈ t.Files, f.Lines.length ≤ reachBytes) (w : List (List UInt8)) (hw : w.length ≤ 120) (i : Nat) (o : SKindText) :
    ∃ w' c, (∀ (a : SInputsOpsOutput) (m : Nat), a.Inputs = ins → a.Ops[i]? = some o → sandbox_Run_l1 200 a t (m + 1) w (i : Int) = sandbox_Run_j1 200 (i : Int) (sandbox_Run_l1 200 a t m) w' c) ∧ (c = 0 → w'.length ≤ 120) := by
  obtain ⟨k, b, h1, h2⟩ := find_ok t.Files o.Text ht
  have main : ∀ den : Bool, (∀ (a : SInputsOpsOutput) (m : Nat), a.Inputs = ins → a.Ops[i]? = some o → sandbox_Run_l1 200 a t (m + 1) w (i : Int) = sandbox_Run_j2 200 t w (i : Int) (sandbox_Run_l1 200 a t m) o ((k : Int), b) den) →
      ∃ w' c, (∀ (a : SInputsOpsOutput) (m : Nat), a.Inputs = ins → a.Ops[i]? = some o → sandbox_Run_l1 200 a t (m + 1) w (i : Int) = sandbox_Run_j1 200 (i : Int) (sandbox_Run_l1 200 a t m) w' c) ∧ (c = 0 → w'.length ≤ 120) := by
    intro den hd
    obtain ⟨w', c, h3, h4⟩ := step_ex t hf w hw i o k b den h2
    exact ⟨w', c, fun a m ha ho => (hd a m ha ho).trans (h3 _), h4⟩
  by_cases hk : o.Kind = 1 ∨ o.Kind = 2
  · refine main (!decide (o.Text ∈ ins)) fun a m ha ho => ?_
    have hl : i < a.Ops.length := (List.getElem?_eq_some_iff.1 ho).1
    rw [sandbox_Run_l1, if_pos (lt_dec hl), gidx_nat, ho, bsome, h1, bsome, ha, contains_eq _ _ (by omega)]
    simp only [bsome]
    rcases hk with hk | hk
    · rw [if_pos (by simp [hk])]
    · rw [if_neg (by simp [hk]), if_pos (by simp [hk])]
  · refine main false fun a m ha ho => ?_
    have hl : i < a.Ops.length := (List.getElem?_eq_some_iff.1 ho).1
    rw [sandbox_Run_l1, if_pos (lt_dec hl), gidx_nat, ho, bsome, h1, bsome, if_neg (by simp; omega), if_neg (by simp; omega)]

theorem run_end (a : SInputsOpsOutput) (t : SFiles) (m i : Nat) (w : List (List UInt8)) (h : a.Ops.length ≤ i) : sandbox_Run_l1 200 a t (m + 1) w (i : Int) = some (w, ⟨0, 0⟩) := by
  rw [sandbox_Run_l1, if_neg (nlt_dec (by omega))]

/-- the action with the first n operations -/
def upTo (a : SInputsOpsOutput) (n : Nat) : SInputsOpsOutput := ⟨a.Inputs, a.Ops.take n, a.Output⟩
theorem sim (a : SInputsOpsOutput) (t : SFiles) (n : Nat) (hn : n ≤ a.Ops.length) (hi : a.Inputs.length ≤ 8) (ho : a.Ops.length ≤ 16) (ht : t.Files.length ≤ 24) (hf : ∀ f ∈ t.Files, f.Lines.length ≤ reachBytes) :
    ∀ (m i : Nat) (w : List (List UInt8)), a.Ops.length - i < m → w.length ≤ 120 → i ≤ n → ∃ x f y g, sandbox_Run_l1 200 a t m w (i : Int) = some (x, f) ∧ sandbox_Run_l1 200 (upTo a n) t m w (i : Int) = some (y, g) ∧
      ((g = ⟨0, 0⟩ ∧ (f = ⟨0, 0⟩ ∨ (f.Code ≠ 0 ∧ ∃ j : Nat, n ≤ j ∧ j < a.Ops.length ∧ f.Index = -3 - j))) ∨ (g = f ∧ f.Code ≠ 0 ∧ ∃ j : Nat, j < n ∧ f.Index = -3 - j)) := by
  intro m
  induction m with
  | zero => intro i w h; omega
  | succ m ih =>
    intro i w h hw hin
    by_cases hlt : i < n
    · have hil : i < a.Ops.length := by omega
      obtain ⟨w', c, h1, h2⟩ := iter_ex a.Inputs t hi ht hf w hw i a.Ops[i]
      rw [h1 a m rfl (getElem?_lt hil), h1 (upTo a n) m rfl (by unfold upTo; simp [hlt, hil])]
      unfold sandbox_Run_j1
      by_cases h0 : c = 0
      · rw [if_neg (by simp [h0]), if_neg (by simp [h0]), gadd_nat (by omega), bsome, bsome]
        exact ih (i + 1) w' (by omega) (h2 h0) (by omega)
      · rw [if_pos (by simp [h0]), if_pos (by simp [h0]), gsubI (by omega), bsome]
        exact ⟨_, _, _, _, rfl, rfl, .inr ⟨rfl, h0, i, hlt, rfl⟩⟩
    · have hie : i = n := by omega
      subst hie
      rw [run_end (upTo a i) t m i w (by unfold upTo; simp; omega)]
      -- the rest of a alone
      have rest : ∀ (m' i' : Nat) (w : List (List UInt8)), a.Ops.length - i' < m' → w.length ≤ 120 → i ≤ i' → ∃ x f, sandbox_Run_l1 200 a t m' w (i' : Int) = some (x, f) ∧ (f = ⟨0, 0⟩ ∨ (f.Code ≠ 0 ∧ ∃ j : Nat, i ≤ j ∧ j < a.Ops.length ∧ f.Index = -3 - j)) := by
        intro m'
        induction m' with
        | zero => intro i' w h; omega
        | succ m' ih' =>
          intro i' w h hw hle
          by_cases hil : i' < a.Ops.length
          · obtain ⟨w', c, h1, h2⟩ := iter_ex a.Inputs t hi ht hf w hw i' a.Ops[i']
            rw [h1 a m' rfl (getElem?_lt hil)]
            unfold sandbox_Run_j1
            by_cases h0 : c = 0
            · rw [if_neg (by simp [h0]), gadd_nat (by omega), bsome]
              exact ih' (i' + 1) w' (by omega) (h2 h0) (by omega)
            · rw [if_pos (by simp [h0]), gsubI (by omega), bsome]
              exact ⟨_, _, rfl, .inr ⟨h0, i', hle, hil, rfl⟩⟩
          · rw [run_end a t m' i' w (by omega)]
            exact ⟨_, _, rfl, .inl rfl⟩
      obtain ⟨x, f, h1, h2⟩ := rest (m + 1) i w h hw (Nat.le_refl _)
      exact ⟨x, f, _, _, h1, rfl, .inl ⟨rfl, h2⟩⟩

/-- the beginning of a valid action is valid -/
theorem upTo_l2 (a : SInputsOpsOutput) (n : Nat) (hl : a.Ops.length ≤ 16) : ∀ (m i : Nat), a.Ops.length - i < m → sandbox_Validate_l2 200 a m (i : Int) = some ⟨0, 0⟩ → sandbox_Validate_l2 200 (upTo a n) m (i : Int) = some ⟨0, 0⟩ := by
  intro m
  induction m with
  | zero => intro i h; omega
  | succ m ih =>
    intro i h h0
    rw [sandbox_Validate_l2] at h0 ⊢
    by_cases hi : i < (upTo a n).Ops.length
    · have hi2 : i < a.Ops.length := by unfold upTo at hi; simp at hi; omega
      have he : (upTo a n).Ops[i] = a.Ops[i] := by
        show (List.take n a.Ops)[i]'_ = _
        exact List.getElem_take
      rw [if_pos (lt_dec hi), gidx_nat, getElem?_lt hi, bsome, he]
      rw [if_pos (lt_dec hi2), gidx_nat, getElem?_lt hi2, bsome] at h0
      obtain ⟨r, h1⟩ := checkOp_ok a.Ops[i]
      rw [h1, bsome] at h0 ⊢
      by_cases hr : r = 0
      · rw [if_neg (by simp [hr]), gadd_nat (by omega), bsome] at h0 ⊢
        exact ih (i + 1) (by omega) h0
      · rw [if_pos (by simp [hr]), gsubI (by omega), bsome] at h0
        injection h0 with h0
        injection h0 with h0 _
        exact absurd h0 hr
    · rw [if_neg (nlt_dec hi)]
theorem upTo_l1 (a : SInputsOpsOutput) (n : Nat) (hl : a.Inputs.length ≤ 8) (ho : a.Ops.length ≤ 16) : ∀ (m i : Nat), a.Inputs.length - i < m → sandbox_Validate_l1 200 a m (i : Int) = some ⟨0, 0⟩ → sandbox_Validate_l1 200 (upTo a n) m (i : Int) = some ⟨0, 0⟩ := by
  intro m
  induction m with
  | zero => intro i h; omega
  | succ m ih =>
    intro i h h0
    rw [sandbox_Validate_l1] at h0 ⊢
    have hI : (upTo a n).Inputs = a.Inputs := rfl
    have hO : (upTo a n).Output = a.Output := rfl
    rw [hI, hO]
    unfold treepatch_ValidPath at h0 ⊢
    by_cases hi : i < a.Inputs.length
    · rw [if_pos (lt_dec hi), gidx_nat, getElem?_lt hi, bsome, bsome] at h0 ⊢
      have tail : ∀ b : Bool, sandbox_Validate_j2 200 (i : Int) (sandbox_Validate_l1 200 a m) b = some ⟨0, 0⟩ → sandbox_Validate_j2 200 (i : Int) (sandbox_Validate_l1 200 (upTo a n) m) b = some ⟨0, 0⟩ := by
        intro b
        unfold sandbox_Validate_j2
        cases b with
        | true => rw [if_pos rfl, if_pos rfl]; exact id
        | false =>
          rw [if_neg (by simp), if_neg (by simp), gadd_nat (by omega), bsome, bsome]
          exact ih (i + 1) (by omega)
      by_cases hv : libValidPath a.Inputs[i] = true
      · rw [if_neg (by simp [hv])] at h0 ⊢
        by_cases hp : 0 < i
        · have e1 : ((i : Int) - 1) = ((i - 1 : Nat) : Int) := by omega
          rw [if_pos (by simp; omega), gsubI (by omega), bsome, e1, gidx_nat, getElem?_lt (by omega), bsome] at h0 ⊢
          exact tail _ h0
        · rw [if_neg (by simp; omega)] at h0 ⊢
          exact tail _ h0
      · rw [if_pos (by simp [hv])] at h0
        injection h0 with h0
        injection h0 with h0 _
        exact absurd h0 (by decide)
    · rw [if_neg (nlt_dec hi), bsome] at h0 ⊢
      by_cases hv : libValidPath a.Output = true
      · rw [if_neg (by simp [hv])] at h0 ⊢
        exact upTo_l2 a n ho 200 0 (by omega) h0
      · rw [if_pos (by simp [hv])] at h0
        injection h0 with h0
        injection h0 with h0 _
        exact absurd h0 (by decide)
theorem upTo_valid (a : SInputsOpsOutput) (n : Nat) (h : sandbox_Validate 200 a = some ⟨0, 0⟩) : sandbox_Validate 200 (upTo a n) = some ⟨0, 0⟩ := by
  obtain ⟨r, h1, h2, h3⟩ := validate_ok a
  have h1 : (⟨0, 0⟩ : SCodeIndex) = r := Option.some.inj (h.symm.trans h1)
  obtain ⟨hi, ho⟩ := h3 h1.symm
  have d1 : decide ((8 : Int) < (a.Inputs.length : Int)) = false := by simp; omega
  have d2 : decide ((16 : Int) < (a.Ops.length : Int)) = false := by simp; omega
  have d3 : decide ((16 : Int) < ((upTo a n).Ops.length : Int)) = false := by unfold upTo; simp; omega
  have d4 : decide ((8 : Int) < ((upTo a n).Inputs.length : Int)) = false := d1
  unfold sandbox_Validate sandbox_Validate_j1 at h ⊢
  simp only [d1, d2, d3, d4, Bool.false_eq_true, ↓reduceIte] at h ⊢
  exact upTo_l1 a n hi ho 200 0 (by omega) h

theorem args_upTo (a : SInputsOpsOutput) (t : SFiles) (n : Nat) (h : sandbox_Arguments 200 a t = some ⟨0, 0⟩) (hv : sandbox_Validate 200 a = some ⟨0, 0⟩) : sandbox_Arguments 200 (upTo a n) t = some ⟨0, 0⟩ := by
  unfold sandbox_Arguments at h ⊢
  rw [upTo_valid a n hv]
  rw [hv] at h
  exact h

theorem Stop_eq (a0 : SInputsOpsOutput) (a1 : SFiles) (a2 : Int) (hf : ∀ f ∈ a1.Files, f.Path.length ≤ reachBytes ∧ f.Lines.length ≤ reachBytes) : law6_SandboxExecutionsStopAtTheFirstError 200 a0 a1 a2 = some true := by
  obtain ⟨r1, h1, h2⟩ := run_ok a0 a1 hf
  unfold law6_SandboxExecutionsStopAtTheFirstError
  rw [h1, bsome, runs_eq, bsome, if_neg (by simp)]
  have hb : ∀ f ∈ a1.Files, f.Path.length < big := fun f h => by have := (hf f h).1; unfold reachBytes at this; unfold big; omega
  obtain ⟨q, h3, h4, h5⟩ := arguments_ok a0 a1 (fun f h => (hf f h).1)
  have main : law6_SandboxExecutionsStopAtTheFirstError_j1 200 a0 a1 a2 r1 false = some true := by
    unfold law6_SandboxExecutionsStopAtTheFirstError_j1
    rw [if_neg (by simp)]
    have hin : law6_in 200 a2 0 (a0.Ops.length : Int) = some (decide (0 ≤ a2) && decide (a2 ≤ (a0.Ops.length : Int))) := by
      unfold law6_in law6_in_j1
      by_cases h : 0 ≤ a2 <;> simp [h]
    rw [hin, bsome]
    by_cases hn : 0 ≤ a2 ∧ a2 ≤ (a0.Ops.length : Int)
    · rw [if_neg (by simp [hn.1, hn.2]), runFault_eq a0 a1 hb, h3, bsome]
      unfold law6_SandboxExecutionsStopAtTheFirstError_j2
      rcases h4 with rfl | h4
      · rw [if_neg (by simp)]
        obtain ⟨hv, hi, ho, ht⟩ := h5 rfl
        obtain ⟨n, rfl⟩ := natOf hn.1
        have hnl : n ≤ a0.Ops.length := by omega
        rw [gcut_take hnl, bsome]
        have hu : (⟨a0.Inputs, a0.Ops.take n, a0.Output⟩ : SInputsOpsOutput) = upTo a0 n := rfl
        obtain ⟨x, f, y, g, s1, s2, s3⟩ := sim a0 a1 n hnl hi ho ht (fun f h => (hf f h).2) 200 0 [] (by omega) (by simp) (by omega)
        have hr1 : r1 = (x, f) := by
          unfold sandbox_Run at h1
          rw [h3, bsome, if_neg fault_none] at h1
          have := h1.symm.trans s1
          injection this
        have hr2 : sandbox_Run 200 (upTo a0 n) a1 = some (y, g) := by
          unfold sandbox_Run
          rw [args_upTo a0 a1 n h3 hv, bsome, if_neg fault_none]
          exact s2
        rw [hu, hr2, bsome, hr1]
        unfold law6_SandboxExecutionsStopAtTheFirstError_j3
        rcases s3 with ⟨rfl, rfl | ⟨c1, j, c2, c3, c4⟩⟩ | ⟨rfl, c1, j, c2, c3⟩
        · simp
        · have e : gsub (-3) (x, f).2.Index = some (-3 - f.Index) := by show gsub (-3) f.Index = _; exact gsubI (by omega)
          rw [if_neg (by simpa using c1), e, bsome]
          have : decide ((n : Int) ≤ -3 - f.Index) = true := by simp; omega
          rw [this, if_pos rfl]
          simp
        · have e : gsub (-3) (x, g).2.Index = some (-3 - g.Index) := by show gsub (-3) g.Index = _; exact gsubI (by omega)
          rw [if_neg (by simpa using c1), e, bsome]
          have : decide ((n : Int) ≤ -3 - g.Index) = false := by simp; omega
          rw [this, if_neg (by simp)]
          simp
      · rw [if_pos (by simp [h4])]
    · have : (!(decide (0 ≤ a2) && decide (a2 ≤ (a0.Ops.length : Int)))) = true := by
        simp only [Bool.not_eq_true', Bool.and_eq_false_iff, decide_eq_false_iff_not]
        omega
      rw [if_pos this]
      rfl
  rcases h2 with ⟨c1, c2⟩ | ⟨c1, _⟩
  · rw [if_pos (by simp [c1]), c2]
    simpa using main
  · rw [if_neg (by simp [c1])]
    exact main
end Go.Proofs.YtadeoaglhaaimaaDoor
