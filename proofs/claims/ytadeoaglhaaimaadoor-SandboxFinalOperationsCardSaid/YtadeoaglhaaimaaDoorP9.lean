/- The plain laws: the lines that an action creates are as specified. -/
import Derived.Test.YtadeoaglhaaimaaDoorP8
namespace Go.Proofs.YtadeoaglhaaimaaDoor
open Go.PW Go

theorem strings_l (l : List (List UInt8)) (hl : l.length < 100000) : ∀ (m i : Nat), l.length - i < m → ref6_Strings_l1 200 l l m (i : Int) = some true := by
  intro m
  induction m with
  | zero => intro i h; omega
  | succ m ih =>
    intro i h
    rw [ref6_Strings_l1]
    by_cases hi : i < l.length
    · rw [if_pos (lt_dec hi), gidx_nat, getElem?_lt hi]
      simp only [bsome]
      rw [if_neg (by simp), gadd_nat (by omega), bsome]
      exact ih (i + 1) (by omega)
    · rw [if_neg (nlt_dec hi)]
theorem strings_self (l : List (List UInt8)) (hl : l.length < 200) : ref6_Strings 200 l l = some true := by
  unfold ref6_Strings
  rw [if_neg (by simp)]
  exact strings_l l (by omega) 200 0 (by omega)

theorem uniq_eq (l : List (List UInt8)) (hl : l.length ≤ 120) : ∀ (m i : Nat) (w : List (List UInt8)), w.length ≤ i → i ≤ l.length → (∀ x, x ∈ w ↔ x ∈ l.take i) → sandbox_unique_l1 200 l m w (i : Int) = ref6_firsts_l1 200 l m w (i : Int) := by
  intro m
  induction m with
  | zero => intro i w _ _ _; rfl
  | succ m ih =>
    intro i w hw hil hmem
    rw [sandbox_unique_l1, ref6_firsts_l1]
    unfold sandbox_unique_j1 ref6_firsts_j1
    by_cases hi : i < l.length
    · rw [if_pos (lt_dec hi), if_pos (lt_dec hi), gidx_nat, getElem?_lt hi, gcut_take (by omega)]
      simp only [bsome]
      rw [contains_eq w l[i] (by omega), hasString_eq (l.take i) l[i] (by simp; omega), gadd_nat (by omega)]
      simp only [bsome]
      have ht : l.take (i + 1) = l.take i ++ [l[i]] := by rw [List.take_add_one, getElem?_lt hi]; rfl
      have hd : decide (l[i] ∈ w) = decide (l[i] ∈ l.take i) := by rw [decide_eq_decide]; exact hmem _
      rw [hd]
      by_cases hx : l[i] ∈ l.take i
      · rw [if_neg (by simp [hx]), if_neg (by simp [hx])]
        refine ih (i + 1) w (by omega) (by omega) fun x => ?_
        rw [ht, hmem x]
        simp only [List.mem_append, List.mem_singleton]
        constructor
        · exact .inl
        · rintro (h | rfl)
          · exact h
          · exact hx
      · rw [if_pos (by simp [hx]), if_pos (by simp [hx]), gapp_ok (by simp; omega), bsome]
        refine ih (i + 1) (w ++ [l[i]]) (by simp; omega) (by omega) fun x => ?_
        rw [ht]
        simp only [List.mem_append, List.mem_singleton, hmem x]
    · rw [if_neg (nlt_dec hi), if_neg (nlt_dec hi)]

theorem rev_exact (n : Nat) (x3 : Int) (N : Nat) (hN : N ≤ 120) : ∀ (m i j : Nat) (w : List (List UInt8)), w.length = N → j ≤ N → j - i < m → i ≤ j →
    ∃ w', w'.length = N ∧ (∀ lp, sandbox_Run_l2 n x3 lp m w (i : Int) ((j : Int) - 1) = sandbox_Run_j1 n x3 lp w' 0) ∧ ∀ p, w'[p]? = if i ≤ p ∧ p < j then w[i + j - 1 - p]? else w[p]? := by
  intro m
  induction m with
  | zero => intro i j w _ _ h; omega
  | succ m ih =>
    intro i j w hw hj h hi
    by_cases hij : i + 1 < j
    · have e1 : ((j : Int) - 1) = ((j - 1 : Nat) : Int) := by omega
      obtain ⟨w', h1, h2, h3⟩ := ih (i + 1) (j - 1) ((w.set i (w[j - 1]'(by omega))).set (j - 1) (w[i]'(by omega))) (by simp; omega) (by omega) (by omega) (by omega)
      refine ⟨w', h1, fun lp => ?_, fun p => ?_⟩
      · rw [sandbox_Run_l2, if_pos (by simp; omega), e1, gidx_nat, getElem?_lt (show j - 1 < w.length by omega), bsome, gidx_nat, getElem?_lt (show i < w.length by omega), bsome, gset_nat, gidx_nat,
          getElem?_lt (show j - 1 < (w.set i w[j - 1]).length by simp; omega), bsome, gadd_nat (by omega), bsome, gsubI (by omega), bsome, gset_nat]
        exact h2 lp
      · rw [h3 p]
        by_cases hp : i + 1 ≤ p ∧ p < j - 1
        · rw [if_pos hp, if_pos (by omega), List.getElem?_set_ne (by omega), List.getElem?_set_ne (by omega)]
          congr 1; omega
        · rw [if_neg hp]
          by_cases hpi : p = i
          · subst hpi
            rw [if_pos (by omega), List.getElem?_set_ne (by omega), List.getElem?_set_self (by omega)]
            have : p + j - 1 - p = j - 1 := by omega
            rw [this, getElem?_lt (show j - 1 < w.length by omega)]
          · by_cases hpj : p = j - 1
            · subst hpj
              rw [if_pos (by omega), List.getElem?_set_self (by simp; omega)]
              have : i + j - 1 - (j - 1) = i := by omega
              rw [this, getElem?_lt (show i < w.length by omega)]
            · rw [if_neg (by omega), List.getElem?_set_ne (by omega), List.getElem?_set_ne (by omega)]
    · refine ⟨w, hw, fun lp => ?_, fun p => ?_⟩
      · rw [sandbox_Run_l2, if_neg (by simp; omega)]
        rfl
      · by_cases hp : i ≤ p ∧ p < j
        · rw [if_pos hp]; congr 1; omega
        · rw [if_neg hp]
theorem rev_run (x3 : Int) (w : List (List UInt8)) (hw : w.length ≤ 120) (lp) : sandbox_Run_l2 200 x3 lp 200 w 0 ((w.length : Int) - 1) = sandbox_Run_j1 200 x3 lp w.reverse 0 := by
  obtain ⟨w', h1, h2, h3⟩ := rev_exact 200 x3 w.length hw 200 0 w.length w rfl (Nat.le_refl _) (by omega) (by omega)
  have : w' = w.reverse := by
    apply List.ext_getElem?
    intro p
    rw [h3 p]
    by_cases hp : p < w.length
    · rw [if_pos (by omega), List.getElem?_reverse hp]
      congr 1; omega
    · rw [if_neg (by omega), List.getElem?_eq_none (by omega), List.getElem?_eq_none (by simp; omega)]
  rw [← this]
  exact h2 lp
theorem rev_ref (w : List (List UInt8)) (hw : w.length ≤ 120) : ∀ (m k : Nat) (v : List (List UInt8)), k < m → k ≤ w.length → v.length + k ≤ 120 → ref6_opResult_l1 200 w m v ((k : Int) - 1) = some (v ++ (w.take k).reverse, 0) := by
  intro m
  induction m with
  | zero => intro k v h; omega
  | succ m ih =>
    intro k v h hk hv
    rw [ref6_opResult_l1]
    by_cases h0 : 0 < k
    · have e1 : ((k : Int) - 1) = ((k - 1 : Nat) : Int) := by omega
      rw [if_pos (by simp; omega), e1, gidx_nat, getElem?_lt (show k - 1 < w.length by omega), bsome, gapp_ok (by simp; omega), bsome, gsubI (by omega), bsome, ih (k - 1) _ (by omega) (by omega) (by simp; omega)]
      have h2 : w.take ((k - 1) + 1) = w.take (k - 1) ++ [w[k - 1]'(by omega)] := by
        rw [List.take_add_one, getElem?_lt (show k - 1 < w.length by omega)]
        rfl
      have h3 : k - 1 + 1 = k := by omega
      rw [h3] at h2
      rw [h2, List.reverse_append, List.append_assoc]
      rfl
    · have : k = 0 := by omega
      subst this
      rw [if_neg (by simp)]
      simp

/-- more lines -/
theorem more_ref (w x : List (List UInt8)) (hw : w.length ≤ 120) (hx : x.length ≤ reachBytes) : ref6_opResult_j1 200 w x = if 120 < w.length + x.length then some ([], 10) else some (w ++ x, 0) := by
  unfold reachBytes at hx
  unfold ref6_opResult_j1
  rw [gaddI (by omega), bsome]
  by_cases h : 120 < w.length + x.length
  · rw [if_pos (by simp; omega), if_pos h]
  · rw [if_neg (by simp; omega), if_neg h, gapp_ok (by simp; omega), bsome, List.nil_append, gapp_ok (by omega), bsome]
theorem more_run (w x : List (List UInt8)) (hw : w.length ≤ 120) (hx : x.length ≤ reachBytes) (i : Int) (lp) : ((gadd (w.length : Int) (x.length : Int)).bind fun x14 => if (decide (120 < x14)) = true then sandbox_Run_j1 200 i lp [] 10 else (gapp 16 w x).bind fun w15 => sandbox_Run_j1 200 i lp w15 0) = if 120 < w.length + x.length then sandbox_Run_j1 200 i lp [] 10 else sandbox_Run_j1 200 i lp (w ++ x) 0 := by
  unfold reachBytes at hx
  rw [gaddI (by omega), bsome]
  by_cases h : 120 < w.length + x.length
  · rw [if_pos (by simp; omega), if_pos h]
  · rw [if_neg (by simp; omega), if_neg h, gapp_ok (by omega), bsome]

/-- one operation, both ways -/
theorem step_spec (a : SInputsOpsOutput) (t : SFiles) (hi : a.Inputs.length ≤ 8) (ht : t.Files.length ≤ 24) (hr : Rise t.Files) (hf : ∀ f ∈ t.Files, f.Lines.length ≤ reachBytes) (w : List (List UInt8)) (hw : w.length ≤ 120) (i : Nat) (hil : i < a.Ops.length)
    (hk : a.Ops[i].Kind = 1 ∨ a.Ops[i].Kind = 2 ∨ a.Ops[i].Kind = 3 ∨ a.Ops[i].Kind = 4 ∨ a.Ops[i].Kind = 5) :
    ∃ w' c, (∀ m, sandbox_Run_l1 200 a t (m + 1) w (i : Int) = sandbox_Run_j1 200 (i : Int) (sandbox_Run_l1 200 a t m) w' c) ∧ ref6_opResult 200 a t a.Ops[i] w = some (w', c) ∧ (c = 0 → w'.length ≤ 120) := by
  have one1 : ∀ x : List UInt8, ([x] : List (List UInt8)).length ≤ reachBytes := fun x => by unfold reachBytes; simp
  obtain ⟨k, b, h1, h2, h3⟩ := find_spec t.Files a.Ops[i].Text ht hr
  have enter : ∀ m, sandbox_Run_l1 200 a t (m + 1) w (i : Int) = sandbox_Run_j2 200 t w (i : Int) (sandbox_Run_l1 200 a t m) a.Ops[i] ((k : Int), b) (decide (a.Ops[i].Kind = 1 ∨ a.Ops[i].Kind = 2) && !decide (a.Ops[i].Text ∈ a.Inputs)) := by
    intro m
    rw [sandbox_Run_l1, if_pos (lt_dec hil), gidx_nat, getElem?_lt hil, bsome, h1, bsome, contains_eq _ _ (by omega)]
    simp only [bsome]
    by_cases k1 : a.Ops[i].Kind = 1
    · rw [if_pos (by simp [k1])]; simp [k1]
    · rw [if_neg (by simp [k1])]
      by_cases k2 : a.Ops[i].Kind = 2
      · rw [if_pos (by simp [k2])]; simp [k2]
      · rw [if_neg (by simp [k2])]; simp [k1, k2]
  have fileIn : ref6_FileIn 200 t a.Ops[i].Text = some (if b = true then ((t.Files[k]?.map (·.Lines)).getD [], true) else ([], false)) := by
    rcases fileIn_l t a.Ops[i].Text ht 200 0 (by omega) with ⟨f, hm, he, hz⟩ | ⟨hm, hz⟩
    · have hz' : ref6_FileIn 200 t a.Ops[i].Text = some (f.Lines, true) := hz
      rw [hz']
      simp only [List.drop_zero] at hm
      cases b with
      | false => exact absurd he (h3 rfl f hm)
      | true =>
        obtain ⟨hkl, hp⟩ := h2 rfl
        have : f = t.Files[k] := rise_uniq hr hm (List.getElem_mem hkl) (he.trans hp.symm)
        rw [if_pos rfl, getElem?_lt hkl, this]
        rfl
    · have hz' : ref6_FileIn 200 t a.Ops[i].Text = some ([], false) := hz
      rw [hz']
      simp only [List.drop_zero] at hm
      cases b with
      | false => rfl
      | true =>
        obtain ⟨hkl, hp⟩ := h2 rfl
        exact absurd hp (hm _ (List.getElem_mem hkl))
  have fin : ∀ (w' : List (List UInt8)) (c : Int), (∀ lp, sandbox_Run_j2 200 t w (i : Int) lp a.Ops[i] ((k : Int), b) (decide (a.Ops[i].Kind = 1 ∨ a.Ops[i].Kind = 2) && !decide (a.Ops[i].Text ∈ a.Inputs)) = sandbox_Run_j1 200 (i : Int) lp w' c) → ref6_opResult 200 a t a.Ops[i] w = some (w', c) → (c = 0 → w'.length ≤ 120) →
      ∃ w' c, (∀ m, sandbox_Run_l1 200 a t (m + 1) w (i : Int) = sandbox_Run_j1 200 (i : Int) (sandbox_Run_l1 200 a t m) w' c) ∧ ref6_opResult 200 a t a.Ops[i] w = some (w', c) ∧ (c = 0 → w'.length ≤ 120) :=
    fun w' c g1 g2 g3 => ⟨w', c, fun m => (enter m).trans (g1 _), g2, g3⟩
  have more : ∀ x : List (List UInt8), x.length ≤ reachBytes → (∀ lp, sandbox_Run_j2 200 t w (i : Int) lp a.Ops[i] ((k : Int), b) (decide (a.Ops[i].Kind = 1 ∨ a.Ops[i].Kind = 2) && !decide (a.Ops[i].Text ∈ a.Inputs)) = if 120 < w.length + x.length then sandbox_Run_j1 200 (i : Int) lp [] 10 else sandbox_Run_j1 200 (i : Int) lp (w ++ x) 0) → ref6_opResult 200 a t a.Ops[i] w = ref6_opResult_j1 200 w x →
      ∃ w' c, (∀ m, sandbox_Run_l1 200 a t (m + 1) w (i : Int) = sandbox_Run_j1 200 (i : Int) (sandbox_Run_l1 200 a t m) w' c) ∧ ref6_opResult 200 a t a.Ops[i] w = some (w', c) ∧ (c = 0 → w'.length ≤ 120) := by
    intro x hx g1 g2
    rw [more_ref w x hw hx] at g2
    by_cases h : 120 < w.length + x.length
    · exact fin [] 10 (fun lp => by rw [g1 lp, if_pos h]) (by rw [g2, if_pos h]) (by simp)
    · exact fin (w ++ x) 0 (fun lp => by rw [g1 lp, if_neg h]) (by rw [g2, if_neg h]) (fun _ => by simp; omega)
  unfold sandbox_Run_j2 sandbox_Run_j3 sandbox_Run_j4 sandbox_Run_j5 sandbox_Run_j6 at fin more
  unfold ref6_opResult at fin more ⊢
  rw [hasString_eq _ _ (by omega), fileIn] at fin more ⊢
  by_cases k12 : a.Ops[i].Kind = 1 ∨ a.Ops[i].Kind = 2
  · by_cases hden : a.Ops[i].Text ∈ a.Inputs
    · rcases k12 with k1 | k2
      · cases b with
        | false =>
          refine fin [] 6 (fun lp => ?_) ?_ (by simp)
          · simp [k1, hden]
          · simp only [k1, hden, bsome]; simp [ref6_opResult_j2]
        | true =>
          obtain ⟨hkl, hp⟩ := h2 rfl
          refine more t.Files[k].Lines (hf _ (List.getElem_mem hkl)) (fun lp => ?_) ?_
          · have hm := more_run w t.Files[k].Lines hw (hf _ (List.getElem_mem hkl)) (i : Int) lp
            simp only [k1, hden, gidx_nat, getElem?_lt hkl, bsome] at hm ⊢
            simpa using hm
          · simp only [k1, hden, bsome, getElem?_lt hkl]
            simp [ref6_opResult_j2, ref6_opResult_j3, ref6_opResult_j4, ref6_opResult_j5, k1]
      · cases b with
        | false =>
          refine more [[110, 111]] (one1 _) (fun lp => ?_) ?_
          · have hm := more_run w [[110, 111]] hw (one1 _) (i : Int) lp
            simp only [k2, hden] at hm ⊢
            simpa using hm
          · simp only [k2, hden, bsome]
            simp [ref6_opResult_j2, ref6_opResult_j3, ref6_opResult_j4, ref6_opResult_j5, k2]
        | true =>
          refine more [[121, 101, 115]] (one1 _) (fun lp => ?_) ?_
          · have hm := more_run w [[121, 101, 115]] hw (one1 _) (i : Int) lp
            simp only [k2, hden] at hm ⊢
            simpa using hm
          · simp only [k2, hden, bsome]
            simp [ref6_opResult_j2, ref6_opResult_j3, ref6_opResult_j4, ref6_opResult_j5, k2]
    · refine fin [] 13 (fun lp => ?_) ?_ (by simp)
      · simp [k12, hden]
      · rcases k12 with k1 | k2
        · simp only [k1, hden, bsome]; simp
        · simp only [k2, hden, bsome]; simp
  · have n1 : a.Ops[i].Kind ≠ 1 := fun e => k12 (.inl e)
    have n2 : a.Ops[i].Kind ≠ 2 := fun e => k12 (.inr e)
    rcases hk with k1 | k2 | k3 | k4 | k5
    · exact absurd k1 n1
    · exact absurd k2 n2
    · refine more [a.Ops[i].Text] (one1 _) (fun lp => ?_) ?_
      · have hm := more_run w [a.Ops[i].Text] hw (one1 _) (i : Int) lp
        simp only [k3] at hm ⊢
        simpa using hm
      · simp [k3]
    · refine fin w.reverse 0 (fun lp => ?_) ?_ (fun _ => by simp; omega)
      · have hm := rev_run (i : Int) w hw lp
        simp only [k4, gsubI (show -9223372036854775808 ≤ (w.length : Int) - 1 ∧ (w.length : Int) - 1 < 9223372036854775808 by omega), bsome]
        simpa using hm
      · have hm := rev_ref w hw 200 w.length [] (by omega) (Nat.le_refl _) (by simpa using hw)
        rw [List.take_length, List.nil_append] at hm
        simp only [k4, gsubI (show -9223372036854775808 ≤ (w.length : Int) - 1 ∧ (w.length : Int) - 1 < 9223372036854775808 by omega), bsome]
        simpa using hm
    · obtain ⟨r, h4, h5⟩ := unique_l w hw 200 0 [] (by omega) (by simp) (by omega)
      have h4' : sandbox_unique 200 w = some r := h4
      have h6 : ref6_firsts 200 w = some r := by
        have := uniq_eq w hw 200 0 [] (by simp) (by omega) (by simp)
        exact this.symm.trans h4
      refine fin r 0 (fun lp => ?_) ?_ (fun _ => by omega)
      · simp only [k5, h4', bsome]; simp
      · simp only [k5, h6, bsome]; simp

theorem ran_eq (a : SInputsOpsOutput) (t : SFiles) (hi : a.Inputs.length ≤ 8) (ho : a.Ops.length ≤ 16) (ht : t.Files.length ≤ 24) (hr : Rise t.Files) (hf : ∀ f ∈ t.Files, f.Lines.length ≤ reachBytes)
    (hk : ∀ o ∈ a.Ops, o.Kind = 1 ∨ o.Kind = 2 ∨ o.Kind = 3 ∨ o.Kind = 4 ∨ o.Kind = 5) : ∀ (m i : Nat) (w : List (List UInt8)), w.length ≤ 120 → ref6_Ran_l1 200 a t m w (i : Int) = sandbox_Run_l1 200 a t m w (i : Int) := by
  intro m
  induction m with
  | zero => intro i w _; rfl
  | succ m ih =>
    intro i w hw
    by_cases hil : i < a.Ops.length
    · obtain ⟨w', c, h1, h2, h3⟩ := step_spec a t hi ht hr hf w hw i hil (hk _ (List.getElem_mem hil))
      rw [h1 m, ref6_Ran_l1, if_pos (lt_dec hil), gidx_nat, getElem?_lt hil, bsome, h2, bsome]
      unfold sandbox_Run_j1 ref6_fault
      by_cases h0 : c = 0
      · rw [if_neg (by simp [h0]), if_neg (by simp [h0]), gadd_nat (by omega), bsome, bsome]
        exact ih (i + 1) w' (h3 h0)
      · rw [if_pos (by simp [h0]), if_pos (by simp [h0]), gsubI (by omega), bsome, bsome, bsome]
    · rw [run_end a t m i w (by omega), ref6_Ran_l1, if_neg (nlt_dec hil)]

/-- operations of a valid action -/
theorem kinds_l2 (a : SInputsOpsOutput) (hl : a.Ops.length ≤ 16) : ∀ (m i : Nat), a.Ops.length - i < m → sandbox_Validate_l2 200 a m (i : Int) = some ⟨0, 0⟩ → ∀ o ∈ a.Ops.drop i, sandbox_checkOp 200 o = some 0 := by
  intro m
  induction m with
  | zero => intro i h; omega
  | succ m ih =>
    intro i h h0
    rw [sandbox_Validate_l2] at h0
    by_cases hi : i < a.Ops.length
    · rw [if_pos (lt_dec hi), gidx_nat, getElem?_lt hi, bsome] at h0
      obtain ⟨r, h1⟩ := checkOp_ok a.Ops[i]
      rw [h1, bsome] at h0
      by_cases hr : r = 0
      · rw [if_neg (by simp [hr]), gadd_nat (by omega), bsome] at h0
        rw [List.drop_eq_getElem_cons hi]
        intro o hm
        rcases List.mem_cons.1 hm with rfl | hm
        · rw [h1, hr]
        · exact ih (i + 1) (by omega) h0 o hm
      · rw [if_pos (by simp [hr]), gsubI (by omega), bsome] at h0
        have := congrArg SCodeIndex.Code (Option.some.inj h0)
        exact absurd this hr
    · rw [List.drop_eq_nil_of_le (by omega)]
      intro o hm; cases hm
theorem valid_l1 (a : SInputsOpsOutput) (hl : a.Inputs.length ≤ 8) : ∀ (m i : Nat), a.Inputs.length - i < m → sandbox_Validate_l1 200 a m (i : Int) = some ⟨0, 0⟩ → sandbox_Validate_l2 200 a 200 0 = some ⟨0, 0⟩ := by
  intro m
  induction m with
  | zero => intro i h; omega
  | succ m ih =>
    intro i h h0
    rw [sandbox_Validate_l1] at h0
    unfold treepatch_ValidPath at h0
    by_cases hi : i < a.Inputs.length
    · rw [if_pos (lt_dec hi), gidx_nat, getElem?_lt hi, bsome, bsome] at h0
      have tail : ∀ b : Bool, sandbox_Validate_j2 200 (i : Int) (sandbox_Validate_l1 200 a m) b = some ⟨0, 0⟩ → sandbox_Validate_l2 200 a 200 0 = some ⟨0, 0⟩ := by
        intro b hb
        unfold sandbox_Validate_j2 at hb
        cases b with
        | true =>
          rw [if_pos rfl] at hb
          have := congrArg SCodeIndex.Code (Option.some.inj hb)
          simp at this
        | false =>
          rw [if_neg (by simp), gadd_nat (by omega), bsome] at hb
          exact ih (i + 1) (by omega) hb
      by_cases hv : libValidPath a.Inputs[i] = true
      · rw [if_neg (by simp [hv])] at h0
        by_cases hp : 0 < i
        · have e1 : ((i : Int) - 1) = ((i - 1 : Nat) : Int) := by omega
          rw [if_pos (by simp; omega), gsubI (by omega), bsome, e1, gidx_nat, getElem?_lt (by omega), bsome] at h0
          exact tail _ h0
        · rw [if_neg (by simp; omega)] at h0
          exact tail _ h0
      · rw [if_pos (by simp [hv])] at h0
        have := congrArg SCodeIndex.Code (Option.some.inj h0)
        simp at this
    · rw [if_neg (nlt_dec hi), bsome] at h0
      by_cases hv : libValidPath a.Output = true
      · rw [if_neg (by simp [hv])] at h0
        exact h0
      · rw [if_pos (by simp [hv])] at h0
        have := congrArg SCodeIndex.Code (Option.some.inj h0)
        simp at this
theorem kinds_ok (a : SInputsOpsOutput) (h : sandbox_Validate 200 a = some ⟨0, 0⟩) : ∀ o ∈ a.Ops, o.Kind = 1 ∨ o.Kind = 2 ∨ o.Kind = 3 ∨ o.Kind = 4 ∨ o.Kind = 5 := by
  obtain ⟨r, h1, h2, h3⟩ := validate_ok a
  have e : (⟨0, 0⟩ : SCodeIndex) = r := Option.some.inj (h.symm.trans h1)
  obtain ⟨hi, ho⟩ := h3 e.symm
  have d1 : decide ((8 : Int) < (a.Inputs.length : Int)) = false := by simp; omega
  have d2 : decide ((16 : Int) < (a.Ops.length : Int)) = false := by simp; omega
  unfold sandbox_Validate sandbox_Validate_j1 at h
  simp only [d1, d2, Bool.false_eq_true, ↓reduceIte] at h
  have h4 := valid_l1 a hi 200 0 (by omega) h
  have h5 := kinds_l2 a ho 200 0 (by omega) h4
  intro o hm
  have h6 := h5 o (by simpa using hm)
  unfold sandbox_checkOp sandbox_checkOp_j2 sandbox_checkOp_j3 at h6
  by_cases k1 : o.Kind = 1
  · exact .inl k1
  · by_cases k2 : o.Kind = 2
    · exact .inr (.inl k2)
    · by_cases k3 : o.Kind = 3
      · exact .inr (.inr (.inl k3))
      · by_cases k4 : o.Kind = 4
        · exact .inr (.inr (.inr (.inl k4)))
        · by_cases k5 : o.Kind = 5
          · exact .inr (.inr (.inr (.inr k5)))
          · simp [k1, k2, k3, k4, k5] at h6

theorem RunSpec_eq (a0 : SInputsOpsOutput) (a1 : SFiles) (hf : ∀ f ∈ a1.Files, f.Path.length ≤ reachBytes ∧ f.Lines.length ≤ reachBytes) : law6_SandboxRunMatchesSpec 200 a0 a1 = some true := by
  have hb : ∀ f ∈ a1.Files, f.Path.length < big := fun f h => by have := (hf f h).1; unfold reachBytes at this; unfold big; omega
  obtain ⟨q, h3, h4, h5⟩ := arguments_ok a0 a1 (fun f h => (hf f h).1)
  unfold law6_SandboxRunMatchesSpec
  rw [runs_eq, bsome, if_neg (by simp), runFault_eq a0 a1 hb, h3, bsome]
  unfold law6_SandboxRunMatchesSpec_j1 law6_SandboxRunMatchesSpec_j2
  rcases h4 with rfl | h4
  · obtain ⟨hv, hi, ho, ht⟩ := h5 rfl
    obtain ⟨_, hr⟩ := args_rise a0 a1 hb hv h3
    obtain ⟨r, g1, g2⟩ := run_l a0 a1 hi ho ht (fun f h => (hf f h).2) 200 0 [] (by omega) (by simp)
    have e1 : sandbox_Run 200 a0 a1 = some r := by unfold sandbox_Run; rw [h3, bsome, if_neg fault_none]; exact g1
    have e2 : ref6_Ran 200 a0 a1 = some r := by
      unfold ref6_Ran
      exact (ran_eq a0 a1 hi ho ht hr (fun f h => (hf f h).2) (kinds_ok a0 hv) 200 0 [] (by simp)).trans g1
    rw [if_pos (by simp), e2, bsome, e1, bsome, if_pos (by simp)]
    have hlen : r.1.length < 200 := by
      rcases g2 with ⟨_, g⟩ | ⟨_, g, _⟩
      · rw [g]; simp
      · omega
    rw [strings_self _ hlen, bsome]
  · have e1 : sandbox_Run 200 a0 a1 = some ([], q) := by unfold sandbox_Run; rw [h3, bsome, if_pos (fault_ne h4)]
    rw [if_neg (by simp [h4]), e1, bsome, if_pos (by simp), strings_self [] (by simp), bsome]
end Go.Proofs.YtadeoaglhaaimaaDoor
