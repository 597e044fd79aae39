/- The plain laws: what Run and Reads hand back. -/
import Derived.Test.YtadeoaglhaaimaaDoorP1
namespace Go.Proofs.YtadeoaglhaaimaaDoor
open Go.PW Go

theorem half (s : Nat) (h : s < 100) : IntKind.wrap .i64 (kshr .u64 (IntKind.wrap .u64 (s : Int)) 1) = ((s / 2 : Nat) : Int) := by
  have : ∀ k : Fin 100, IntKind.wrap .i64 (kshr .u64 (IntKind.wrap .u64 ((k.val : Nat) : Int)) 1) = ((k.val / 2 : Nat) : Int) := by decide
  exact this ⟨s, h⟩

theorem find_end (fs : List SPathLines) (x : List UInt8) (i : Nat) (hi : i ≤ fs.length) : ∃ b, treepatch_Find_j2 200 fs x (i : Int) = some ((i : Int), b) ∧ (b = true → i < fs.length) := by
  unfold treepatch_Find_j2 treepatch_Find_j4 treepatch_Find_j3 treepatch_Find_j1 strings_Compare
  by_cases h : i < fs.length
  · rw [if_pos (lt_dec h), gidx_nat, getElem?_lt h, bsome, bsome]
    exact ⟨_, rfl, fun _ => h⟩
  · rw [if_neg (nlt_dec h)]
    exact ⟨_, rfl, fun h => by cases h⟩
theorem find_l (fs : List SPathLines) (x : List UInt8) (hl : fs.length ≤ 24) : ∀ (m i j : Nat), i ≤ j → j ≤ fs.length → j - i < m → ∃ (k : Nat) (b : Bool), treepatch_Find_l1 200 fs x m (i : Int) (j : Int) = some ((k : Int), b) ∧ (b = true → k < fs.length) := by
  intro m
  induction m with
  | zero => intro i j _ _ h; omega
  | succ m ih =>
    intro i j hij hj h
    rw [treepatch_Find_l1]
    by_cases hlt : i < j
    · rw [if_pos (lt_dec hlt), gaddI (by omega), bsome]
      have e1 : (i : Int) + (j : Int) = ((i + j : Nat) : Int) := by omega
      rw [e1, half _ (by omega), gidx_nat, getElem?_lt (show (i + j) / 2 < fs.length by omega), bsome]
      unfold strings_Compare treepatch_Find_j5
      rw [bsome]
      split
      · rw [half _ (by omega), gadd_nat (by omega), bsome]
        exact ih ((i + j) / 2 + 1) j (by omega) hj (by omega)
      · rw [half _ (by omega)]
        exact ih i ((i + j) / 2) (by omega) (by omega) (by omega)
    · rw [if_neg (nlt_dec hlt)]
      obtain ⟨b, h1, h2⟩ := find_end fs x i (by omega)
      exact ⟨i, b, h1, h2⟩
theorem find_ok (fs : List SPathLines) (x : List UInt8) (hl : fs.length ≤ 24) : ∃ (k : Nat) (b : Bool), treepatch_Find 200 fs x = some ((k : Int), b) ∧ (b = true → k < fs.length) :=
  find_l fs x hl 200 0 fs.length (by omega) (by omega) (by omega)

theorem unique_l (l : List (List UInt8)) (hl : l.length ≤ 120) : ∀ (m i : Nat) (w : List (List UInt8)), l.length - i < m → w.length ≤ i → i ≤ l.length → ∃ r, sandbox_unique_l1 200 l m w (i : Int) = some r ∧ r.length ≤ l.length := by
  intro m
  induction m with
  | zero => intro i w h; omega
  | succ m ih =>
    intro i w h hw hil
    rw [sandbox_unique_l1]
    unfold sandbox_unique_j1
    by_cases hi : i < l.length
    · rw [if_pos (lt_dec hi), gidx_nat, getElem?_lt hi, bsome, contains_eq w l[i] (by omega), bsome]
      split
      · rw [gapp_ok (by simp; omega), bsome, gadd_nat (by omega), bsome]
        exact ih (i + 1) _ (by omega) (by simp; omega) (by omega)
      · rw [gadd_nat (by omega), bsome]
        exact ih (i + 1) _ (by omega) (by omega) (by omega)
    · rw [if_neg (nlt_dec hi)]
      exact ⟨_, rfl, by omega⟩

theorem rev_l (n : Nat) (x3 : Int) (lp : List (List UInt8) → Int → Option (List (List UInt8) × SCodeIndex)) (N : Nat) (Q : List (List UInt8) → Prop) (hQ : ∀ w, w.length = N → Q w) (hN : N ≤ 120)
    (R : Option (List (List UInt8) × SCodeIndex) → Prop) (hR : ∀ w, Q w → R (sandbox_Run_j1 n x3 lp w 0)) :
    ∀ (m i j : Nat) (w : List (List UInt8)), w.length = N → j ≤ N → j - i < m → i ≤ N → R (sandbox_Run_l2 n x3 lp m w (i : Int) ((j : Int) - 1)) := by
  intro m
  induction m with
  | zero => intro i j w _ _ h; omega
  | succ m ih =>
    intro i j w hw hj h hi
    rw [sandbox_Run_l2]
    unfold sandbox_Run_j7
    by_cases hij : i + 1 < j
    · have e1 : ((j : Int) - 1) = ((j - 1 : Nat) : Int) := by omega
      rw [if_pos (by simp; omega), e1, gidx_nat, getElem?_lt (show j - 1 < w.length by omega), bsome, gidx_nat, getElem?_lt (show i < w.length by omega), bsome, gset_nat, gidx_nat,
        getElem?_lt (show j - 1 < (w.set i w[j - 1]).length by simp; omega), bsome, gadd_nat (by omega), bsome, gsubI (by omega), bsome, gset_nat]
      have := ih (i + 1) (j - 1) ((w.set i w[j - 1]).set (j - 1) w[i]) (by simp; omega) (by omega) (by omega) (by omega)
      exact this
    · rw [if_neg (by simp; omega)]
      exact hR _ (hQ _ hw)

/-- what Run says of the operations from i on -/
def RunOk (a : SInputsOpsOutput) (i : Nat) (r : List (List UInt8) × SCodeIndex) : Prop :=
  (r.2.Code ≠ 0 ∧ r.1 = []) ∨ (r.2 = ⟨0, 0⟩ ∧ r.1.length ≤ 120 ∧ ∀ o ∈ a.Ops.drop i, o.Kind = 1 ∨ o.Kind = 2 → o.Text ∈ a.Inputs)

theorem run_l (a : SInputsOpsOutput) (t : SFiles) (hi : a.Inputs.length ≤ 8) (ho : a.Ops.length ≤ 16) (ht : t.Files.length ≤ 24) (hf : ∀ f ∈ t.Files, f.Lines.length ≤ reachBytes) :
    ∀ (m i : Nat) (w : List (List UInt8)), a.Ops.length - i < m → w.length ≤ 120 → ∃ r, sandbox_Run_l1 200 a t m w (i : Int) = some r ∧ RunOk a i r := by
  intro m
  induction m with
  | zero => intro i w h; omega
  | succ m ih =>
    intro i w h hw
    rw [sandbox_Run_l1]
    by_cases hi2 : i < a.Ops.length
    · rw [if_pos (lt_dec hi2), gidx_nat, getElem?_lt hi2, bsome]
      obtain ⟨k, b, h1, h2⟩ := find_ok t.Files a.Ops[i].Text ht
      rw [h1, bsome, contains_eq _ _ (by omega), bsome]
      have fin : ∀ (w' : List (List UInt8)) (c : Int), (c = 0 → w'.length ≤ 120 ∧ (a.Ops[i].Kind = 1 ∨ a.Ops[i].Kind = 2 → a.Ops[i].Text ∈ a.Inputs)) → ∃ r, sandbox_Run_j1 200 (i : Int) (sandbox_Run_l1 200 a t m) w' c = some r ∧ RunOk a i r := by
        intro w' c hc
        unfold sandbox_Run_j1
        by_cases h0 : c = 0
        · rw [if_neg (by simp [h0]), gadd_nat (by omega), bsome]
          obtain ⟨r, h3, h4⟩ := ih (i + 1) w' (by omega) (hc h0).1
          refine ⟨r, h3, ?_⟩
          rcases h4 with h4 | ⟨h4, h5, h6⟩
          · exact .inl h4
          · refine .inr ⟨h4, h5, ?_⟩
            rw [List.drop_eq_getElem_cons hi2]
            intro o hm
            rw [List.mem_cons] at hm
            rcases hm with rfl | hm
            · exact (hc h0).2
            · exact h6 o hm
        · rw [if_pos (by simp [h0]), gsubI (by omega), bsome]
          exact ⟨_, rfl, .inl ⟨h0, rfl⟩⟩
      have step : ∀ den : Bool, (den = false → a.Ops[i].Kind = 1 ∨ a.Ops[i].Kind = 2 → a.Ops[i].Text ∈ a.Inputs) → ∃ r, sandbox_Run_j2 200 t w (i : Int) (sandbox_Run_l1 200 a t m) a.Ops[i] ((k : Int), b) den = some r ∧ RunOk a i r := by
        intro den hden
        unfold sandbox_Run_j2 sandbox_Run_j3 sandbox_Run_j4 sandbox_Run_j5 sandbox_Run_j6
        cases den with
        | true => rw [if_pos rfl]; exact fin _ _ (fun h => by omega)
        | false =>
          rw [if_neg (by simp)]
          have hd := hden rfl
          have one : ∀ x : List UInt8, ∃ r, ((gadd (w.length : Int) (([x] : List (List UInt8)).length : Int)).bind fun x14 => if (decide (120 < x14)) = true then sandbox_Run_j1 200 (i : Int) (sandbox_Run_l1 200 a t m) [] 10 else (gapp 16 w [x]).bind fun w15 => sandbox_Run_j1 200 (i : Int) (sandbox_Run_l1 200 a t m) w15 0) = some r ∧ RunOk a i r := by
            intro x
            rw [gaddI (by simp; omega), bsome]
            split
            · exact fin _ _ (fun h => by omega)
            · rename_i hc
              simp at hc
              rw [gapp_ok (by simp; omega), bsome]
              exact fin _ _ (fun _ => ⟨by simp; omega, hd⟩)
          by_cases k1 : a.Ops[i].Kind = 1
          · rw [if_pos (by simp [k1])]
            cases b with
            | false => rw [if_pos (by simp)]; exact fin _ _ (fun h => by omega)
            | true =>
              rw [if_neg (by simp)]
              have hk := h2 rfl
              rw [gidx_nat, getElem?_lt hk, bsome]
              have hb := hf _ (List.getElem_mem hk)
              unfold reachBytes at hb
              rw [gaddI (by omega), bsome]
              split
              · exact fin _ _ (fun h => by omega)
              · rename_i hc
                simp at hc
                rw [gapp_ok (by omega), bsome]
                exact fin _ _ (fun _ => ⟨by simp; omega, hd⟩)
          · rw [if_neg (by simp [k1])]
            by_cases k2 : a.Ops[i].Kind = 2
            · rw [if_pos (by simp [k2])]
              split <;> exact one _
            · rw [if_neg (by simp [k2])]
              by_cases k3 : a.Ops[i].Kind = 3
              · rw [if_pos (by simp [k3])]; exact one _
              · rw [if_neg (by simp [k3])]
                by_cases k4 : a.Ops[i].Kind = 4
                · rw [if_pos (by simp [k4]), gsubI (by omega), bsome]
                  exact rev_l 200 (i : Int) (sandbox_Run_l1 200 a t m) w.length (fun w' => w'.length = w.length) (fun _ h => h) hw (fun o => ∃ r, o = some r ∧ RunOk a i r)
                    (fun w' hq => fin w' 0 (fun _ => ⟨by omega, hd⟩)) 200 0 w.length w rfl (by omega) (by omega) (by omega)
                · rw [if_neg (by simp [k4])]
                  obtain ⟨r, h3, h4⟩ := unique_l w hw 200 0 [] (by omega) (by simp) (by omega)
                  have h3' : sandbox_unique 200 w = some r := h3
                  rw [h3', bsome]
                  exact fin _ _ (fun _ => ⟨by omega, hd⟩)
      split
      · exact step _ (fun hb _ => by simpa using hb)
      · split
        · exact step _ (fun hb _ => by simpa using hb)
        · rename_i n1 n2
          exact step _ (fun _ hk => by simp at n1 n2; omega)
    · rw [if_neg (nlt_dec hi2)]
      refine ⟨_, rfl, .inr ⟨rfl, hw, ?_⟩⟩
      rw [List.drop_eq_nil_of_le (by omega)]
      intro o hm
      cases hm

theorem arguments_ok (a : SInputsOpsOutput) (t : SFiles) (hf : ∀ f ∈ t.Files, f.Path.length ≤ reachBytes) : ∃ r, sandbox_Arguments 200 a t = some r ∧ Fine r ∧ (r = ⟨0, 0⟩ → sandbox_Validate 200 a = some ⟨0, 0⟩ ∧ a.Inputs.length ≤ 8 ∧ a.Ops.length ≤ 16 ∧ t.Files.length ≤ 24) := by
  obtain ⟨r, h1, h2, h3⟩ := validate_ok a
  unfold sandbox_Arguments
  rw [h1, bsome]
  rcases h2 with rfl | h2
  · rw [if_neg fault_none]
    obtain ⟨r2, h4, h5, h6⟩ := second_ok t (fun f h => by have := hf f h; unfold reachBytes at this; unfold big; omega) (-20)
    rw [h4, bsome]
    exact ⟨r2, rfl, h5, fun e => ⟨rfl, (h3 rfl).1, (h3 rfl).2, h6 e⟩⟩
  · rw [if_pos (fault_ne h2)]
    exact ⟨r, rfl, .inr h2, fun e => by subst e; exact absurd rfl h2⟩

theorem run_ok (a : SInputsOpsOutput) (t : SFiles) (hf : ∀ f ∈ t.Files, f.Path.length ≤ reachBytes ∧ f.Lines.length ≤ reachBytes) :
    ∃ r, sandbox_Run 200 a t = some r ∧ ((r.2.Code ≠ 0 ∧ r.1 = []) ∨ (r.2 = ⟨0, 0⟩ ∧ sandbox_Validate 200 a = some ⟨0, 0⟩ ∧ a.Inputs.length ≤ 8 ∧ a.Ops.length ≤ 16 ∧ ∀ o ∈ a.Ops, o.Kind = 1 ∨ o.Kind = 2 → o.Text ∈ a.Inputs)) := by
  obtain ⟨r, h1, h2, h3⟩ := arguments_ok a t (fun f h => (hf f h).1)
  unfold sandbox_Run
  rw [h1, bsome]
  rcases h2 with rfl | h2
  · rw [if_neg fault_none]
    obtain ⟨hv, hi, ho, ht⟩ := h3 rfl
    obtain ⟨r, h4, h5⟩ := run_l a t hi ho ht (fun f h => (hf f h).2) 200 0 [] (by omega) (by simp)
    refine ⟨r, h4, ?_⟩
    rcases h5 with h5 | ⟨h5, _, h6⟩
    · exact .inl h5
    · exact .inr ⟨h5, hv, hi, ho, by simpa using h6⟩
  · rw [if_pos (fault_ne h2)]
    exact ⟨_, rfl, .inl ⟨h2, rfl⟩⟩
end Go.Proofs.YtadeoaglhaaimaaDoor
