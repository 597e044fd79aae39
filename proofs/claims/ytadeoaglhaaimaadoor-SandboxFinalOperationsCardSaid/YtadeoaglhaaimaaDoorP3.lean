/- The plain laws: what Reads hands back; an action that succeeds accesses only its inputs. -/
import Derived.Test.YtadeoaglhaaimaaDoorP2
namespace Go.Proofs.YtadeoaglhaaimaaDoor
open Go.PW Go

/-- the paths that operations access -/
def Acc (a : SInputsOpsOutput) (x : List UInt8) : Prop := ∃ o ∈ a.Ops, (o.Kind = 1 ∨ o.Kind = 2) ∧ o.Text = x
theorem sorted_len (w : List (List UInt8)) : (sortedS w).length = w.length := by simp [sortedS]
theorem sorted_mem (w : List (List UInt8)) (x : List UInt8) : x ∈ sortedS w ↔ x ∈ w := by simp [sortedS]

/-- a good answer of Reads -/
def Good (Q : List UInt8 → Prop) (N : Nat) (r : List (List UInt8) × SCodeIndex) : Prop := r.2 = ⟨0, 0⟩ ∧ r.1.length ≤ N ∧ ∀ x ∈ r.1, Q x

theorem gcut_nat {α : Type} {l : List α} {i j : Nat} (h : i ≤ j) (h2 : j ≤ l.length) : gcut l (i : Int) (j : Int) = some ((l.take j).drop i) := by
  unfold gcut
  rw [if_pos ⟨by omega, by omega, by omega⟩]
  rfl
theorem reads_l3 (Q : List UInt8 → Prop) (w2 : List (List UInt8)) (hN : w2.length ≤ 16) (b : Nat) (hb : b ≤ w2.length) : ∀ (m : Nat) (w : List (List UInt8)) (p q : Nat), w2.length - q < m → w.length = w2.length → (∀ x ∈ w, Q x) → p ≤ b + q → p ≤ w.length → 1 ≤ q → p + 1 ≤ b + q →
    ∃ r, sandbox_Reads_l3 200 w2 (b : Int) m w (p : Int) (q : Int) = some r ∧ Good Q w2.length r := by
  intro m
  induction m with
  | zero => intro w p q h; omega
  | succ m ih =>
    intro w p q h hw hQ hp hpw hq hpq
    rw [sandbox_Reads_l3]
    unfold sandbox_Reads_j4 sandbox_Reads_j3
    have e0 : ((sortedS w2).length : Int) = ((w.length : Nat) : Int) := by rw [sorted_len, hw]
    rw [e0, gcut_nat (by omega) (Nat.le_refl _), bsome, List.take_length]
    have el : (w.drop b).length = w.length - b := by simp
    by_cases hlt : q < w.length - b
    · rw [if_pos (by rw [el]; simp; omega), gidx_nat, List.getElem?_drop, getElem?_lt (show b + q < w.length by omega), bsome]
      have e1 : (b : Int) + (q : Int) = ((b + q : Nat) : Int) := by omega
      have e2 : (q : Int) - 1 = ((q - 1 : Nat) : Int) := by omega
      have e3 : (b : Int) + ((q - 1 : Nat) : Int) = ((b + (q - 1) : Nat) : Int) := by omega
      rw [e1, gidx_nat, getElem?_lt (show b + q < w.length by omega), bsome, gsubI (by omega), bsome, e2, gidx_nat, List.getElem?_drop, getElem?_lt (show b + (q - 1) < w.length by omega), bsome,
        e3, gidx_nat, getElem?_lt (show b + (q - 1) < w.length by omega), bsome, gadd_nat (show q < 1000000 by omega), bsome]
      split
      · rw [gidx_nat, getElem?_lt (show p < w.length by omega), bsome, gadd_nat (by omega), bsome, gset_nat]
        refine ih _ (p + 1) (q + 1) (by omega) (by simp; omega) ?_ (by omega) (by simp; omega) (by omega) (by omega)
        intro x hx
        rcases List.mem_or_eq_of_mem_set hx with hx | rfl
        · exact hQ x hx
        · exact hQ _ (List.getElem_mem _)
      · exact ih w p (q + 1) (by omega) hw hQ (by omega) hpw (by omega) (by omega)
    · rw [if_neg (by rw [el]; simp; omega), gcut_nat hpw (Nat.le_refl _), bsome]
      have e4 : ((p : Int)).toNat = p := by omega
      have e5 : ((w.length : Nat) : Int).toNat = w.length := by omega
      rw [e4, e5, gcut_take (by unfold gclear; simp; omega), bsome]
      refine ⟨_, rfl, rfl, by unfold gclear; simp; omega, ?_⟩
      intro x hx
      unfold gclear at hx
      rw [List.append_assoc, List.take_append_of_le_length (by simp; omega)] at hx
      exact hQ x (List.mem_of_mem_take (List.mem_of_mem_take hx))
theorem reads_l2 (Q : List UInt8 → Prop) (w2 : List (List UInt8)) (hN : w2.length ≤ 16) (hQ : ∀ x ∈ w2, Q x) : ∀ (m i : Nat), w2.length - i < m → 1 ≤ i →
    ∃ r, sandbox_Reads_l2 200 w2 m (i : Int) = some r ∧ Good Q w2.length r := by
  have hS : ∀ x ∈ sortedS w2, Q x := fun x hx => hQ x ((sorted_mem w2 x).1 hx)
  intro m
  induction m with
  | zero => intro i h; omega
  | succ m ih =>
    intro i h h1
    rw [sandbox_Reads_l2]
    unfold sandbox_Reads_j3
    have hl := sorted_len w2
    by_cases hi : i < (sortedS w2).length
    · have e2 : (i : Int) - 1 = ((i - 1 : Nat) : Int) := by omega
      rw [if_pos (lt_dec hi), gidx_nat, getElem?_lt hi, bsome, gsubI (by omega), bsome, e2, gidx_nat, getElem?_lt (show i - 1 < (sortedS w2).length by omega), bsome]
      split
      · rw [gcut_nat (by omega) (Nat.le_refl _), bsome]
        exact reads_l3 Q w2 hN i (by omega) 200 (sortedS w2) i 1 (by omega) hl hS (by omega) (by omega) (by omega) (by omega)
      · rw [gadd_nat (by omega), bsome]
        exact ih (i + 1) (by omega) (by omega)
    · rw [if_neg (nlt_dec hi)]
      exact ⟨_, rfl, rfl, by simp [hl], hS⟩
theorem reads_l1 (a : SInputsOpsOutput) (ho : a.Ops.length ≤ 16) : ∀ (m i : Nat) (w : List (List UInt8)), a.Ops.length - i < m → i ≤ a.Ops.length → w.length ≤ i → (∀ x ∈ w, Acc a x) →
    ∃ r, sandbox_Reads_l1 200 a m w (i : Int) = some r ∧ Good (Acc a) 16 r := by
  intro m
  induction m with
  | zero => intro i w h; omega
  | succ m ih =>
    intro i w h hio hw hQ
    rw [sandbox_Reads_l1]
    unfold sandbox_Reads_j2 sandbox_Reads_j1 sandbox_Reads_j3
    by_cases hi : i < a.Ops.length
    · rw [if_pos (lt_dec hi), gidx_nat, getElem?_lt hi, bsome, gadd_nat (by omega), bsome]
      have yes : (a.Ops[i].Kind = 1 ∨ a.Ops[i].Kind = 2) → ∃ r, ((gapp 16 w ([a.Ops[i].Text] : List (List UInt8))).bind fun w8 => (some ((i + 1 : Nat) : Int)).bind fun x5 => sandbox_Reads_l1 200 a m w8 x5) = some r ∧ Good (Acc a) 16 r := by
        intro hk
        rw [gapp_ok (by simp; omega), bsome, bsome]
        refine ih (i + 1) _ (by omega) (by omega) (by simp; omega) ?_
        intro x hx
        rcases List.mem_append.1 hx with hx | hx
        · exact hQ x hx
        · simp at hx; subst hx
          exact ⟨_, List.getElem_mem hi, hk, rfl⟩
      have no := ih (i + 1) w (by omega) (by omega) (by omega) hQ
      split
      · rename_i k1
        rw [if_pos rfl]
        have := yes (.inl (by simpa using k1))
        simpa only [bsome] using this
      · split
        · rename_i k2
          have := yes (.inr (by simpa using k2))
          simpa only [bsome] using this
        · exact no
    · rw [if_neg (nlt_dec hi)]
      have hl := sorted_len w
      split
      · exact ⟨_, rfl, rfl, by simp only [hl]; omega, fun x hx => hQ x ((sorted_mem w x).1 hx)⟩
      · obtain ⟨r, h1, h2, h3, h4⟩ := reads_l2 (Acc a) w (by omega) hQ 200 1 (by omega) (by omega)
        exact ⟨r, h1, h2, by omega, h4⟩
theorem reads_ok (a : SInputsOpsOutput) : ∃ r, sandbox_Reads 200 a = some r ∧ (sandbox_Validate 200 a = some ⟨0, 0⟩ → Good (Acc a) 16 r) := by
  obtain ⟨r, h1, h2, h3⟩ := validate_ok a
  unfold sandbox_Reads
  rw [h1, bsome]
  rcases h2 with rfl | h2
  · rw [if_neg fault_none]
    have ho := (h3 rfl).2
    obtain ⟨r, h4, h5⟩ := reads_l1 a ho 200 0 [] (by omega) (by omega) (by simp) (by simp)
    exact ⟨r, h4, fun _ => h5⟩
  · rw [if_pos (fault_ne h2)]
    exact ⟨_, rfl, fun h => by injection h with h; subst h; exact absurd rfl h2⟩

theorem undecl_l (a : SInputsOpsOutput) (r : List (List UInt8) × SCodeIndex) (hi : a.Inputs.length ≤ 8) (hr : r.2 = ⟨0, 0⟩) (hl : r.1.length ≤ 16) (hm : ∀ x ∈ r.1, x ∈ a.Inputs) : ∀ (m i : Nat), r.1.length - i < m →
    law6_SandboxUndeclaredReadsAreDenied_l1 200 a r m (i : Int) = some true := by
  intro m
  induction m with
  | zero => intro i h; omega
  | succ m ih =>
    intro i h
    rw [law6_SandboxUndeclaredReadsAreDenied_l1]
    by_cases h1 : i < r.1.length
    · rw [if_pos (lt_dec h1), gidx_nat, getElem?_lt h1, bsome, hasString_eq _ _ (by omega), bsome]
      rw [if_neg (by simp [hm _ (List.getElem_mem h1)]), gadd_nat (by omega), bsome]
      exact ih (i + 1) (by omega)
    · rw [if_neg (nlt_dec h1), hr]
      simp

theorem Undecl_eq (a0 : SInputsOpsOutput) (a1 : SFiles) (hf : ∀ f ∈ a1.Files, f.Path.length ≤ reachBytes ∧ f.Lines.length ≤ reachBytes) : law6_SandboxUndeclaredReadsAreDenied 200 a0 a1 = some true := by
  obtain ⟨r1, h1, h2⟩ := run_ok a0 a1 hf
  obtain ⟨r2, h3, h4⟩ := reads_ok a0
  unfold law6_SandboxUndeclaredReadsAreDenied
  rw [h1, bsome, h3, bsome, runs_eq, bsome, if_neg (by simp)]
  unfold law6_SandboxUndeclaredReadsAreDenied_j1 law6_SandboxUndeclaredReadsAreDenied_j2
  rcases h2 with ⟨h5, h6⟩ | ⟨h5, h6, hi, ho, h7⟩
  · rw [if_pos (by simp [h5]), runs_eq, bsome, if_pos rfl, h6]
    rfl
  · obtain ⟨g1, g2, g3⟩ := h4 h6
    rw [if_neg (by simp [h5])]
    refine undecl_l a0 r2 hi g1 g2 ?_ 200 0 (by omega)
    intro x hx
    obtain ⟨o, hm, hk, rfl⟩ := g3 x hx
    exact h7 o hm hk
end Go.Proofs.YtadeoaglhaaimaaDoor
