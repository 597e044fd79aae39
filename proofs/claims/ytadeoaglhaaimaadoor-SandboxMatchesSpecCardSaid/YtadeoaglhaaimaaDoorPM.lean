/- The plain laws: the validity of actions and what they may access are as specified. -/
import Derived.Test.YtadeoaglhaaimaaDoorPH
namespace Go.Proofs.YtadeoaglhaaimaaDoor
open Go.PW Go

theorem less_lt (a b : List UInt8) : Op.bytesLess a b = true ↔ a < b := by
  induction a generalizing b with
  | nil => cases b <;> simp [Op.bytesLess]
  | cons x a ih =>
    cases b with
    | nil => simp [Op.bytesLess]
    | cons y b => simp [Op.bytesLess, List.cons_lt_cons_iff, ih]
theorem le_less (a b : List UInt8) : a ≤ b ↔ Op.bytesLess b a = false := by
  rw [← List.not_lt, ← less_lt]; simp
/-- rising -/
def Up (l : List (List UInt8)) : Prop := l.Pairwise fun x y => Op.bytesLess x y = true
theorem up_eq {l m : List (List UInt8)} (hl : Up l) (hm : Up m) (h : ∀ x, x ∈ l ↔ x ∈ m) : l = m := by
  induction l generalizing m with
  | nil =>
    cases m with
    | nil => rfl
    | cons y m => exact absurd ((h y).2 List.mem_cons_self) (by simp)
  | cons x l ih =>
    cases m with
    | nil => exact absurd ((h x).1 List.mem_cons_self) (by simp)
    | cons y m =>
      have h1 := List.pairwise_cons.1 hl
      have h2 := List.pairwise_cons.1 hm
      have hxy : x = y := by
        rcases List.mem_cons.1 ((h x).1 List.mem_cons_self) with e | hx
        · exact e
        · rcases List.mem_cons.1 ((h y).2 List.mem_cons_self) with e | hy
          · exact e.symm
          · have := less_trans (h2.1 x hx) (h1.1 y hy)
            rw [less_irrefl] at this; cases this
      subst hxy
      congr 1
      refine ih h1.2 h2.2 fun z => ?_
      constructor
      · intro hz
        rcases List.mem_cons.1 ((h z).1 (List.mem_cons_of_mem _ hz)) with rfl | h3
        · have := h1.1 z hz; rw [less_irrefl] at this; cases this
        · exact h3
      · intro hz
        rcases List.mem_cons.1 ((h z).2 (List.mem_cons_of_mem _ hz)) with rfl | h3
        · have := h2.1 z hz; rw [less_irrefl] at this; cases this
        · exact h3
theorem sorted_up (w : List (List UInt8)) (i j : Nat) (hi : i < (sortedS w).length) (hj : j < (sortedS w).length) (h : i < j) (hne : (sortedS w)[i] ≠ (sortedS w)[j]) : Op.bytesLess (sortedS w)[i] (sortedS w)[j] = true := by
  have hp : (sortedS w).Pairwise fun x y => decide (x ≤ y) = true := by
    unfold sortedS
    refine List.pairwise_mergeSort ?_ ?_ w
    · intro a b c h1 h2
      simp only [decide_eq_true_eq] at h1 h2 ⊢
      exact List.le_trans h1 h2
    · intro a b
      simp only [Bool.or_eq_true, decide_eq_true_eq]
      exact List.le_total a b
  have h1 := List.pairwise_iff_getElem.1 hp i j hi hj h
  simp only [decide_eq_true_eq] at h1
  have h2 := (le_less _ _).1 h1
  have h3 : ((sortedS w)[j] == (sortedS w)[i]) = false := by simp; exact fun e => hne e.symm
  exact less_total (by rw [h2, h3]; rfl)

theorem compact_l3 (w2 : List (List UInt8)) (hN : w2.length ≤ 16) (b : Nat) (hb : b < w2.length) (hb1 : 1 ≤ b) : ∀ (m : Nat) (w : List (List UInt8)) (p q : Nat), w2.length - q < m → w.length = w2.length → p ≤ b + q - 1 → 1 ≤ p → 1 ≤ q → b + q ≤ w2.length → w.drop (b + q - 1) = (sortedS w2).drop (b + q - 1) →
    Up (w.take p) → (∀ x, x ∈ w.take p ↔ x ∈ (sortedS w2).take (b + q)) → (w.take p).getLast? = (sortedS w2)[b + q - 1]? →
    ∃ r, sandbox_Reads_l3 200 w2 (b : Int) m w (p : Int) (q : Int) = some (r, ⟨0, 0⟩) ∧ Up r ∧ ∀ x, x ∈ r ↔ x ∈ sortedS w2 := by
  intro m
  induction m with
  | zero => intro w p q h; omega
  | succ m ih =>
    intro w p q h hw hp hp1 hq hbq hd hup hmem hlast
    have hS : (sortedS w2).length = w2.length := sorted_len w2
    rw [sandbox_Reads_l3]
    unfold sandbox_Reads_j4 sandbox_Reads_j3
    have e0 : ((sortedS w2).length : Int) = ((w.length : Nat) : Int) := by rw [hS, hw]
    rw [e0, gcut_nat (by omega) (Nat.le_refl _), bsome, List.take_length]
    have el : (w.drop b).length = w.length - b := by simp
    by_cases hlt : q < w.length - b
    · rw [if_pos (by rw [el]; simp; omega), gidx_nat, List.getElem?_drop, getElem?_lt (show b + q < w.length by omega), bsome]
      have e1 : (b : Int) + (q : Int) = ((b + q : Nat) : Int) := by omega
      have e2 : (q : Int) - 1 = ((q - 1 : Nat) : Int) := by omega
      have e3 : (b : Int) + ((q - 1 : Nat) : Int) = ((b + (q - 1) : Nat) : Int) := by omega
      rw [e1, gidx_nat, getElem?_lt (show b + q < w.length by omega), bsome, gsubI (by omega), bsome, e2, gidx_nat, List.getElem?_drop, getElem?_lt (show b + (q - 1) < w.length by omega), bsome,
        e3, gidx_nat, getElem?_lt (show b + (q - 1) < w.length by omega), bsome, gadd_nat (show q < 1000000 by omega), bsome]
      have at_ : ∀ k, b + q - 1 ≤ k → w[k]? = (sortedS w2)[k]? := by
        intro k hk
        have : (w.drop (b + q - 1))[k - (b + q - 1)]? = ((sortedS w2).drop (b + q - 1))[k - (b + q - 1)]? := by rw [hd]
        rw [List.getElem?_drop, List.getElem?_drop] at this
        have e : b + q - 1 + (k - (b + q - 1)) = k := by omega
        rw [e] at this; exact this
      have a1 : w[b + q]'(by omega) = (sortedS w2)[b + q]'(by omega) := by
        have := at_ (b + q) (by omega)
        rw [getElem?_lt (show b + q < w.length by omega), getElem?_lt (show b + q < (sortedS w2).length by omega)] at this
        exact Option.some.inj this
      have a2 : w[b + (q - 1)]'(by omega) = (sortedS w2)[b + q - 1]'(by omega) := by
        have := at_ (b + (q - 1)) (by omega)
        have e : b + (q - 1) = b + q - 1 := by omega
        rw [getElem?_lt (show b + (q - 1) < w.length by omega), getElem?_lt (show b + (q - 1) < (sortedS w2).length by omega)] at this
        have h2 := Option.some.inj this
        rw [h2]; congr 1
      have htS : (sortedS w2).take (b + (q + 1)) = (sortedS w2).take (b + q) ++ [(sortedS w2)[b + q]'(by omega)] := by
        have e : b + (q + 1) = (b + q) + 1 := by omega
        rw [e, List.take_add_one, getElem?_lt (show b + q < (sortedS w2).length by omega)]; rfl
      have hdn : ∀ v : List (List UInt8), v.drop (b + q - 1) = (sortedS w2).drop (b + q - 1) → v.drop (b + (q + 1) - 1) = (sortedS w2).drop (b + (q + 1) - 1) := by
        intro v hv
        have e : b + (q + 1) - 1 = (b + q - 1) + 1 := by omega
        rw [e, ← List.drop_drop, ← List.drop_drop, hv]
      by_cases hne : w[b + q]'(by omega) = w[b + (q - 1)]'(by omega)
      · rw [if_neg (by simp [hne])]
        have hlast2 : (sortedS w2)[b + (q + 1) - 1]? = (sortedS w2)[b + q - 1]? := by
          have e : b + (q + 1) - 1 = b + q := by omega
          rw [e, getElem?_lt (show b + q < (sortedS w2).length by omega), getElem?_lt (show b + q - 1 < (sortedS w2).length by omega), ← a1, ← a2, hne]
        refine ih w p (q + 1) (by omega) hw (by omega) hp1 (by omega) (by omega) (hdn w hd) hup ?_ (hlast.trans hlast2.symm)
        intro x
        rw [htS, hmem x]
        simp only [List.mem_append, List.mem_singleton]
        constructor
        · exact .inl
        · rintro (h1 | rfl)
          · exact h1
          · rw [← a1, hne, a2]
            rw [List.mem_take_iff_getElem]
            exact ⟨b + q - 1, by omega, rfl⟩
      · rw [if_pos (by simp [hne]), gidx_nat, getElem?_lt (show p < w.length by omega), bsome, gadd_nat (by omega), bsome, gset_nat]
        have hsplit : (w.set p (w[b + q]'(by omega))).take (p + 1) = w.take p ++ [w[b + q]'(by omega)] := by
          rw [List.take_add_one, List.take_set_of_le (Nat.le_refl _), List.getElem?_set_self (by omega)]
          rfl
        have hlss : Op.bytesLess ((sortedS w2)[b + q - 1]'(by omega)) ((sortedS w2)[b + q]'(by omega)) = true := sorted_up w2 _ _ (by omega) (by omega) (by omega) (by rw [← a1, ← a2]; exact fun e => hne e.symm)
        refine ih _ (p + 1) (q + 1) (by omega) (by simp; omega) (by omega) (by omega) (by omega) (by omega) ?_ ?_ ?_ ?_
        · rw [List.drop_set_of_lt (by omega)]
          exact hdn w hd
        · rw [hsplit]
          unfold Up
          rw [List.pairwise_append]
          refine ⟨hup, by simp, ?_⟩
          intro x hx y hy
          simp at hy; subst hy
          rw [a1]
          -- x is at most the last one
          rw [getElem?_lt (show b + q - 1 < (sortedS w2).length by omega)] at hlast
          obtain ⟨ys, hys⟩ := List.getLast?_eq_some_iff.1 hlast
          rw [hys] at hx hup
          rcases List.mem_append.1 hx with hx | hx
          · have := (List.pairwise_append.1 hup).2.2 x hx _ (List.mem_singleton.2 rfl)
            exact less_trans this hlss
          · simp at hx; subst hx; exact hlss
        · intro x
          rw [hsplit, htS]
          simp only [List.mem_append, List.mem_singleton, hmem x, a1]
        · rw [hsplit, List.getLast?_append]
          have e : b + (q + 1) - 1 = b + q := by omega
          rw [e, getElem?_lt (show b + q < (sortedS w2).length by omega), ← a1]
          rfl
    · rw [if_neg (by rw [el]; simp; omega), gcut_nat (by omega) (Nat.le_refl _), bsome]
      have e4 : ((p : Int)).toNat = p := by omega
      have e5 : ((w.length : Nat) : Int).toNat = w.length := by omega
      rw [e4, e5, gcut_take (by unfold gclear; simp; omega), bsome]
      have : (gclear w p w.length ([] : List UInt8)).take p = w.take p := by
        unfold gclear
        rw [List.append_assoc, List.take_append_of_le_length (by simp; omega), List.take_take, Nat.min_self]
      rw [this]
      refine ⟨_, rfl, hup, fun x => ?_⟩
      rw [hmem x, List.take_of_length_le (by omega)]

theorem compact_l2 (w2 : List (List UInt8)) (hN : w2.length ≤ 16) : ∀ (m i : Nat), w2.length - i < m → 1 ≤ i → i ≤ w2.length → Up ((sortedS w2).take i) →
    ∃ r, sandbox_Reads_l2 200 w2 m (i : Int) = some (r, ⟨0, 0⟩) ∧ Up r ∧ ∀ x, x ∈ r ↔ x ∈ sortedS w2 := by
  intro m
  induction m with
  | zero => intro i h; omega
  | succ m ih =>
    intro i h h1 hil hup
    rw [sandbox_Reads_l2]
    unfold sandbox_Reads_j3
    have hl := sorted_len w2
    by_cases hi : i < (sortedS w2).length
    · have e2 : (i : Int) - 1 = ((i - 1 : Nat) : Int) := by omega
      have htk : (sortedS w2).take (i + 1) = (sortedS w2).take i ++ [(sortedS w2)[i]] := by rw [List.take_add_one, getElem?_lt hi]; rfl
      have hlast : ((sortedS w2).take i).getLast? = (sortedS w2)[i - 1]? := by
        rw [List.getLast?_eq_getElem?, List.length_take, Nat.min_eq_left (by omega), List.getElem?_take_of_lt (by omega)]
      rw [if_pos (lt_dec hi), gidx_nat, getElem?_lt hi, bsome, gsubI (by omega), bsome, e2, gidx_nat, getElem?_lt (show i - 1 < (sortedS w2).length by omega), bsome]
      by_cases he : (sortedS w2)[i] = (sortedS w2)[i - 1]'(by omega)
      · rw [if_pos (by simp [he]), gcut_nat (by omega) (Nat.le_refl _), bsome]
        refine compact_l3 w2 hN i (by omega) h1 200 (sortedS w2) i 1 (by omega) hl (by omega) h1 (by omega) (by omega) rfl hup ?_ ?_
        · intro x
          rw [htk]
          simp only [List.mem_append, List.mem_singleton]
          constructor
          · exact .inl
          · rintro (h2 | rfl)
            · exact h2
            · rw [he, List.mem_take_iff_getElem]
              exact ⟨i - 1, by omega, rfl⟩
        · have e : i + 1 - 1 = i := by omega
          rw [e, hlast, getElem?_lt hi, getElem?_lt (show i - 1 < (sortedS w2).length by omega), he]
      · rw [if_neg (by simp [he]), gadd_nat (by omega), bsome]
        refine ih (i + 1) (by omega) (by omega) (by omega) ?_
        rw [htk]
        unfold Up
        rw [List.pairwise_append]
        refine ⟨hup, by simp, ?_⟩
        intro x hx y hy
        simp at hy; subst hy
        have hlss : Op.bytesLess ((sortedS w2)[i - 1]'(by omega)) (sortedS w2)[i] = true := sorted_up w2 _ _ (by omega) hi (by omega) (fun e => he e.symm)
        rw [getElem?_lt (show i - 1 < (sortedS w2).length by omega)] at hlast
        obtain ⟨ys, hys⟩ := List.getLast?_eq_some_iff.1 hlast
        rw [hys] at hx hup
        rcases List.mem_append.1 hx with hx | hx
        · have := (List.pairwise_append.1 hup).2.2 x hx _ (List.mem_singleton.2 rfl)
          exact less_trans this hlss
        · simp at hx; subst hx; exact hlss
    · rw [if_neg (nlt_dec hi)]
      refine ⟨_, rfl, ?_, fun x => Iff.rfl⟩
      rwa [List.take_of_length_le (by omega)] at hup

/-- the paths that operations access, in their order -/
def reads (l : List SKindText) : List (List UInt8) := (l.filter fun o => decide (o.Kind = 1 ∨ o.Kind = 2)).map (·.Text)
theorem reads_snoc (l : List SKindText) (o : SKindText) : reads (l ++ [o]) = if o.Kind = 1 ∨ o.Kind = 2 then reads l ++ [o.Text] else reads l := by
  unfold reads
  rw [List.filter_append, List.map_append]
  by_cases h : o.Kind = 1 ∨ o.Kind = 2
  · rw [if_pos h]; simp [h]
  · rw [if_neg h]; simp [h]
theorem reads_len (l : List SKindText) : (reads l).length ≤ l.length := by unfold reads; simp; exact List.length_filter_le _ _
theorem reads_exact (a : SInputsOpsOutput) (ho : a.Ops.length ≤ 16) : ∀ (m i : Nat), a.Ops.length - i < m → i ≤ a.Ops.length →
    ∃ r, sandbox_Reads_l1 200 a m (reads (a.Ops.take i)) (i : Int) = some (r, ⟨0, 0⟩) ∧ Up r ∧ ∀ x, x ∈ r ↔ x ∈ reads a.Ops := by
  intro m
  induction m with
  | zero => intro i h; omega
  | succ m ih =>
    intro i h hio
    rw [sandbox_Reads_l1]
    unfold sandbox_Reads_j2 sandbox_Reads_j1 sandbox_Reads_j3
    have hlen := reads_len (a.Ops.take i)
    rw [List.length_take] at hlen
    by_cases hi : i < a.Ops.length
    · have htk : a.Ops.take (i + 1) = a.Ops.take i ++ [a.Ops[i]] := by rw [List.take_add_one, getElem?_lt hi]; rfl
      have hI := ih (i + 1) (by omega) (by omega)
      rw [htk, reads_snoc] at hI
      rw [if_pos (lt_dec hi), gidx_nat, getElem?_lt hi, bsome, gadd_nat (by omega), gapp_ok (by simp; omega)]
      simp only [bsome]
      by_cases k1 : a.Ops[i].Kind = 1
      · rw [if_pos (.inl k1)] at hI
        rw [if_pos (by simp [k1]), if_pos trivial]; exact hI
      · by_cases k2 : a.Ops[i].Kind = 2
        · rw [if_pos (.inr k2)] at hI
          rw [if_neg (by simp [k1]), if_pos (by simp [k2])]; exact hI
        · rw [if_neg (by simp [k1, k2])] at hI
          rw [if_neg (by simp [k1]), if_neg (by simp [k2])]; exact hI
    · have hie : i = a.Ops.length := by omega
      rw [if_neg (nlt_dec hi), hie, List.take_length]
      have hlen2 := reads_len a.Ops
      have hl := sorted_len (reads a.Ops)
      by_cases h2 : (sortedS (reads a.Ops)).length < 2
      · rw [if_pos (by simp; omega)]
        refine ⟨_, rfl, ?_, fun x => sorted_mem _ x⟩
        unfold Up
        generalize sortedS (reads a.Ops) = S at h2
        match S, h2 with
        | [], _ => exact .nil
        | [x], _ => exact List.pairwise_singleton _ _
        | _ :: _ :: _, h => exact absurd h (by simp)
      · rw [if_neg (by simp; omega)]
        obtain ⟨r, h3, h4, h5⟩ := compact_l2 (reads a.Ops) (by omega) 200 1 (by omega) (by omega) (by omega) (by
          unfold Up
          match sortedS (reads a.Ops) with
          | [] => exact .nil
          | x :: _ => exact List.pairwise_singleton _ _)
        exact ⟨r, h3, h4, fun x => (h5 x).trans (sorted_mem _ x)⟩
theorem ins_l2 (a0 w1 : List (List UInt8)) (hw : w1.length ≤ 16) (k : Nat) (hk : k < a0.length) (hk2 : k < 1000) (hup : Up w1) : ∀ (m j : Nat), w1.length - j < m → j ≤ w1.length → (∀ y ∈ w1.take j, Op.bytesLess y a0[k] = true) →
    ∃ w', Up w' ∧ (∀ y, y ∈ w' ↔ y ∈ w1 ∨ y = a0[k]) ∧ w'.length ≤ w1.length + 1 ∧ ∀ lp, ref6_Sorted_l2 200 a0 w1 (k : Int) lp m (j : Int) = lp w' ((k + 1 : Nat) : Int) := by
  intro m
  induction m with
  | zero => intro j h; omega
  | succ m ih =>
    intro j h hj hlo
    have ins : (∀ (hjl : j < w1.length), Op.bytesLess w1[j] a0[k] = false) → ∃ w', Up w' ∧ (∀ y, y ∈ w' ↔ y ∈ w1 ∨ y = a0[k]) ∧ w'.length ≤ w1.length + 1 ∧ ∀ lp, ref6_Sorted_j2 200 a0 w1 (k : Int) lp (j : Int) = lp w' ((k + 1 : Nat) : Int) := by
      intro hge
      by_cases heq : ∃ hjl : j < w1.length, w1[j] = a0[k]
      · obtain ⟨hjl, he⟩ := heq
        refine ⟨w1, hup, fun y => ?_, by omega, fun lp => ?_⟩
        · constructor
          · exact .inl
          · rintro (h | rfl)
            · exact h
            · rw [← he]; exact List.getElem_mem hjl
        · unfold ref6_Sorted_j2 ref6_Sorted_j3 ref6_Sorted_j1
          rw [if_pos (lt_dec hjl), gidx_nat, getElem?_lt hjl, bsome, gidx_nat, getElem?_lt hk, bsome, if_pos (by simp [he]), gadd_nat (by omega), bsome]
      · refine ⟨w1.take j ++ [a0[k]] ++ w1.drop j, ?_, fun y => ?_, by simp; omega, fun lp => ?_⟩
        · unfold Up at hup ⊢
          have hsplit : (w1.take j ++ w1.drop j).Pairwise fun x y => Op.bytesLess x y = true := by rw [List.take_append_drop]; exact hup
          have hpp := List.pairwise_append.1 hsplit
          have hgt : ∀ y ∈ w1.drop j, Op.bytesLess a0[k] y = true := by
            intro y hy
            by_cases hjl : j < w1.length
            · have h1 : Op.bytesLess a0[k] w1[j] = true := by
                have hne : ¬ w1[j] = a0[k] := fun e => heq ⟨hjl, e⟩
                exact less_total (by rw [hge hjl]; simp [hne])
              rw [List.drop_eq_getElem_cons hjl] at hy hpp
              rcases List.mem_cons.1 hy with rfl | hy
              · exact h1
              · exact less_trans h1 ((List.pairwise_cons.1 hpp.2.1).1 y hy)
            · rw [List.drop_eq_nil_of_le (by omega)] at hy; cases hy
          rw [List.append_assoc, List.pairwise_append]
          refine ⟨hpp.1, ?_, ?_⟩
          · rw [List.singleton_append, List.pairwise_cons]
            exact ⟨hgt, hpp.2.1⟩
          · intro x hx y hy
            rcases List.mem_append.1 hy with hy | hy
            · rw [List.mem_singleton] at hy; subst hy; exact hlo x hx
            · exact hpp.2.2 x hx y hy
        · simp only [List.mem_append, List.mem_singleton]
          have : y ∈ w1 ↔ y ∈ w1.take j ∨ y ∈ w1.drop j := by rw [← List.mem_append, List.take_append_drop]
          rw [this]
          constructor
          · rintro ((h | h) | h)
            · exact .inl (.inl h)
            · exact .inr h
            · exact .inl (.inr h)
          · rintro ((h | h) | h)
            · exact .inl (.inl h)
            · exact .inr h
            · exact .inl (.inr h)
        · have tail : ref6_Sorted_j3 200 a0 w1 (k : Int) lp (j : Int) false = lp (w1.take j ++ [a0[k]] ++ w1.drop j) ((k + 1 : Nat) : Int) := by
            unfold ref6_Sorted_j3 ref6_Sorted_j1
            rw [if_neg (by simp), gcut_take hj, bsome, gapp_ok (by simp; omega), bsome, List.nil_append, gidx_nat, getElem?_lt hk, bsome, gapp_ok (by simp; omega), bsome, gcut_drop hj, bsome, gapp_ok (by simp; omega), bsome, gadd_nat (by omega), bsome]
          unfold ref6_Sorted_j2
          by_cases hjl : j < w1.length
          · have hne : ¬ w1[j] = a0[k] := fun e => heq ⟨hjl, e⟩
            rw [if_pos (lt_dec hjl), gidx_nat, getElem?_lt hjl, bsome, gidx_nat, getElem?_lt hk, bsome]
            simp only [hne, decide_false]
            exact tail
          · rw [if_neg (nlt_dec hjl)]
            exact tail
    by_cases hjl : j < w1.length
    · by_cases hl : Op.bytesLess w1[j] a0[k] = true
      · obtain ⟨w', h1, h2, h3, h4⟩ := ih (j + 1) (by omega) (by omega) (by
          intro y hy
          rw [List.take_add_one, getElem?_lt hjl] at hy
          rcases List.mem_append.1 hy with hy | hy
          · exact hlo y hy
          · simp at hy; subst hy; exact hl)
        refine ⟨w', h1, h2, h3, fun lp => ?_⟩
        rw [ref6_Sorted_l2, if_pos (lt_dec hjl), gidx_nat, getElem?_lt hjl, bsome, gidx_nat, getElem?_lt hk, bsome]
        unfold ref6_Sorted_j4
        rw [if_pos hl, gadd_nat (by omega), bsome]
        exact h4 lp
      · obtain ⟨w', h1, h2, h3, h4⟩ := ins (fun _ => by simpa using hl)
        refine ⟨w', h1, h2, h3, fun lp => ?_⟩
        rw [ref6_Sorted_l2, if_pos (lt_dec hjl), gidx_nat, getElem?_lt hjl, bsome, gidx_nat, getElem?_lt hk, bsome]
        unfold ref6_Sorted_j4
        rw [if_neg hl]
        exact h4 lp
    · obtain ⟨w', h1, h2, h3, h4⟩ := ins (fun h => absurd h hjl)
      refine ⟨w', h1, h2, h3, fun lp => ?_⟩
      rw [ref6_Sorted_l2, if_neg (nlt_dec hjl)]
      unfold ref6_Sorted_j4
      rw [if_neg (by simp)]
      exact h4 lp
theorem sorted_l1 (a0 : List (List UInt8)) (hl : a0.length ≤ 16) : ∀ (m i : Nat) (w : List (List UInt8)), a0.length - i < m → i ≤ a0.length → w.length ≤ i → Up w → (∀ y, y ∈ w ↔ y ∈ a0.take i) → ∃ r, ref6_Sorted_l1 200 a0 m w (i : Int) = some r ∧ Up r ∧ ∀ y, y ∈ r ↔ y ∈ a0 := by
  intro m
  induction m with
  | zero => intro i w h; omega
  | succ m ih =>
    intro i w h hil hw hup hmem
    rw [ref6_Sorted_l1]
    by_cases hi : i < a0.length
    · obtain ⟨w', h1, h2, h3, h4⟩ := ins_l2 a0 w (by omega) i hi (by omega) hup 200 0 (by omega) (by omega) (by simp)
      have h4' := h4 (ref6_Sorted_l1 200 a0 m)
      rw [if_pos (lt_dec hi), show ref6_Sorted_l2 200 a0 w (i : Int) (ref6_Sorted_l1 200 a0 m) 200 0 = ref6_Sorted_l1 200 a0 m w' ((i + 1 : Nat) : Int) from h4']
      refine ih (i + 1) w' (by omega) (by omega) (by omega) h1 fun y => ?_
      have htk : a0.take (i + 1) = a0.take i ++ [a0[i]] := by rw [List.take_add_one, getElem?_lt hi]; rfl
      rw [h2 y, hmem y, htk, List.mem_append, List.mem_singleton]
    · rw [if_neg (nlt_dec hi)]
      refine ⟨_, rfl, hup, fun y => ?_⟩
      rw [hmem y, List.take_of_length_le (by omega)]
theorem sorted_eq (l : List (List UInt8)) (hl : l.length ≤ 16) : ∃ r, ref6_Sorted 200 l = some r ∧ Up r ∧ ∀ y, y ∈ r ↔ y ∈ l :=
  sorted_l1 l hl 200 0 [] (by omega) (by omega) (by simp) .nil (by simp)
theorem readPaths_l (a : SInputsOpsOutput) (ho : a.Ops.length ≤ 16) : ∀ (m i : Nat), a.Ops.length - i < m → i ≤ a.Ops.length → ref6_ReadPaths_l1 200 a m (reads (a.Ops.take i)) (i : Int) = ref6_Sorted 200 (reads a.Ops) := by
  intro m
  induction m with
  | zero => intro i h; omega
  | succ m ih =>
    intro i h hio
    rw [ref6_ReadPaths_l1]
    unfold ref6_ReadPaths_j2 ref6_ReadPaths_j1
    have hlen := reads_len (a.Ops.take i)
    rw [List.length_take] at hlen
    by_cases hi : i < a.Ops.length
    · have htk : a.Ops.take (i + 1) = a.Ops.take i ++ [a.Ops[i]] := by rw [List.take_add_one, getElem?_lt hi]; rfl
      have hI := ih (i + 1) (by omega) (by omega)
      rw [htk, reads_snoc] at hI
      rw [if_pos (lt_dec hi), gidx_nat, getElem?_lt hi, gadd_nat (by omega)]
      simp only [bsome]
      rw [gapp_ok (by simp; omega)]
      simp only [bsome]
      by_cases k1 : a.Ops[i].Kind = 1
      · rw [if_pos (.inl k1)] at hI
        rw [if_pos (by simp [k1]), if_pos trivial]; exact hI
      · by_cases k2 : a.Ops[i].Kind = 2
        · rw [if_pos (.inr k2)] at hI
          rw [if_neg (by simp [k1]), if_pos (by simp [k2])]; exact hI
        · rw [if_neg (by simp [k1, k2])] at hI
          rw [if_neg (by simp [k1]), if_neg (by simp [k2])]; exact hI
    · have hie : i = a.Ops.length := by omega
      have hlen2 := reads_len a.Ops
      obtain ⟨r, h1, _⟩ := sorted_eq (reads a.Ops) (by omega)
      rw [if_neg (nlt_dec hi), hie, List.take_length, h1, bsome]
theorem restricted_l (a : SInputsOpsOutput) (t : SFiles) (hi : a.Inputs.length ≤ 8) (hl : t.Files.length ≤ 24) : ∀ (m i : Nat), t.Files.length - i < m → i ≤ t.Files.length → ref6_Restricted_l1 200 t a.Inputs m (inp a (t.Files.take i)) (i : Int) = some ⟨inp a t.Files⟩ := by
  intro m
  induction m with
  | zero => intro i h; omega
  | succ m ih =>
    intro i h hil
    rw [ref6_Restricted_l1]
    unfold ref6_Restricted_j1
    by_cases hlt : i < t.Files.length
    · have htk : t.Files.take (i + 1) = t.Files.take i ++ [t.Files[i]] := by rw [List.take_add_one, getElem?_lt hlt]; rfl
      have hI := ih (i + 1) (by omega) (by omega)
      have hlen : (inp a (t.Files.take i)).length ≤ i := by
        have := List.length_filter_le (fun f : SPathLines => decide (f.Path ∈ a.Inputs)) (t.Files.take i)
        rw [List.length_take] at this
        unfold inp; omega
      rw [if_pos (lt_dec hlt), gidx_nat, getElem?_lt hlt, bsome, hasString_eq _ _ (by omega), bsome, gadd_nat (by omega), gapp_ok (by simp; omega)]
      simp only [bsome]
      by_cases hm : t.Files[i].Path ∈ a.Inputs
      · have e : inp a (t.Files.take (i + 1)) = inp a (t.Files.take i) ++ [t.Files[i]] := by rw [htk]; unfold inp; rw [List.filter_append]; simp [hm]
        rw [e] at hI
        rw [if_pos (by simp [hm])]; exact hI
      · have e : inp a (t.Files.take (i + 1)) = inp a (t.Files.take i) := by rw [htk]; unfold inp; rw [List.filter_append]; simp [hm]
        rw [e] at hI
        rw [if_neg (by simp [hm])]; exact hI
    · have : i = t.Files.length := by omega
      rw [if_neg (nlt_dec hlt), this, List.take_length]

theorem Spec_eq (a0 : SInputsOpsOutput) (a1 : SFiles) (hf : ∀ f ∈ a1.Files, f.Path.length ≤ reachBytes ∧ f.Lines.length ≤ reachBytes) : law6_SandboxMatchesSpec 200 a0 a1 = some true := by
  have hb : ∀ f ∈ a1.Files, f.Path.length < big := fun f h => by have := (hf f h).1; unfold reachBytes at this; unfold big; omega
  obtain ⟨v, v1, v2, v3⟩ := validate_ok a0
  obtain ⟨q, h3, h4, h5⟩ := arguments_ok a0 a1 (fun f h => (hf f h).1)
  -- the tree
  have j2 : law6_SandboxMatchesSpec_j2 200 a0 a1 false = some true := by
    unfold law6_SandboxMatchesSpec_j2 law6_SandboxMatchesSpec_j3
    rw [if_neg (by simp), runFault_eq a0 a1 hb, h3, bsome]
    rcases h4 with rfl | h4
    · obtain ⟨hv, hi, ho, ht⟩ := h5 rfl
      have hT := treeOk_of a0 a1 hb hv h3
      have hLen : ∀ f ∈ a1.Files, f.Lines.length ≤ 120 := fun f h => lines_len (hT.2 f h).2
      have hlen : (inp a0 a1.Files).length ≤ 24 := Nat.le_trans (List.length_filter_le _ _) ht
      have e2 : ref6_Restricted 200 a1 a0.Inputs = some ⟨inp a0 a1.Files⟩ := by
        have := restricted_l a0 a1 hi ht 200 0 (by omega) (by omega)
        rw [List.take_zero] at this
        exact this
      rw [restrict_eq a0 a1 hi ht (fun f h => by have := hLen f h; unfold big; omega) h3, bsome, if_pos (by simp), if_neg (by simp), if_pos (by simp), e2, bsome,
        trees_self _ hlen (fun f h => by have := hLen f (List.mem_filter.1 h).1; omega), bsome]
    · have e1 : sandbox_Restrict 200 a0 a1 = some (⟨[]⟩, q) := by unfold sandbox_Restrict; rw [h3, bsome, if_pos (fault_ne h4)]
      rw [e1, bsome, if_pos (by simp), if_pos (by simp [h4]), if_pos (by simp)]
  unfold law6_SandboxMatchesSpec
  rw [action_eq, v1, bsome, runs_eq, bsome, if_neg (by simp), bsome]
  have j1 : law6_SandboxMatchesSpec_j1 200 a0 a1 v false = some true := by
    unfold law6_SandboxMatchesSpec_j1
    rw [if_neg (by simp)]
    rcases v2 with rfl | v2
    · obtain ⟨hi, ho⟩ := v3 rfl
      obtain ⟨r, r1, r2, r3⟩ := reads_exact a0 ho 200 0 (by omega) (by omega)
      have e1 : sandbox_Reads 200 a0 = some (r, ⟨0, 0⟩) := by
        unfold sandbox_Reads
        rw [v1, bsome, if_neg fault_none]
        exact r1
      have hlen := reads_len a0.Ops
      obtain ⟨s, s1, s2, s3⟩ := sorted_eq (reads a0.Ops) (by omega)
      have hrs : r = s := up_eq r2 s2 fun x => (r3 x).trans (s3 x).symm
      have e2 : ref6_ReadPaths 200 a0 = some r := by
        have := readPaths_l a0 ho 200 0 (by omega) (by omega)
        rw [s1, ← hrs] at this
        exact this
      obtain ⟨g, g1, g2⟩ := reads_ok a0
      have hg : g = (r, ⟨0, 0⟩) := Option.some.inj (g1.symm.trans e1)
      have hrl : r.length < 200 := by have := (g2 v1).2.1; rw [hg] at this; simp only at this; omega
      rw [e1, bsome, if_neg (by simp), if_neg (by simp), if_pos (by simp), e2, bsome, strings_self _ hrl, bsome]
      exact j2
    · have e1 : sandbox_Reads 200 a0 = some ([], v) := by unfold sandbox_Reads; rw [v1, bsome, if_pos (fault_ne v2)]
      rw [e1, bsome, if_neg (by simp), if_pos (by simp [v2]), if_neg (by simp), if_neg (by simp [v2])]
      exact j2
  have : ((v.Code == v.Code && (v.Index == v.Index && true)) != true) = false := by simp
  rw [this]
  exact j1
end Go.Proofs.YtadeoaglhaaimaaDoor
