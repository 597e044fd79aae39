/- Workers: the six laws. -/
import Derived.Test.YthnneojommdhjaaP5
namespace Go.Proofs.Ythnneojommdhjaa
open Go.PW Go

theorem len0 : ((([] : List Int).length : Nat) : Int) = 0 := rfl

/-! ### the results match the reference -/
theorem match_l1 {n : Nat} (hn : 100 < n) {l : List Evt} (hl : l.length < 100) {J W need : Nat} (hJ : J ≤ 100) (hW : W < 100) (a4 : Int) (f : SCodeIndex) (r : List Int × SCodeIndex) (hr : r.1 = Vl l J W need) : ∀ (m i : Nat), i ≤ J → J - i < m →
    law6_WorkersMatchSpec_l1 n (J : Int) (W : Int) (need : Int) l a4 f r m (i : Int) = law6_WorkersMatchSpec_l1 n (J : Int) (W : Int) (need : Int) l a4 f r 1 (J : Int) := by
  intro m
  induction m with
  | zero => intro i _ h; omega
  | succ m ih =>
    intro i hi hm
    by_cases h : i < J
    · rw [law6_WorkersMatchSpec_l1, hr, show (Vl l J W need).length = J from tab_length _ _, if_pos (by simp [h]),
        show gidx (Vl l J W need) (i : Int) = some (accepted l W need i) from gidx_tab _ h, bsome, Accepted_eq hn hl hW, bsome, if_neg (by simp), gadd_nat (by omega), bsome]
      exact ih (i + 1) (by omega) (by omega)
    · have : i = J := by omega
      subst this
      rw [law6_WorkersMatchSpec_l1, law6_WorkersMatchSpec_l1, hr, show (Vl l i W need).length = i from tab_length _ _]
      simp only [Int.lt_irrefl, decide_false, Bool.false_eq_true, if_false]
theorem match_l2 {n : Nat} (hn : 100 < n) {l : List Evt} (hl : l.length < 100) {W : Nat} (hW : W < 100) (a4 : Int) (r : List Int × SCodeIndex) (hr : r.1 = Rw l W a4) : ∀ (m i : Nat), i ≤ W → W - i < m →
    law6_WorkersMatchSpec_l2 n (W : Int) l a4 r m (i : Int) = some true := by
  intro m
  induction m with
  | zero => intro i _ h; omega
  | succ m ih =>
    intro i hi hm
    rw [law6_WorkersMatchSpec_l2, hr, show (Rw l W a4).length = W from tab_length _ _]
    by_cases h : i < W
    · rw [if_pos (by simp [h]), show gidx (Rw l W a4) (i : Int) = some (reported l i a4) from gidx_tab _ h, bsome, Reported_eq hn (by omega), bsome, if_neg (by simp), gadd_nat (by omega), bsome]
      exact ih (i + 1) (by omega) (by omega)
    · rw [if_neg (by simp [h])]; simp

theorem match_true (a0 a1 a2 : Int) (l : List Evt) (a4 : Int) : law6_WorkersMatchSpec 200 a0 a1 a2 l a4 = some true := by
  have hn : 100 < 200 := by decide
  unfold law6_WorkersMatchSpec
  rw [farms_ok, bsome, if_neg (by simp), EventsFault_eq hn, bsome, Play_eq hn, bsome]
  by_cases h : (EvF a0 a1 a2 l).Code = 0
  · have hz := EvF_code h
    obtain ⟨J, W, need, e0, e1, e2, hJ, _, hW, _, _, hl, _⟩ := EvF_farm h
    subst e0 e1 e2
    have hv : (Vl l J W need).length = J := tab_length _ _
    simp only [hz, if_true, fault_eq, decide_true, bne_self_eq_false, Bool.false_eq_true, if_false, ne_eq, not_true_eq_false, decide_false, Int.toNat_natCast, hv]
    unfold law6_WorkersMatchSpec_j1
    rw [if_neg (by simp)]
    have e := match_l1 hn (l := l) (by omega) (J := J) (W := W) (need := need) (by omega) (by omega) a4 ⟨0, 0⟩ (Vl l J W need, ⟨0, 0⟩) rfl 200 0 (by omega) (by omega)
    refine e.trans ?_
    rw [law6_WorkersMatchSpec_l1]
    simp only [hv, Int.lt_irrefl, decide_false, Bool.false_eq_true, if_false, decide_true, if_true]
    rw [gsubI (by omega), bsome, law_in, bsome]
    unfold law6_WorkersMatchSpec_j5 law6_fault law6_WorkersMatchSpec_j2
    rw [Reports_eq hn]
    simp only [bsome, hz, if_true, Int.toNat_natCast]
    by_cases q : 0 ≤ a4 ∧ a4 < J
    · have q' : 0 ≤ a4 ∧ a4 ≤ (J : Int) - 1 := by omega
      simp only [if_pos q, decide_eq_true q', Bool.not_true, Bool.false_eq_true, if_false, fault_zero, decide_true, bne_self_eq_false, ne_eq, not_true_eq_false, decide_false]
      unfold law6_WorkersMatchSpec_j3
      rw [if_neg (by simp)]
      exact match_l2 hn (l := l) (by omega) (W := W) (by omega) a4 _ rfl 200 0 (by omega) (by omega)
    · have q' : ¬ (0 ≤ a4 ∧ a4 ≤ (J : Int) - 1) := by omega
      simp only [if_neg q, decide_eq_false q', Bool.not_false, if_true]
      unfold law6_WorkersMatchSpec_j3 law6_WorkersMatchSpec_j4
      rfl
  · have hne : EvF a0 a1 a2 l ≠ ⟨0, 0⟩ := fun q => h (by rw [q])
    simp only [h, if_false, fault_eq, decide_true, bne_self_eq_false, Bool.false_eq_true, ne_eq, not_false_eq_true, if_true, len0, Int.lt_irrefl, decide_false]
    unfold law6_WorkersMatchSpec_j1
    rw [if_neg (by simp), law6_WorkersMatchSpec_l1]
    simp only [h, len0, Int.natCast_zero, Int.lt_irrefl, decide_false, Bool.false_eq_true, if_false]
    unfold law6_WorkersMatchSpec_j5
    rw [if_neg (by simp)]
    unfold law6_WorkersMatchSpec_j2
    rw [Reports_eq hn, bsome]
    simp only [h, if_false, fault_eq, decide_true, bne_self_eq_false, Bool.false_eq_true, ne_eq, not_false_eq_true]
    unfold law6_WorkersMatchSpec_j3 law6_WorkersMatchSpec_j4
    simp [fault_eq]

/-! ### Next matches the reference -/
theorem free_eq {n : Nat} (hn : 100 < n) {l : List Evt} (hl : l.length < 100) (w j : Int) : law6_free n l w j = some (decide (working l w = -1 ∧ reported l w j < 0)) := by
  unfold law6_free law6_free_j1
  rw [WorkingOn_eq hn (by omega), bsome]
  by_cases c : working l w = -1
  · rw [if_pos (by simp [c]), Reported_eq hn (by omega), bsome]; simp [c]
  · rw [if_neg (by simp [c])]; simp [c]

theorem nm_l2 {n : Nat} (hn : 100 < n) {l : List Evt} (hl : l.length < 100) {J W need : Nat} (hJ : J ≤ 100) (hW : W < 100) (r : Int × Int × Bool × SCodeIndex) (lp : Int → Option Bool) {j : Nat} (hj : j < J) :
    ∀ (m w : Nat), w ≤ W → W - w < m → law6_WorkersNextMatchesSpec_l2 n (W : Int) (need : Int) l r (j : Int) lp m (w : Int) = match row (freeB l W need j) (W - w) w with
      | some x => some (r.2.2.1 && (decide (r.1 = j) && decide (r.2.1 = x)))
      | none => lp ((j + 1 : Nat) : Int) := by
  intro m
  induction m with
  | zero => intro w _ h; omega
  | succ m ih =>
    intro w hw hm
    rw [law6_WorkersNextMatchesSpec_l2]
    by_cases h : w < W
    · rw [if_pos (by simp [h]), Accepted_eq hn hl hW, bsome, free_eq hn hl, bsome, show W - w = (W - (w + 1)) + 1 by omega, row]
      have no : law6_WorkersNextMatchesSpec_j3 n r (j : Int) (w : Int) (law6_WorkersNextMatchesSpec_l2 n (W : Int) (need : Int) l r (j : Int) lp m) false = match row (freeB l W need j) (W - (w + 1)) (w + 1) with
          | some x => some (r.2.2.1 && (decide (r.1 = j) && decide (r.2.1 = x)))
          | none => lp ((j + 1 : Nat) : Int) := by
        unfold law6_WorkersNextMatchesSpec_j3
        rw [if_neg (by simp), gadd_nat (by omega), bsome, ih (w + 1) (by omega) (by omega)]
      by_cases c1 : accepted l W need j < 0
      · rw [if_pos (by simp [c1])]
        by_cases c2 : working l w = -1 ∧ reported l w j < 0
        · have : freeB l W need j w = true := by unfold freeB; simp [c1, c2]
          rw [this, decide_eq_true c2, if_pos rfl]
          unfold law6_WorkersNextMatchesSpec_j3 law6_WorkersNextMatchesSpec_j4
          rw [if_pos rfl]
          cases r.2.2.1
          · rfl
          · by_cases c4 : r.1 = (j : Int) <;> simp [c4]
        · have : freeB l W need j w = false := by unfold freeB; rw [decide_eq_false]; exact fun q => c2 q.2
          rw [this, decide_eq_false c2, no, if_neg (by simp)]
      · have : freeB l W need j w = false := by unfold freeB; simp [c1]
        rw [this, if_neg (by simp [c1]), no, if_neg (by simp)]
    · rw [if_neg (by simp [h]), show W - w = 0 by omega, row, gadd_nat (by omega), bsome]
theorem nm_l1 {n : Nat} (hn : 100 < n) {l : List Evt} (hl : l.length < 100) {J W need : Nat} (hJ : J ≤ 100) (hW : W < 100) (r : Int × Int × Bool × SCodeIndex) :
    ∀ (m j : Nat), j ≤ J → J - j < m → law6_WorkersNextMatchesSpec_l1 n (J : Int) (W : Int) (need : Int) l ⟨0, 0⟩ r m (j : Int) = match grid (freeB l W need) W (J - j) j with
      | some (x, w) => some (r.2.2.1 && (decide (r.1 = x) && decide (r.2.1 = w)))
      | none => some (!r.2.2.1) := by
  intro m
  induction m with
  | zero => intro j _ h; omega
  | succ m ih =>
    intro j hj hm
    rw [law6_WorkersNextMatchesSpec_l1]
    simp only [decide_true, if_true]
    unfold law6_WorkersNextMatchesSpec_j2
    by_cases h : j < J
    · have e1 := nm_l2 hn hl (need := need) hJ hW r (law6_WorkersNextMatchesSpec_l1 n (J : Int) (W : Int) (need : Int) l ⟨0, 0⟩ r m) h n 0 (by omega) (by omega)
      rw [if_pos (by simp [h]), show J - j = (J - (j + 1)) + 1 by omega, grid]
      refine e1.trans ?_
      rw [Nat.sub_zero]
      cases row (freeB l W need j) W 0 with
      | some x => rfl
      | none => exact ih (j + 1) (by omega) (by omega)
    · rw [if_neg (by simp [h]), show J - j = 0 by omega]; rfl

theorem next_true (a0 a1 a2 : Int) (l : List Evt) : law6_WorkersNextMatchesSpec 200 a0 a1 a2 l = some true := by
  have hn : 100 < 200 := by decide
  unfold law6_WorkersNextMatchesSpec
  rw [EventsFault_eq hn, bsome, Next_eq hn, bsome, farms_ok, bsome, if_neg (by simp)]
  unfold nextR
  by_cases h : (EvF a0 a1 a2 l).Code = 0
  · have hz := EvF_code h
    obtain ⟨J, W, need, e0, e1, e2, hJ, _, hW, _, _, hl, _⟩ := EvF_farm h
    subst e0 e1 e2
    simp only [hz, if_true, Int.toNat_natCast]
    have e := nm_l1 hn (l := l) (by omega) (J := J) (W := W) (need := need) (by omega) (by omega)
    unfold law6_WorkersNextMatchesSpec_j1
    cases g : grid (freeB l W need) W J 0 with
    | none =>
      simp only [fault_eq, decide_true, bne_self_eq_false, Bool.false_eq_true, if_false, Bool.not_false, if_true, ne_eq, not_true_eq_false, decide_false]
      refine (e _ 200 0 (by omega) (by omega)).trans ?_
      rw [Nat.sub_zero, g]; rfl
    | some x =>
      simp only [fault_eq, decide_true, bne_self_eq_false, Bool.false_eq_true, if_false, Bool.not_true]
      refine (e _ 200 0 (by omega) (by omega)).trans ?_
      rw [Nat.sub_zero, g]; simp
  · simp only [h, if_false, fault_eq, decide_true, bne_self_eq_false, Bool.false_eq_true, Bool.not_false, if_true, ne_eq, not_true_eq_false, decide_false]
    unfold law6_WorkersNextMatchesSpec_j1
    rw [if_neg (by simp), law6_WorkersNextMatchesSpec_l1]
    simp only [h, decide_false, Bool.false_eq_true, if_false]
    unfold law6_WorkersNextMatchesSpec_j2
    rfl

/-! ### liars are outvoted -/
def lies (l : List Evt) (j v : Int) (k : Nat) : Nat := ((List.range k).filter fun (w : Nat) => decide (0 ≤ reported l (w : Int) j ∧ reported l (w : Int) j ≠ v)).length
theorem lies_succ (l : List Evt) (j v : Int) (k : Nat) : lies l j v (k + 1) = lies l j v k + if 0 ≤ reported l (k : Int) j ∧ reported l (k : Int) j ≠ v then 1 else 0 := by
  unfold lies
  rw [List.range_succ, List.filter_append, List.length_append]
  congr 1
  by_cases h : 0 ≤ reported l (k : Int) j ∧ reported l (k : Int) j ≠ v
  · rw [if_pos h, List.filter_cons_of_pos (by simpa using h)]; rfl
  · rw [if_neg h, List.filter_cons_of_neg (by simpa using h)]; rfl
theorem lies_le (l : List Evt) (j v : Int) (k : Nat) : lies l j v k ≤ k := by
  unfold lies
  exact Nat.le_trans (List.length_filter_le _ _) (by simp)
theorem agree_lies {l : List Evt} {j u v : Int} (hu : 0 ≤ u) (hv : u ≠ v) : ∀ k, agree l j u k ≤ lies l j v k
  | 0 => Nat.le_refl _
  | k + 1 => by
    have := agree_lies (l := l) (j := j) hu hv k
    rw [agree_succ, lies_succ]
    by_cases c : reported l (k : Int) j = u
    · rw [if_pos c, if_pos (by omega)]; omega
    · rw [if_neg c]; split <;> omega

theorem liars_l1 {n : Nat} {l : List Evt} {J W need : Nat} (hJ : J ≤ 100) (hW : W < 100) (L : Laws J W need l) {j : Nat} (hj : j < J) (v : Int) (r1 r2 : List Int × SCodeIndex) (h1 : r1.1 = Vl l J W need) (h2 : r2.1 = Rw l W j) : ∀ (m i c : Nat), i ≤ W → W - i < m → c = lies l j v i →
    law6_WorkersLiarsAreOutvoted_l1 n (need : Int) (j : Int) v r1 r2 m c i = some true := by
  intro m
  induction m with
  | zero => intro i c _ h; omega
  | succ m ih =>
    intro i c hi hm hc
    have hcl := lies_le l j v i
    rw [law6_WorkersLiarsAreOutvoted_l1, h1, h2, show (Rw l W (j : Int)).length = W from tab_length _ _, show (Vl l J W need).length = J from tab_length _ _]
    by_cases h : i < W
    · rw [if_pos (by simp [h]), show gidx (Rw l W (j : Int)) (i : Int) = some (reported l i j) from gidx_tab _ h, bsome]
      have hs := lies_succ l j v i
      have no : ∀ c' : Nat, c' = lies l j v (i + 1) → law6_WorkersLiarsAreOutvoted_j3 n (i : Int) (law6_WorkersLiarsAreOutvoted_l1 n (need : Int) (j : Int) v r1 r2 m) (c' : Int) = some true := fun c' hc' => by
        unfold law6_WorkersLiarsAreOutvoted_j3
        rw [gadd_nat (by omega), bsome]
        exact ih (i + 1) c' (by omega) (by omega) hc'
      unfold law6_WorkersLiarsAreOutvoted_j4
      by_cases q1 : 0 ≤ reported l i j
      · by_cases q2 : reported l i j = v
        · rw [if_neg (fun q => q.2 q2)] at hs
          have hv : 0 ≤ v := q2 ▸ q1
          simp only [q2, hv, decide_true, if_true, ne_eq, not_true_eq_false, decide_false, Bool.false_eq_true, if_false]
          exact no c (by omega)
        · rw [if_pos ⟨q1, q2⟩] at hs
          simp only [q1, q2, decide_true, if_true, ne_eq, not_false_eq_true]
          rw [gadd_nat (by omega), bsome]
          exact no (c + 1) (by omega)
      · rw [if_neg (fun q => q1 q.1)] at hs
        simp only [q1, decide_false, Bool.false_eq_true, if_false]
        exact no c (by omega)
    · have : i = W := by omega
      subst this
      rw [if_neg (by simp), gsubI (by omega), bsome, law_in, bsome, if_neg (by simp; omega)]
      unfold law6_WorkersLiarsAreOutvoted_j5
      by_cases q : need ≤ c
      · rw [if_pos (by simp [q])]
      · rw [if_neg (by simp; omega), show gidx (Vl l J i need) (j : Int) = some (accepted l i need j) from gidx_tab _ hj, bsome]
        by_cases q1 : accepted l i need j = -1
        · rw [if_pos (by simp [q1])]
        · rw [if_neg (by simp [q1])]
          congr 1
          rw [decide_eq_true_iff]
          unfold accepted at q1 ⊢
          cases ha : accO l i need (j : Int) with
          | none => rw [ha] at q1; exact absurd rfl q1
          | some u =>
            have hu := L.inv.ac _ _ ha
            have hy := L.yes _ _ ha
            refine Classical.byContradiction fun hne => ?_
            have := agree_lies (l := l) (j := (j : Int)) hu (v := v) hne i
            omega

theorem liars_true (a0 a1 a2 : Int) (l : List Evt) (a4 a5 : Int) : law6_WorkersLiarsAreOutvoted 200 a0 a1 a2 l a4 a5 = some true := by
  have hn : 100 < 200 := by decide
  unfold law6_WorkersLiarsAreOutvoted
  rw [Play_eq hn, bsome, Reports_eq hn, bsome, farms_ok, bsome, if_neg (by simp)]
  unfold law6_WorkersLiarsAreOutvoted_j1
  rw [farms_ok]
  unfold law6_WorkersLiarsAreOutvoted_j2
  by_cases h : (EvF a0 a1 a2 l).Code = 0
  · obtain ⟨J, W, need, e0, e1, e2, hJ, _, hW, hne, _, hl, hsc⟩ := EvF_farm h
    subst e0 e1 e2
    simp only [h, if_true, Int.toNat_natCast]
    by_cases q : 0 ≤ a4 ∧ a4 < J
    · obtain ⟨j, hj⟩ := natOf q.1
      subst hj
      simp only [if_pos q]
      rw [if_neg (by simp), if_neg (by simp)]
      have L : Laws J W need l := laws_of hne l (valid_iff.1 hsc)
      have e := liars_l1 (n := 200) (by omega) (by omega) L (j := j) (by omega) a5 (Vl l J W need, ⟨0, 0⟩) (Rw l W j, ⟨0, 0⟩) rfl rfl 200 0 0 (by omega) (by omega) (by simp [lies])
      exact e
    · simp only [if_neg q]
      simp [bsome]
  · simp only [h, if_false]
    simp [bsome, h]
end Go.Proofs.Ythnneojommdhjaa
