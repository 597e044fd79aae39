/- Workers: the six laws, second half. -/
import Derived.Test.YthnneojommdhjaaP6
namespace Go.Proofs.Ythnneojommdhjaa
open Go.PW Go

/-! ### results have a quorum -/
theorem has_l1 {n : Nat} (f : Nat → Int) (W : Nat) (hW : W < 100) (v : Int) : ∀ (m i : Nat), i ≤ W → W - i < m → (∃ w, i ≤ w ∧ w < W ∧ f w = v) → ref5_Has_l1 n (tab W f) v m (i : Int) = some true := by
  intro m
  induction m with
  | zero => intro i _ h; omega
  | succ m ih =>
    rintro i hi hm ⟨w, h1, h2, h3⟩
    rw [ref5_Has_l1, tab_length, if_pos (by simp; omega), gidx_tab _ (by omega), bsome]
    by_cases c : f i = v
    · rw [if_pos (by simp [c])]
    · rw [if_neg (by simp [c]), gadd_nat (by omega), bsome]
      have : i ≠ w := fun q => c (q ▸ h3)
      exact ih (i + 1) (by omega) (by omega) ⟨w, by omega, h2, h3⟩

theorem agree_some {l : List Evt} {j v : Int} : ∀ {k : Nat}, 1 ≤ agree l j v k → ∃ w, w < k ∧ reported l (w : Int) j = v
  | 0, h => by simp [agree] at h
  | k + 1, h => by
    rw [agree_succ] at h
    by_cases c : reported l (k : Int) j = v
    · exact ⟨k, by omega, c⟩
    · rw [if_neg c] at h
      obtain ⟨w, h1, h2⟩ := agree_some (l := l) (j := j) (v := v) (k := k) (by omega)
      exact ⟨w, by omega, h2⟩

theorem quorum_l2 {n : Nat} {l : List Evt} {J W need : Nat} (hW : W < 100) {j : Nat} (r1 r2 : List Int × SCodeIndex) (h2 : r2.1 = Rw l W j) (b : Bool) {i : Nat} (hi : i < W) (lp : Bool → Int → Option Bool) : ∀ (m k c : Nat), k ≤ W → W - k < m → c = agree l j (reported l i j) k →
    law6_WorkersResultsHaveAQuorum_l2 n (need : Int) (j : Int) r1 r2 b (i : Int) lp m c k =
      law6_WorkersResultsHaveAQuorum_j4 n (need : Int) (j : Int) r1 r2 (i : Int) lp (agree l j (reported l i j) W : Nat) (b || decide (0 ≤ reported l i j ∧ need ≤ agree l j (reported l i j) W)) := by
  intro m
  induction m with
  | zero => intro k c _ h; omega
  | succ m ih =>
    intro k c hk hm hc
    have hcl := agree_le l j (reported l i j) k
    rw [law6_WorkersResultsHaveAQuorum_l2]
    have hlen : r2.1.length = W := by rw [h2]; exact tab_length _ _
    have hg : ∀ x : Nat, x < W → gidx r2.1 (x : Int) = some (reported l x j) := fun x hx => by rw [h2]; exact gidx_tab _ hx
    rw [hlen]
    by_cases h : k < W
    · rw [if_pos (by simp [h]), hg k h, bsome, hg i hi, bsome]
      unfold law6_WorkersResultsHaveAQuorum_j3
      have hs := agree_succ l j (reported l i j) k
      by_cases q : reported l k j = reported l i j
      · rw [if_pos q] at hs
        rw [if_pos (by simp [q]), gadd_nat (by omega), bsome, gadd_nat (by omega), bsome]
        exact ih (k + 1) (c + 1) (by omega) (by omega) (by omega)
      · rw [if_neg q] at hs
        rw [if_neg (by simp [q]), gadd_nat (by omega), bsome]
        exact ih (k + 1) c (by omega) (by omega) (by omega)
    · have : k = W := by omega
      subst this
      rw [if_neg (by simp), hg i hi, bsome, ← hc]
      cases b
      · rw [if_neg (by simp)]
        by_cases q1 : 0 ≤ reported l i j
        · rw [if_pos (by simp [q1])]
          congr 1
          by_cases q2 : need ≤ c
          · simp [q1, q2]
          · simp [q2]
        · rw [if_neg (by simp [q1])]; simp [q1]
      · rw [if_pos rfl]; simp

theorem quorum_l1 {n : Nat} {l : List Evt} {J W need : Nat} (hneed : 1 ≤ need) (hn : 100 < n) (hW : W < 100) (L : Laws J W need l) {j : Nat} (hj : j < J) (r1 r2 : List Int × SCodeIndex) (h1 : r1.1 = Vl l J W need) (h2 : r2.1 = Rw l W j) : ∀ (m i : Nat) (b : Bool), i ≤ W → W - i < m →
    (b = true ↔ ∃ w, w < i ∧ 0 ≤ reported l (w : Int) j ∧ need ≤ agree l j (reported l (w : Int) j) W) →
    law6_WorkersResultsHaveAQuorum_l1 n (need : Int) (j : Int) r1 r2 m b i = some true := by
  intro m
  induction m with
  | zero => intro i b _ h; omega
  | succ m ih =>
    intro i b hi hm hb
    rw [law6_WorkersResultsHaveAQuorum_l1]
    have hlen : r2.1.length = W := by rw [h2]; exact tab_length _ _
    have hg : ∀ x : Nat, x < W → gidx r2.1 (x : Int) = some (reported l x j) := fun x hx => by rw [h2]; exact gidx_tab _ hx
    have hv : gidx r1.1 (j : Int) = some (accepted l W need j) := by rw [h1]; exact gidx_tab _ hj
    rw [hlen]
    by_cases h : i < W
    · rw [if_pos (by simp [h])]
      have e := quorum_l2 (n := n) (need := need) (J := J) hW r1 r2 h2 b h (law6_WorkersResultsHaveAQuorum_l1 n (need : Int) (j : Int) r1 r2 m) n 0 0 (by omega) (by omega) (by simp [agree])
      refine e.trans ?_
      unfold law6_WorkersResultsHaveAQuorum_j4
      have on : law6_WorkersResultsHaveAQuorum_j5 n (i : Int) (law6_WorkersResultsHaveAQuorum_l1 n (need : Int) (j : Int) r1 r2 m) (b || decide (0 ≤ reported l i j ∧ need ≤ agree l j (reported l i j) W)) false = some true := by
        unfold law6_WorkersResultsHaveAQuorum_j5
        rw [if_neg (by simp), gadd_nat (by omega), bsome]
        refine ih (i + 1) _ (by omega) (by omega) ?_
        rw [Bool.or_eq_true, hb, decide_eq_true_iff]
        constructor
        · rintro (⟨w, a, b, c⟩ | ⟨b, c⟩)
          · exact ⟨w, by omega, b, c⟩
          · exact ⟨i, by omega, b, c⟩
        · rintro ⟨w, a, b, c⟩
          by_cases q : w = i
          · subst q; exact .inr ⟨b, c⟩
          · exact .inl ⟨w, by omega, b, c⟩
      rw [hv, bsome]
      by_cases q1 : 0 ≤ accepted l W need j
      · rw [if_pos (by simp [q1]), hg i h, bsome]
        by_cases q2 : reported l i j = accepted l W need j
        · rw [if_pos (by simp [q2])]
          have hy : need ≤ agree l j (reported l i j) W := by
            rw [q2]
            cases ha : accO l W need (j : Int) with
            | none => unfold accepted at q1; rw [ha] at q1; exact absurd q1 (by decide)
            | some u =>
              have := L.yes _ _ ha
              unfold accepted
              rw [ha]
              exact this
          rw [show decide ((agree l j (reported l i j) W : Int) < need) = false by simp; omega]
          exact on
        · rw [if_neg (by simp [q2])]; exact on
      · rw [if_neg (by simp [q1])]; exact on
    · have : i = W := by omega
      subst this
      rw [if_neg (by simp), hv, bsome]
      have hbe : b = decide (0 ≤ accepted l i need j) := by
        rw [Bool.eq_iff_iff, hb, decide_eq_true_iff]
        constructor
        · rintro ⟨w, a, c, d⟩
          refine Int.not_lt.1 fun q => ?_
          have := L.no j _ c (L.inv.accepted_neg.1 q)
          omega
        · intro q
          cases ha : accO l i need (j : Int) with
          | none => unfold accepted at q; rw [ha] at q; exact absurd q (by decide)
          | some u =>
            have hy := L.yes _ _ ha
            obtain ⟨w, h3, h4⟩ := agree_some (l := l) (j := j) (v := u) (k := i) (by omega)
            exact ⟨w, h3, by rw [h4]; exact L.inv.ac _ _ ha, by rw [h4]; exact hy⟩
      rw [hbe, if_pos (by simp)]
      unfold law6_WorkersResultsHaveAQuorum_j6
      by_cases q : accepted l i need j < 0
      · rw [if_pos (by simp [q])]
      · rw [if_neg (by simp [q])]
        cases ha : accO l i need (j : Int) with
        | none => exact absurd (L.inv.accepted_neg.2 ha) q
        | some u =>
          have hy := L.yes _ _ ha
          obtain ⟨w, h3, h4⟩ := agree_some (l := l) (j := j) (v := u) (k := i) (by omega)
          have ea : accepted l i need j = u := by unfold accepted; rw [ha]; rfl
          have e := has_l1 (n := n) (fun w : Nat => reported l (w : Int) j) i hW u n 0 (by omega) (by omega) ⟨w, by omega, h3, h4⟩
          unfold ref5_Has
          rw [ea, h2]
          refine (congrArg (fun x => Option.bind x some) e).trans rfl

theorem quorum_true (a0 a1 a2 : Int) (l : List Evt) (a4 : Int) : law6_WorkersResultsHaveAQuorum 200 a0 a1 a2 l a4 = some true := by
  have hn : 100 < 200 := by decide
  unfold law6_WorkersResultsHaveAQuorum
  rw [Play_eq hn, bsome, Reports_eq hn, bsome, farms_ok, bsome, if_neg (by simp)]
  unfold law6_WorkersResultsHaveAQuorum_j1
  rw [farms_ok]
  unfold law6_WorkersResultsHaveAQuorum_j2
  by_cases h : (EvF a0 a1 a2 l).Code = 0
  · obtain ⟨J, W, need, e0, e1, e2, hJ, _, hW, hne, _, hl, hsc⟩ := EvF_farm h
    subst e0 e1 e2
    simp only [h, if_true, Int.toNat_natCast]
    by_cases q : 0 ≤ a4 ∧ a4 < J
    · obtain ⟨j, hj⟩ := natOf q.1
      subst hj
      simp only [if_pos q]
      have L : Laws J W need l := laws_of hne l (valid_iff.1 hsc)
      have e := quorum_l1 (n := 200) hne hn (by omega) L (j := j) (by omega) (Vl l J W need, ⟨0, 0⟩) (Rw l W j, ⟨0, 0⟩) rfl rfl 200 0 false (by omega) (by omega) (by simp)
      rw [if_neg (by simp), if_neg (by simp), gsubI (by rw [show (Vl l J W need).length = J from tab_length _ _]; omega), bsome, law_in, bsome, if_neg (by rw [show (Vl l J W need).length = J from tab_length _ _]; simp; omega)]
      exact e
    · simp only [if_neg q]
      simp [bsome]
  · simp only [h, if_false]
    simp [bsome, h]

/-! ### results are final -/
theorem final_l2 {n : Nat} {p q : List Evt} {J W need : Nat} (hW : W < 100) (I : Inv J W need p) (j : Int) (r7 r8 : List Int × SCodeIndex) (h7 : r7.1 = Rw p W j) (h8 : r8.1 = Rw (p ++ q) W j) : ∀ (m i : Nat), i ≤ W → W - i < m →
    law6_WorkersResultsAreFinal_l2 n r7 r8 m (i : Int) = some true := by
  intro m
  induction m with
  | zero => intro i _ h; omega
  | succ m ih =>
    intro i hi hm
    rw [law6_WorkersResultsAreFinal_l2, h7, h8, show (Rw p W j).length = W from tab_length _ _]
    by_cases h : i < W
    · rw [if_pos (by simp [h]), show gidx (Rw p W j) (i : Int) = some (reported p i j) from gidx_tab _ h, bsome, show gidx (Rw (p ++ q) W j) (i : Int) = some (reported (p ++ q) i j) from gidx_tab _ h, bsome]
      unfold law6_WorkersResultsAreFinal_j6
      rw [gadd_nat (by omega), bsome, ih (i + 1) (by omega) (by omega)]
      by_cases c : 0 ≤ reported p i j
      · have : reported (p ++ q) i j = reported p i j := by
          cases hr : repO p (i : Int) j with
          | none => have := I.reported_neg.2 hr; omega
          | some v => unfold reported; rw [repO_stays hr, hr]
        simp [this]
      · simp [c]
    · rw [if_neg (by simp [h])]
theorem final_l1 {n : Nat} (hn : 100 < n) {p q : List Evt} {J W need : Nat} (hJ : J < 100) (hW : W < 100) (I : Inv J W need p) (j : Int) (r5 r6 r7 r8 : List Int × SCodeIndex) (h5 : r5.1 = Vl p J W need) (h6 : r6.1 = Vl (p ++ q) J W need) (h7 : r7.1 = Rw p W j) (h8 : r8.1 = Rw (p ++ q) W j) : ∀ (m i : Nat), i ≤ J → J - i < m →
    law6_WorkersResultsAreFinal_l1 n r5 r6 r7 r8 m (i : Int) = some true := by
  intro m
  induction m with
  | zero => intro i _ h; omega
  | succ m ih =>
    intro i hi hm
    rw [law6_WorkersResultsAreFinal_l1, h5, h6, show (Vl p J W need).length = J from tab_length _ _]
    by_cases h : i < J
    · rw [if_pos (by simp [h]), show gidx (Vl p J W need) (i : Int) = some (accepted p W need i) from gidx_tab _ h, bsome, show gidx (Vl (p ++ q) J W need) (i : Int) = some (accepted (p ++ q) W need i) from gidx_tab _ h, bsome]
      unfold law6_WorkersResultsAreFinal_j5
      rw [gadd_nat (by omega), bsome, ih (i + 1) (by omega) (by omega)]
      by_cases c : 0 ≤ accepted p W need i
      · have : accepted (p ++ q) W need i = accepted p W need i := by
          cases hr : accO p W need (i : Int) with
          | none => have := I.accepted_neg.2 hr; omega
          | some v => unfold accepted; rw [accO_stays hr, hr]
        simp [this]
      · simp [c]
    · rw [if_neg (by simp [h])]
      have e := final_l2 (n := n) (q := q) hW I j r7 r8 h7 h8 n 0 (by omega) (by omega)
      exact e

theorem final_true (a0 a1 a2 : Int) (l k : List Evt) (a5 : Int) : law6_WorkersResultsAreFinal 200 a0 a1 a2 l k a5 = some true := by
  have hn : 100 < 200 := by decide
  unfold law6_WorkersResultsAreFinal
  rw [farms_ok, bsome, if_neg (by simp)]
  unfold law6_WorkersResultsAreFinal_j1
  by_cases hl : 40 < l.length
  · rw [if_pos (by simp; omega), if_pos rfl]
  rw [if_neg (by simp; omega)]
  by_cases hk : 40 < k.length
  · rw [if_pos (by simp; omega)]
  rw [if_neg (by simp; omega), gapp_ok (by simp; omega), bsome, List.nil_append, gapp_ok (by omega), bsome, Play_eq hn, bsome, Play_eq hn, bsome, Reports_eq hn, bsome, Reports_eq hn, bsome]
  unfold law6_WorkersResultsAreFinal_j2 law6_WorkersResultsAreFinal_j3 law6_WorkersResultsAreFinal_j4
  by_cases h : (EvF a0 a1 a2 (l ++ k)).Code = 0
  · obtain ⟨J, W, need, e0, e1, e2, hJ, w1, hW, hne, hnw, hlen, hsc⟩ := EvF_farm h
    subst e0 e1 e2
    have V := Valid.init_of (valid_iff.1 hsc)
    have hp : (EvF (J : Int) W need l).Code = 0 := by
      unfold EvF
      rw [if_neg (Classical.not_not.2 ⟨by omega, by omega, by omega, by omega⟩), if_neg hl]
      simp only [Int.toNat_natCast]
      rw [valid_iff.2 V]
    simp only [h, hp, if_true, Int.toNat_natCast]
    by_cases q : 0 ≤ a5 ∧ a5 < J
    · simp only [if_pos q]
      have L : Laws J W need l := laws_of hne l V
      have e := final_l1 (n := 200) (q := k) hn (J := J) (W := W) (by omega) (by omega) L.inv a5 (Vl l J W need, ⟨0, 0⟩) (Vl (l ++ k) J W need, ⟨0, 0⟩) (Rw l W a5, ⟨0, 0⟩) (Rw (l ++ k) W a5, ⟨0, 0⟩) rfl rfl rfl rfl 200 0 (by omega) (by omega)
      have b1 : (Vl l J W need).length = J := tab_length _ _
      have b2 : (Vl (l ++ k) J W need).length = J := tab_length _ _
      have b3 : (Rw l W a5).length = W := tab_length _ _
      have b4 : (Rw (l ++ k) W a5).length = W := tab_length _ _
      simp only [b1, b2, b3, b4, ne_eq, not_true_eq_false, decide_false, Bool.false_eq_true, if_false]
      exact e
    · simp only [if_neg q]
      simp
  · simp only [h, if_false]
    simp [h]

/-! ### assignments are permitted -/
theorem perm_l2 {n : Nat} (hn : 100 < n) {l : List Evt} (hl : l.length ≤ 100) {J W need : Nat} (hJ : J < 100) (hW : W < 100) {j : Nat} (hj : j < J) (hf : ∀ w < W, freeB l W need j w = false) (r12 r14 : List Int × SCodeIndex) (h12 : r12.1 = Vl l J W need) (h14 : r14.1 = Rw l W j) (hc : r14.2.Code = 0) (lp : Int → Option Bool) : ∀ (m i : Nat), i ≤ W → W - i < m →
    law6_WorkersAssignmentsArePermitted_l2 n l r12 (j : Int) lp r14 m (i : Int) = lp ((j + 1 : Nat) : Int) := by
  intro m
  induction m with
  | zero => intro i _ h; omega
  | succ m ih =>
    intro i hi hm
    rw [law6_WorkersAssignmentsArePermitted_l2, h14, h12, show (Rw l W j).length = W from tab_length _ _]
    by_cases h : i < W
    · rw [if_pos (by simp [h]), show gidx (Rw l W j) (i : Int) = some (reported l i j) from gidx_tab _ h, bsome, show gidx (Vl l J W need) (j : Int) = some (accepted l W need j) from gidx_tab _ hj, bsome, WorkingOn_eq hn hl, bsome]
      unfold law6_WorkersAssignmentsArePermitted_j4
      rw [gadd_nat (by omega), bsome, ih (i + 1) (by omega) (by omega)]
      have := hf i h
      unfold freeB at this
      rw [decide_eq_false_iff_not] at this
      by_cases c1 : accepted l W need j < 0
      · by_cases c2 : reported l i j < 0
        · have c3 : working l i ≠ -1 := fun q => this ⟨c1, q, c2⟩
          simp [c3]
        · simp [c2]
      · simp [c1]
    · rw [if_neg (by simp [h]), if_neg (by simp [hc]), gadd_nat (by omega), bsome]

theorem perm_l1 {n : Nat} (hn : 100 < n) {l : List Evt} (hl : l.length ≤ 100) {J W need : Nat} (hJ : J < 100) (hW : W < 100) (hz : (EvF (J : Int) W need l).Code = 0) (hf : ∀ j < J, ∀ w < W, freeB l W need j w = false) (r12 : List Int × SCodeIndex) (h12 : r12 = (Vl l J W need, ⟨0, 0⟩)) : ∀ (m i : Nat), i ≤ J → J - i < m →
    law6_WorkersAssignmentsArePermitted_l1 n (J : Int) W need l r12 m (i : Int) = some true := by
  intro m
  induction m with
  | zero => intro i _ h; omega
  | succ m ih =>
    intro i hi hm
    rw [law6_WorkersAssignmentsArePermitted_l1, h12, show (Vl l J W need).length = J from tab_length _ _]
    by_cases h : i < J
    · rw [if_pos (by simp [h]), Reports_eq hn, bsome, if_pos hz, if_pos (by omega), Int.toNat_natCast]
      have e := perm_l2 hn hl (J := J) (need := need) hJ hW h (hf i h) (Vl l J W need, ⟨0, 0⟩) (Rw l W i, ⟨0, 0⟩) rfl rfl rfl (law6_WorkersAssignmentsArePermitted_l1 n (J : Int) W need l (Vl l J W need, ⟨0, 0⟩) m) n 0 (by omega) (by omega)
      refine e.trans ?_
      rw [← h12]
      exact ih (i + 1) (by omega) (by omega)
    · rw [if_neg (by simp [h])]; rfl

theorem permitted_true (a0 a1 a2 : Int) (l : List Evt) : law6_WorkersAssignmentsArePermitted 200 a0 a1 a2 l = some true := by
  have hn : 100 < 200 := by decide
  unfold law6_WorkersAssignmentsArePermitted
  rw [Next_eq hn, bsome, farms_ok, bsome, if_neg (by simp)]
  unfold law6_WorkersAssignmentsArePermitted_j1 law6_WorkersAssignmentsArePermitted_j2 law6_WorkersAssignmentsArePermitted_j3
  rw [farms_ok]
  by_cases h : (EvF a0 a1 a2 l).Code = 0
  · have h' := h
    obtain ⟨J, W, need, e0, e1, e2, hJ, w1, hW, hne, hnw, hlen, hsc⟩ := EvF_farm h
    subst e0 e1 e2
    unfold nextR
    simp only [h, if_true, Int.toNat_natCast]
    have V := valid_iff.1 hsc
    have L : Laws J W need l := laws_of hne l V
    cases g : grid (freeB l W need) W J 0 with
    | none =>
      simp only [ne_eq, not_true_eq_false, decide_false, Bool.false_eq_true, if_false]
      by_cases q : 39 < l.length
      · rw [if_pos (by simp; omega)]
        congr 1
        rw [decide_eq_true_iff]; omega
      · rw [if_neg (by simp; omega), Play_eq hn, bsome, if_pos h]
        simp only [Int.toNat_natCast]
        have e := perm_l1 hn (l := l) (by omega) (J := J) (W := W) (need := need) (by omega) (by omega) h' (fun j hj w hw => grid_none g j (by omega) (by omega) w hw) (Vl l J W need, ⟨0, 0⟩) rfl 200 0 (by omega) (by omega)
        exact e
    | some x =>
      obtain ⟨j, w⟩ := x
      obtain ⟨h1, h2, h3⟩ := grid_some g
      have hj : j < J := by omega
      unfold freeB at h3
      rw [decide_eq_true_iff] at h3
      simp only [ne_eq, not_true_eq_false, decide_false, Bool.false_eq_true, if_false, if_true]
      by_cases q : 39 < l.length
      · rw [if_pos (by simp; omega)]
        congr 1
        rw [decide_eq_true_iff]; omega
      · rw [if_neg (by simp; omega), gapp_ok (by simp; omega), bsome, List.nil_append, gapp_ok (by simp; omega), bsome, Play_eq hn, bsome]
        have he : ecode J W l ⟨1, w, j, 0⟩ = 0 := by
          have hf : fcode J W ⟨1, w, j, 0⟩ = 0 := by
            unfold fcode
            rw [if_neg (by simp), if_neg (by simp; omega), if_neg (by simp), if_neg (by simp; omega)]
          unfold ecode
          rw [if_pos hf]
          unfold scode
          have := h3.2.2
          rw [if_neg (by simp [h3.2.1]), if_neg (by simp; omega)]
        have V2 := V.snoc he
        have hp : (EvF (J : Int) W need (l ++ [⟨1, w, j, 0⟩])).Code = 0 := by
          unfold EvF
          rw [if_neg (Classical.not_not.2 ⟨by omega, by omega, by omega, by omega⟩), if_neg (by simp; omega)]
          simp only [Int.toNat_natCast]
          rw [valid_iff.2 V2]
        have b1 : (Vl (l ++ [⟨1, w, j, 0⟩]) J W need).length = J := tab_length _ _
        have ha : accepted (l ++ [⟨1, w, j, 0⟩]) W need j = -1 := by
          have := L.inv.accepted_neg.1 h3.1
          unfold accepted
          rw [accO_app, this]
          unfold winE
          rw [if_neg (by simp)]; rfl
        rw [if_pos hp]
        simp only [Int.toNat_natCast, b1, decide_true, if_true]
        rw [gsubI (by omega), bsome, law_in, bsome, if_pos (by simp; omega), show gidx (Vl (l ++ [⟨1, w, j, 0⟩]) J W need) (j : Int) = some (accepted (l ++ [⟨1, w, j, 0⟩]) W need j) from gidx_tab _ hj, bsome, ha]
        rfl
  · unfold nextR
    simp only [h, if_false]
    simp [h, bsome]
end Go.Proofs.Ythnneojommdhjaa
