/- Workers: the exported functions, and what always holds. -/
import Derived.Test.YthnneojommdhjaaP4
namespace Go.Proofs.Ythnneojommdhjaa
open Go.PW Go

theorem fault_eq (x y : SCodeIndex) : (x.Code == y.Code && (x.Index == y.Index && true)) = decide (x = y) := by
  cases x; cases y
  simp only [SCodeIndex.mk.injEq, Bool.and_true, Bool.decide_and]
  rfl
theorem scan_code (J W : Nat) (l : List Evt) : ∀ k i, (scan J W l k i).Code = 0 → scan J W l k i = ⟨0, 0⟩
  | 0, _, _ => rfl
  | k + 1, i, h => by
    rw [scan] at h ⊢
    cases e : l[i]? with
    | none => rfl
    | some a =>
      simp only [e] at h ⊢
      split
      · rename_i c; rw [if_pos c] at h; exact absurd h c
      · rename_i c; rw [if_neg c] at h; exact scan_code J W l k (i + 1) h
theorem EvF_code {a0 a1 a2 : Int} {l : List Evt} (h : (EvF a0 a1 a2 l).Code = 0) : EvF a0 a1 a2 l = ⟨0, 0⟩ := by
  unfold EvF at h ⊢
  split at h
  · cases h
  · rename_i q; rw [if_neg q]
    split at h
    · cases h
    · rename_i q2; rw [if_neg q2]; exact scan_code _ _ _ _ _ h

theorem fault_zero (x : SCodeIndex) : (x.Code == 0 && (x.Index == 0 && true)) = decide (x = ⟨0, 0⟩) := fault_eq x ⟨0, 0⟩
theorem Play_eq {n : Nat} (hn : 100 < n) (a0 a1 a2 : Int) (l : List Evt) :
    workers_Play n a0 a1 a2 l = some (if (EvF a0 a1 a2 l).Code = 0 then (Vl l a0.toNat a1.toNat a2.toNat, ⟨0, 0⟩) else ([], EvF a0 a1 a2 l)) := by
  unfold workers_Play
  rw [play_eq hn, bsome]
  unfold playR
  by_cases h : (EvF a0 a1 a2 l).Code = 0
  · simp only [h, if_true, fault_zero]
    rw [if_neg (by simp), bsome]
  · simp only [h, if_false, fault_zero]
    rw [if_pos (by simp; intro q; exact h (by rw [q]))]

theorem Reports_eq {n : Nat} (hn : 100 < n) (a0 a1 a2 : Int) (l : List Evt) (a4 : Int) :
    workers_Reports n a0 a1 a2 l a4 = some (if (EvF a0 a1 a2 l).Code = 0 then if 0 ≤ a4 ∧ a4 < a0 then (Rw l a1.toNat a4, ⟨0, 0⟩) else ([], ⟨3, -2⟩) else ([], EvF a0 a1 a2 l)) := by
  unfold workers_Reports
  rw [play_eq hn, bsome]
  unfold playR
  by_cases h : (EvF a0 a1 a2 l).Code = 0
  · simp only [h, if_true, fault_zero]
    rw [if_neg (by simp)]
    unfold workers_Reports_j1
    by_cases q1 : a4 < 0
    · simp only [q1, decide_true, if_true, if_neg (show ¬ (0 ≤ a4 ∧ a4 < a0) by omega)]
    · simp only [q1, decide_false, Bool.false_eq_true, if_false, decide_eq_true_eq]
      by_cases q2 : a0 ≤ a4
      · rw [if_pos q2, if_neg (show ¬ (0 ≤ a4 ∧ a4 < a0) by omega)]
      · rw [if_neg q2, if_pos (show 0 ≤ a4 ∧ a4 < a0 by omega), bsome]
        obtain ⟨j, hj⟩ := natOf (show 0 ≤ a4 by omega)
        subst hj
        rw [show gidx (Rp l a0.toNat a1.toNat) (j : Int) = some (Rw l a1.toNat j) from gidx_tab _ (by omega), bsome]
  · simp only [h, if_false, fault_zero]
    rw [if_pos (by simp; intro q; exact h (by rw [q]))]

/-! ### the first free pair -/
def row (c : Nat → Bool) : Nat → Nat → Option Nat
  | 0, _ => none
  | k + 1, w => if c w = true then some w else row c k (w + 1)
def grid (c : Nat → Nat → Bool) (W : Nat) : Nat → Nat → Option (Nat × Nat)
  | 0, _ => none
  | k + 1, j => match row (c j) W 0 with
    | some w => some (j, w)
    | none => grid c W k (j + 1)
theorem row_some {c : Nat → Bool} : ∀ {k w x}, row c k w = some x → w ≤ x ∧ x < w + k ∧ c x = true
  | 0, _, _, h => by cases h
  | k + 1, w, x, h => by
    rw [row] at h
    split at h
    · injection h with h; subst h; exact ⟨by omega, by omega, by assumption⟩
    · obtain ⟨a, b, d⟩ := row_some h; exact ⟨by omega, by omega, d⟩
theorem row_none {c : Nat → Bool} : ∀ {k w}, row c k w = none → ∀ x, w ≤ x → x < w + k → c x = false
  | 0, _, _, _, _, _ => by omega
  | k + 1, w, h, x, h1, h2 => by
    rw [row] at h
    split at h
    · cases h
    · rename_i q
      by_cases e : x = w
      · subst e; simpa using q
      · exact row_none h x (by omega) (by omega)
theorem grid_some {c : Nat → Nat → Bool} {W : Nat} : ∀ {k j x y}, grid c W k j = some (x, y) → x < j + k ∧ y < W ∧ c x y = true
  | 0, _, _, _, h => by cases h
  | k + 1, j, x, y, h => by
    rw [grid] at h
    cases e : row (c j) W 0 with
    | some w =>
      simp only [e, Option.some.injEq, Prod.mk.injEq] at h
      obtain ⟨h1, h2⟩ := h
      subst h1 h2
      have := row_some e
      exact ⟨by omega, by omega, this.2.2⟩
    | none =>
      simp only [e] at h
      obtain ⟨a, b, d⟩ := grid_some h
      exact ⟨by omega, b, d⟩
theorem grid_none {c : Nat → Nat → Bool} {W : Nat} : ∀ {k j}, grid c W k j = none → ∀ x, j ≤ x → x < j + k → ∀ y < W, c x y = false
  | 0, _, _, _, _, _ => by omega
  | k + 1, j, h, x, h1, h2 => by
    rw [grid] at h
    cases e : row (c j) W 0 with
    | some w => simp only [e] at h; cases h
    | none =>
      simp only [e] at h
      by_cases q : x = j
      · subst q
        intro y hy
        exact row_none e y (by omega) (by omega)
      · exact grid_none h x (by omega) (by omega)

def freeB (l : List Evt) (W need : Nat) (j w : Nat) : Bool := decide (accepted l W need j < 0 ∧ working l w = -1 ∧ reported l w j < 0)
def nextR (l : List Evt) (J W need : Nat) (f : SCodeIndex) : Int × Int × Bool × SCodeIndex :=
  if f.Code = 0 then match grid (freeB l W need) W J 0 with
    | some (j, w) => (j, w, true, ⟨0, 0⟩)
    | none => (0, 0, false, ⟨0, 0⟩)
  else (0, 0, false, f)

theorem Next_l2 {n : Nat} {l : List Evt} {J W need : Nat} (hJ : J ≤ 100) (hW : W ≤ 100) (r : PlayR) (hr : r.1 = some ⟨need, St l W, Rp l J W, Vl l J W need⟩) (lp : Int → Option (Int × Int × Bool × SCodeIndex)) {j : Nat} (hj : j < J) :
    ∀ (m w : Nat), w ≤ W → W - w < m → workers_Next_l2 n (W : Int) r (j : Int) lp m (w : Int) = match row (freeB l W need j) (W - w) w with
      | some x => some (j, x, true, ⟨0, 0⟩)
      | none => lp ((j + 1 : Nat) : Int) := by
  intro m
  induction m with
  | zero => intro w _ h; omega
  | succ m ih =>
    intro w hw hm
    rw [workers_Next_l2]
    simp only [hr, bsome]
    by_cases h : w < W
    · rw [if_pos (by simp [h]), show gidx (Vl l J W need) (j : Int) = some (accepted l W need j) from gidx_tab _ hj, bsome,
        show gidx (St l W) (w : Int) = some (working l w) from gidx_tab _ h, bsome,
        show gidx (Rp l J W) (j : Int) = some (Rw l W j) from gidx_tab _ hj, bsome,
        show gidx (Rw l W j) (w : Int) = some (reported l w j) from gidx_tab _ h, bsome,
        show W - w = (W - (w + 1)) + 1 by omega, row]
      have no : workers_Next_j1 n (j : Int) (w : Int) (workers_Next_l2 n (W : Int) r (j : Int) lp m) false = match row (freeB l W need j) (W - (w + 1)) (w + 1) with
          | some x => some (j, x, true, ⟨0, 0⟩)
          | none => lp ((j + 1 : Nat) : Int) := by
        unfold workers_Next_j1
        rw [if_neg (by simp), gadd_nat (by omega), bsome, ih (w + 1) (by omega) (by omega)]
      by_cases c1 : accepted l W need j < 0
      · rw [if_pos (by simp [c1])]
        by_cases c2 : working l w = -1
        · rw [if_pos (by simp [c2])]
          by_cases c3 : reported l w j < 0
          · have : freeB l W need j w = true := by unfold freeB; simp [c1, c2, c3]
            rw [this, if_pos rfl]
            unfold workers_Next_j1
            rw [if_pos (by simp [c3])]
          · have : freeB l W need j w = false := by unfold freeB; simp [c3]
            rw [this, decide_eq_false c3, no, if_neg (by simp)]
        · have : freeB l W need j w = false := by unfold freeB; simp [c2]
          rw [this, if_neg (by simp [c2]), no, if_neg (by simp)]
      · have : freeB l W need j w = false := by unfold freeB; simp [c1]
        rw [this, if_neg (by simp [c1]), no, if_neg (by simp)]
    · rw [if_neg (by simp [h]), show W - w = 0 by omega, row, gadd_nat (by omega), bsome]

theorem Next_l1 {n : Nat} (hn : 100 < n) {l : List Evt} {J W need : Nat} (hJ : J ≤ 100) (hW : W ≤ 100) (r : PlayR) (hr : r.1 = some ⟨need, St l W, Rp l J W, Vl l J W need⟩) :
    ∀ (m j : Nat), j ≤ J → J - j < m → workers_Next_l1 n (J : Int) (W : Int) r m (j : Int) = match grid (freeB l W need) W (J - j) j with
      | some (x, w) => some (x, w, true, ⟨0, 0⟩)
      | none => some (0, 0, false, ⟨0, 0⟩) := by
  intro m
  induction m with
  | zero => intro j _ h; omega
  | succ m ih =>
    intro j hj hm
    rw [workers_Next_l1]
    by_cases h : j < J
    · have e1 := Next_l2 (n := n) hJ hW r hr (workers_Next_l1 n (J : Int) (W : Int) r m) h n 0 (by omega) (by omega)
      rw [if_pos (by simp [h]), show J - j = (J - (j + 1)) + 1 by omega, grid]
      refine e1.trans ?_
      rw [Nat.sub_zero]
      cases row (freeB l W need j) W 0 with
      | some x => rfl
      | none => exact ih (j + 1) (by omega) (by omega)
    · rw [if_neg (by simp [h]), show J - j = 0 by omega]; rfl

theorem EvF_farm {a0 a1 a2 : Int} {l : List Evt} (h : (EvF a0 a1 a2 l).Code = 0) : ∃ J W need : Nat, a0 = J ∧ a1 = W ∧ a2 = need ∧ J ≤ 12 ∧ 1 ≤ W ∧ W ≤ 8 ∧ 1 ≤ need ∧ need ≤ W ∧ l.length ≤ 40 ∧ scan J W l l.length 0 = ⟨0, 0⟩ := by
  have h' := h
  have h'' := EvF_code h
  unfold EvF at h'
  split at h'
  · cases h'
  · rename_i q
    have q := Classical.not_not.1 q
    split at h'
    · cases h'
    · rename_i q2
      obtain ⟨q3, q4, q5⟩ := q
      refine ⟨a0.toNat, a1.toNat, a2.toNat, by omega, by omega, by omega, by omega, by omega, by omega, by omega, by omega, by omega, ?_⟩
      unfold EvF at h''
      rw [if_neg (Classical.not_not.2 ⟨q3, q4, q5⟩), if_neg q2] at h''
      exact h''

theorem Next_eq {n : Nat} (hn : 100 < n) (a0 a1 a2 : Int) (l : List Evt) :
    workers_Next n a0 a1 a2 l = some (nextR l a0.toNat a1.toNat a2.toNat (EvF a0 a1 a2 l)) := by
  unfold workers_Next
  rw [play_eq hn, bsome]
  unfold playR nextR
  by_cases h : (EvF a0 a1 a2 l).Code = 0
  · obtain ⟨J, W, need, e0, e1, e2, hJ, _, hW, _⟩ := EvF_farm h
    subst e0 e1 e2
    simp only [h, if_true, fault_zero]
    rw [if_neg (by simp)]
    simp only [Int.toNat_natCast]
    have := Next_l1 hn (l := l) (J := J) (W := W) (need := need) (by omega) (by omega) (some ⟨need, St l W, Rp l J W, Vl l J W need⟩, ⟨0, 0⟩) rfl n 0 (by omega) (by omega)
    refine this.trans ?_
    rw [Nat.sub_zero]
    cases grid (freeB l W need) W J 0 with
    | none => rfl
    | some x => rfl
  · simp only [h, if_false, fault_zero]
    rw [if_pos (by simp; intro q; exact h (by rw [q]))]

/-! ### valid lists -/
def Valid (J W : Nat) (l : List Evt) : Prop := ∀ (i : Nat) (h : i < l.length), ecode J W (l.take i) l[i] = 0
theorem scan_valid (J W : Nat) (l : List Evt) : ∀ (k i : Nat), i + k = l.length → (scan J W l k i = ⟨0, 0⟩ ↔ ∀ (x : Nat) (h : x < l.length), i ≤ x → ecode J W (l.take x) l[x] = 0)
  | 0, i, h => ⟨fun _ x hx hi => by omega, fun _ => rfl⟩
  | k + 1, i, h => by
    have hi : i < l.length := by omega
    rw [scan, getElem?_lt hi]
    simp only []
    have ih := scan_valid J W l k (i + 1) (by omega)
    by_cases c : ecode J W (l.take i) l[i] ≠ 0
    · rw [if_pos c]
      refine ⟨fun q => ?_, fun q => absurd (q i hi (Nat.le_refl _)) c⟩
      injection q with q
      exact absurd q c
    · rw [if_neg c, ih]
      refine ⟨fun q x hx h1 => ?_, fun q x hx h1 => q x hx (by omega)⟩
      by_cases e : x = i
      · subst e; exact Classical.not_not.1 c
      · exact q x hx (by omega)
theorem valid_iff {J W : Nat} {l : List Evt} : scan J W l l.length 0 = ⟨0, 0⟩ ↔ Valid J W l := by
  rw [scan_valid J W l l.length 0 (by omega)]
  exact ⟨fun q i h => q i h (by omega), fun q x h _ => q x h⟩
theorem Valid.init_of {J W : Nat} {l k : List Evt} (h : Valid J W (l ++ k)) : Valid J W l := fun i hi => by
  have := h i (by rw [List.length_append]; omega)
  rw [List.take_append_of_le_length (Nat.le_of_lt hi), List.getElem_append_left hi] at this
  exact this
theorem Valid.snoc {J W : Nat} {l : List Evt} {e : Evt} (h : Valid J W l) (he : ecode J W l e = 0) : Valid J W (l ++ [e]) := fun i hi => by
  rw [List.length_append, List.length_singleton] at hi
  by_cases q : i < l.length
  · rw [List.take_append_of_le_length (Nat.le_of_lt q), List.getElem_append_left q]; exact h i q
  · have : i = l.length := by omega
    subst this
    simpa using he
theorem snocRec {P : List Evt → Prop} (h0 : P []) (h1 : ∀ l e, P l → P (l ++ [e])) (l : List Evt) : P l := by
  have : ∀ k : List Evt, P k.reverse := fun k => by
    induction k with
    | nil => exact h0
    | cons a k ih => rw [List.reverse_cons]; exact h1 _ _ ih
  have h := this l.reverse
  rwa [List.reverse_reverse] at h

/-- what holds of a valid list -/
structure Laws (J W need : Nat) (p : List Evt) : Prop where
  inv : Inv J W need p
  yes : ∀ (j v : Int), accO p W need j = some v → need ≤ agree p j v W
  no : ∀ (j v : Int), 0 ≤ v → accO p W need j = none → agree p j v W < need
theorem agree_mono {p q : List Evt} {j v : Int} (h : ∀ w : Int, reported p w j = v → reported q w j = v) : ∀ k, agree p j v k ≤ agree q j v k
  | 0 => Nat.le_refl _
  | k + 1 => by
    have := agree_mono h k
    rw [agree_succ, agree_succ]
    by_cases c : reported p (k : Int) j = v
    · rw [if_pos c, if_pos (h _ c)]; omega
    · rw [if_neg c]; split <;> omega
theorem agree_congr {p q : List Evt} {j v : Int} (h : ∀ w : Int, reported p w j = v ↔ reported q w j = v) (k : Nat) : agree p j v k = agree q j v k :=
  Nat.le_antisymm (agree_mono (fun w => (h w).1) k) (agree_mono (fun w => (h w).2) k)
theorem laws_of {J W need : Nat} (hneed : 1 ≤ need) (l : List Evt) : Valid J W l → Laws J W need l := by
  refine snocRec (P := fun l => Valid J W l → Laws J W need l) ?_ ?_ l
  · intro _
    refine ⟨Inv.nil _ _ _, fun _ _ h => (by cases h), fun j v hv _ => ?_⟩
    have : ∀ k, agree [] j v k = 0 := fun k => by
      induction k with
      | zero => rfl
      | succ k ih => rw [agree_succ, ih, if_neg]; intro h; simp [reported, repO] at h; omega
    rw [this]; omega
  · intro p e ih hv
    have L := ih hv.init_of
    have he : ecode J W p e = 0 := by
      have := hv p.length (by simp)
      simpa using this
    have I := L.inv
    have I2 := I.ecode he
    refine ⟨I2, fun j v h => ?_, fun j v hv h => ?_⟩
    · rw [accO_app] at h
      cases ha : accO p W need j with
      | some x =>
        simp only [ha, Option.some_or, Option.some.injEq] at h
        subst h
        refine Nat.le_trans (L.yes j x ha) (agree_mono (fun w hw => ?_) W)
        rw [reported_app I, if_neg]
        · exact hw
        · rintro ⟨_, _, _, h4⟩
          have := I.ac _ _ ha
          unfold reported at hw
          rw [h4] at hw
          simp at hw
          omega
      | none =>
        simp only [ha, Option.none_or, winE] at h
        split at h
        · rename_i hk
          injection h with h
          subst h
          exact hk.2.2
        · cases h
    · rw [accO_app] at h
      cases ha : accO p W need j with
      | some x => simp [ha] at h
      | none =>
        simp only [ha, Option.none_or, winE] at h
        by_cases hk : e.Kind = 2 ∧ working p e.Worker = j ∧ e.Value = v
        · split at h
          · cases h
          · rename_i hq
            rw [← hk.2.2]
            exact Nat.lt_of_not_le fun c => hq ⟨hk.1, hk.2.1, c⟩
        · have := L.no j v hv ha
          rw [agree_congr (q := p) (fun w => ?_)]
          · exact this
          · rw [reported_app I]
            by_cases c : e.Kind = 2 ∧ e.Worker = w ∧ working p w = j ∧ repO p w j = none
            · rw [if_pos c]
              have h1 : reported p w j ≠ v := by unfold reported; rw [c.2.2.2]; simp; omega
              have h2 : e.Value ≠ v := fun q => hk ⟨c.1, by rw [c.2.1]; exact c.2.2.1, q⟩
              simp [h1, h2]
            · rw [if_neg c]
/-! ### what is once told stays -/
theorem repO_stays {w j v : Int} {p : List Evt} (h : repO p w j = some v) (q : List Evt) : repO (p ++ q) w j = some v := by
  refine snocRec (P := fun q => repO (p ++ q) w j = some v) (by simpa using h) (fun q e ih => ?_) q
  rw [← List.append_assoc, repO_app]
  unfold stepR
  rw [ih]
theorem accO_stays {j v : Int} {W need : Nat} {p : List Evt} (h : accO p W need j = some v) (q : List Evt) : accO (p ++ q) W need j = some v := by
  refine snocRec (P := fun q => accO (p ++ q) W need j = some v) (by simpa using h) (fun q e ih => ?_) q
  rw [← List.append_assoc, accO_app, ih]; rfl
end Go.Proofs.Ythnneojommdhjaa
