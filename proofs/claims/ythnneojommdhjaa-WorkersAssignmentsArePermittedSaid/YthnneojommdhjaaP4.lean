/- Workers: the play as a whole, and the reference's fault. -/
import Derived.Test.YthnneojommdhjaaP3
namespace Go.Proofs.Ythnneojommdhjaa
open Go.PW Go

theorem play_form {n J W need i : Nat} (hn : 100 < n) (hi : i < 100) (hW : W ≤ 100) (lp : List Int → List (List Int) → List Int → Int → Option PlayR) {p : List Evt} (I : Inv J W need p) (e : Evt) :
    (if (decide (e.Kind < 1)) = true then workers_play_j8 n (need : Int) (St p W) (Rp p J W) (Vl p J W need) (i : Int) lp e true
      else workers_play_j8 n (need : Int) (St p W) (Rp p J W) (Vl p J W need) (i : Int) lp e (decide (4 < e.Kind))) = after n lp J W need p e i (ecode J W p e) := by
  have hc : ∀ c : Int, c ≠ 0 → workers_play_j3 n (need : Int) (St p W) (Rp p J W) (Vl p J W need) (i : Int) lp e c = some (none, ⟨c, i⟩) := fun c hc => by
    unfold workers_play_j3
    rw [if_pos (by simp [hc]), play_j2c _ _ hc]
  have ha : ∀ c : Int, c ≠ 0 → after n lp J W need p e i c = some (none, ⟨c, i⟩) := fun c hc => by unfold after; rw [if_pos hc]
  have h3 := hc 3 (by decide)
  have h4 := hc 4 (by decide)
  have h5 := hc 5 (by decide)
  have a3 := ha 3 (by decide)
  have a4 := ha 4 (by decide)
  have a5 := ha 5 (by decide)
  have l1 : (Vl p J W need).length = J := tab_length _ _
  have l2 : (St p W).length = W := tab_length _ _
  unfold workers_play_j8 workers_play_j9 workers_play_j10 workers_play_j11
  simp only [h3, h4, h5, l1, l2]
  by_cases k0 : 1 ≤ e.Kind ∧ e.Kind ≤ 4
  · by_cases k1 : 0 ≤ e.Worker ∧ e.Worker < W
    · by_cases k2 : (e.Kind ≠ 1 ∧ e.Job ≠ 0) ∨ (e.Kind ≠ 2 ∧ e.Value ≠ 0)
      · have f : fcode J W e = 5 := by unfold fcode; simp [k0, k1, k2]
        have g : ecode J W p e = 5 := by unfold ecode; rw [f]; rfl
        rw [g, a5, if_neg (by simp; omega), if_neg (by simp; omega), if_neg (by simp; omega), if_neg (by simp; omega)]
        by_cases q1 : e.Kind = 1 <;> by_cases q2 : e.Kind = 2 <;> by_cases q3 : e.Job = 0 <;> by_cases q4 : e.Value = 0 <;> simp [q1, q2, q3, q4] <;> omega
      · by_cases k3 : (e.Kind = 1 ∧ ¬ (0 ≤ e.Job ∧ e.Job < J)) ∨ (e.Kind = 2 ∧ ¬ (0 ≤ e.Value ∧ e.Value ≤ 1000000000))
        · have f : fcode J W e = 3 := by unfold fcode; rw [if_neg (by omega), if_neg (by omega), if_neg k2, if_pos k3]
          have g : ecode J W p e = 3 := by unfold ecode; rw [f]; rfl
          rw [g, a3, if_neg (by simp; omega), if_neg (by simp; omega), if_neg (by simp; omega), if_neg (by simp; omega)]
          by_cases q1 : e.Kind = 1
          · have q4 : e.Value = 0 := by omega
            by_cases q5 : e.Job < 0
            · simp [q1, q4, q5]
            · have q6 : (J : Int) ≤ e.Job := by omega
              simp [q1, q4, q5, q6]
          · have q2 : e.Kind = 2 := by omega
            have q4 : e.Job = 0 := by omega
            by_cases q5 : e.Value < 0
            · simp [q2, q4, q5]
            · have q6 : 1000000000 < e.Value := by omega
              simp [q2, q4, q5, q6]
        · have f : fcode J W e = 0 := by unfold fcode; rw [if_neg (by omega), if_neg (by omega), if_neg k2, if_neg k3]
          have g : ecode J W p e = scode p e := by unfold ecode; rw [if_pos f]
          rw [g, ← play_j3 hn hi hW lp I f, if_neg (by simp; omega), if_neg (by simp; omega), if_neg (by simp; omega), if_neg (by simp; omega)]
          by_cases q1 : e.Kind = 1
          · have q4 : e.Value = 0 := by omega
            have q5 : ¬ e.Job < 0 := by omega
            have q6 : ¬ (J : Int) ≤ e.Job := by omega
            simp [q1, q4, q5, q6]
          · by_cases q2 : e.Kind = 2
            · have q4 : e.Job = 0 := by omega
              have q5 : ¬ e.Value < 0 := by omega
              have q6 : ¬ 1000000000 < e.Value := by omega
              simp [q2, q4, q5, q6]
            · have q4 : e.Job = 0 := by omega
              have q5 : e.Value = 0 := by omega
              simp [q1, q2, q4, q5]
    · have f : fcode J W e = 3 := by unfold fcode; rw [if_neg (by omega), if_pos (by omega)]
      have g : ecode J W p e = 3 := by unfold ecode; rw [f]; rfl
      rw [g, a3, if_neg (by simp; omega), if_neg (by simp; omega)]
      by_cases q : e.Worker < 0
      · simp [q]
      · have q6 : (W : Int) ≤ e.Worker := by omega
        simp [q, q6]
  · have f : fcode J W e = 4 := by unfold fcode; rw [if_pos k0]
    have g : ecode J W p e = 4 := by unfold ecode; rw [f]; rfl
    rw [g, a4]
    by_cases q : e.Kind < 1
    · simp [q]
    · have q6 : 4 < e.Kind := by omega
      simp [q, q6]

/-- the first fault from event i on -/
def scan (J W : Nat) (l : List Evt) : Nat → Nat → SCodeIndex
  | 0, _ => ⟨0, 0⟩
  | k + 1, i => match l[i]? with
    | some e => if ecode J W (l.take i) e ≠ 0 then ⟨ecode J W (l.take i) e, i⟩ else scan J W l k (i + 1)
    | none => ⟨0, 0⟩

theorem Inv.ecode {J W need : Nat} {p : List Evt} {e : Evt} (I : Inv J W need p) (h : ecode J W p e = 0) : Inv J W need (p ++ [e]) := by
  unfold Ythnneojommdhjaa.ecode at h
  split at h
  · rename_i hf; exact I.step hf h
  · contradiction

theorem EventsFault_l1 {n : Nat} (hn : 100 < n) {l : List Evt} (hl : l.length ≤ 100) {J W : Nat} (hJ : J ≤ 100) (hW : W ≤ 100) : ∀ (m i : Nat), i ≤ l.length → l.length - i < m →
    ref6_EventsFault_l1 n (J : Int) (W : Int) l m (i : Int) = some (scan J W l (l.length - i) i) := by
  intro m
  induction m with
  | zero => intro i _ h; omega
  | succ m ih =>
    intro i hi hm
    rw [ref6_EventsFault_l1]
    simp only [decide_eq_true_eq]
    by_cases h : i < l.length
    · rw [if_pos (by omega), eventCode_eq hn hl hJ hW h, bsome, show l.length - i = (l.length - (i + 1)) + 1 by omega, scan, getElem?_lt h]
      simp only []
      by_cases c : Ythnneojommdhjaa.ecode J W (l.take i) l[i] ≠ 0
      · rw [if_pos c, if_pos c]; rfl
      · rw [if_neg c, if_neg c, gadd_nat (by omega), bsome, ih (i + 1) (by omega) (by omega)]
    · rw [if_neg (by omega), show l.length - i = 0 by omega]; rfl

/-- what the play answers -/
def playR (l : List Evt) (J W need : Nat) (f : SCodeIndex) : PlayR := if f.Code = 0 then (some ⟨need, St l W, Rp l J W, Vl l J W need⟩, ⟨0, 0⟩) else (none, f)
theorem play_l2 {n : Nat} (hn : 100 < n) {l : List Evt} (hl : l.length < 100) {J W need : Nat} (hW : W ≤ 100) : ∀ (m i : Nat), i ≤ l.length → l.length - i < m → Inv J W need (l.take i) →
    workers_play_l2 n (need : Int) l m (St (l.take i) W) (Rp (l.take i) J W) (Vl (l.take i) J W need) (i : Int) = some (playR l J W need (scan J W l (l.length - i) i)) := by
  intro m
  induction m with
  | zero => intro i _ h; omega
  | succ m ih =>
    intro i hi hm I
    rw [workers_play_l2]
    rw [show (decide ((i : Int) < (l.length : Int))) = decide (i < l.length) by simp]
    by_cases h : i < l.length
    · rw [if_pos (by simp [h]), gidx_nat, getElem?_lt h, bsome, play_form hn (by omega) hW _ I, show l.length - i = (l.length - (i + 1)) + 1 by omega, scan, getElem?_lt h]
      simp only []
      unfold after
      by_cases c : Ythnneojommdhjaa.ecode J W (l.take i) l[i] ≠ 0
      · rw [if_pos c, if_pos c]
        unfold playR
        rw [if_neg c]
      · rw [if_neg c, if_neg c, ← List.take_succ_eq_append_getElem h]
        refine ih (i + 1) (by omega) (by omega) ?_
        rw [List.take_succ_eq_append_getElem h]
        exact I.ecode (Classical.not_not.1 c)
    · rw [if_neg (by simp [h]), show l.length - i = 0 by omega, List.take_of_length_le (by omega)]; rfl

theorem fill_l1 {n : Nat} (v : Int) (k : Nat) (hk : k ≤ 100) (w : List Int) (hw : w.length = k) : ∀ (m i : Nat), i ≤ k → k - i < m → ∀ u : List Int, u = tab k (fun x => if x < i then v else 0) →
    workers_fill_l1 n v w m u (i : Int) = some (tab k fun _ => v) := by
  intro m
  induction m with
  | zero => intro i _ h; omega
  | succ m ih =>
    intro i hi hm u hu
    rw [workers_fill_l1]
    subst hu
    rw [hw]
    by_cases h : i < k
    · rw [if_pos (by simp [h]), gidx_tab _ h, bsome, gadd_nat (by omega), bsome]
      refine ih (i + 1) (by omega) (by omega) _ ?_
      rw [gset_tab]
      apply tab_congr
      intro x _
      by_cases q : x = i
      · subst q; simp
      · by_cases q2 : x < i
        · rw [if_neg q, if_pos q2, if_pos (by omega)]
        · rw [if_neg q, if_neg q2, if_neg (by omega)]
    · rw [if_neg (by simp [h])]
      exact congrArg some (tab_congr fun x hx => by rw [if_pos (by omega)])
theorem fill_eq {n : Nat} (hn : 100 < n) (v : Int) {k : Nat} (hk : k ≤ 100) : workers_fill n (k : Int) v = some (tab k fun _ => v) := by
  unfold workers_fill
  rw [gmake_nat 0 (by omega), bsome]
  exact fill_l1 v k hk _ (by simp) n 0 (by omega) (by omega) _ (by rw [tab_const]; exact tab_congr fun x _ => by rw [if_neg (by omega)])

theorem play_l1 {n : Nat} (hn : 100 < n) {l : List Evt} {J W need : Nat} (hJ : J ≤ 100) (hW : W ≤ 100) (r2 r3 : List Int) : ∀ (m i : Nat), i ≤ J → J - i < m →
    workers_play_l1 n (J : Int) (W : Int) (need : Int) l r2 r3 m (tab i fun _ => tab W fun _ => -1) (i : Int) = workers_play_l2 n (need : Int) l n r2 (tab J fun _ => tab W fun _ => -1) r3 0 := by
  intro m
  induction m with
  | zero => intro i _ h; omega
  | succ m ih =>
    intro i hi hm
    rw [workers_play_l1]
    by_cases h : i < J
    · rw [if_pos (by simp [h]), fill_eq hn _ hW, bsome, gapp_ok (by simp; omega), bsome, gadd_nat (by omega), bsome, ← tab_succ i (fun _ => tab W fun _ => (-1 : Int))]
      exact ih (i + 1) (by omega) (by omega)
    · rw [if_neg (by simp [h]), show i = J by omega]

/-- the fault of a whole list, or none -/
def farm (a0 a1 a2 : Int) : Prop := (0 ≤ a0 ∧ a0 ≤ 12) ∧ (1 ≤ a1 ∧ a1 ≤ 8) ∧ 1 ≤ a2 ∧ a2 ≤ a1
instance (a0 a1 a2 : Int) : Decidable (farm a0 a1 a2) := by unfold farm; exact inferInstance
def EvF (a0 a1 a2 : Int) (l : List Evt) : SCodeIndex :=
  if ¬ farm a0 a1 a2 then ⟨3, -1⟩ else if 40 < l.length then ⟨2, -1⟩ else scan a0.toNat a1.toNat l l.length 0

theorem FarmFault_eq (n : Nat) (a0 a1 a2 : Int) : ref6_FarmFault n a0 a1 a2 = some (if farm a0 a1 a2 then ⟨0, 0⟩ else ⟨3, -1⟩) := by
  unfold ref6_FarmFault ref6_FarmFault_j1 ref6_fault
  simp only [ref_in, bsome]
  unfold farm
  by_cases h0 : 0 ≤ a0 ∧ a0 ≤ 12 <;> by_cases h1 : 1 ≤ a1 ∧ a1 ≤ 8 <;> by_cases h2 : 1 ≤ a2 ∧ a2 ≤ a1 <;> simp [h0, h1, h2]

theorem EventsFault_eq {n : Nat} (hn : 100 < n) (a0 a1 a2 : Int) (l : List Evt) : ref6_EventsFault n a0 a1 a2 l = some (EvF a0 a1 a2 l) := by
  unfold ref6_EventsFault EvF
  rw [FarmFault_eq, bsome]
  by_cases h : farm a0 a1 a2
  · simp only [h, if_true, not_true_eq_false, if_false]
    obtain ⟨J, hJ⟩ := natOf h.1.1
    obtain ⟨W, hW⟩ := natOf (show 0 ≤ a1 by have := h.2.1; omega)
    have h1 := h.1
    have h2 := h.2.1
    subst hJ hW
    by_cases hl : 40 < l.length
    · rw [if_neg (by simp), if_pos (by simp; omega), if_pos hl]; rfl
    · simp only [Int.toNat_natCast]
      rw [if_neg (by simp), if_neg (by simp; omega), if_neg hl]
      have := EventsFault_l1 hn (l := l) (by omega) (J := J) (W := W) (by omega) (by omega) n 0 (by omega) (by omega)
      exact this
  · simp [h]

theorem play_eq {n : Nat} (hn : 100 < n) (a0 a1 a2 : Int) (l : List Evt) : workers_play n a0 a1 a2 l = some (playR l a0.toNat a1.toNat a2.toNat (EvF a0 a1 a2 l)) := by
  have j1 : workers_play n a0 a1 a2 l = workers_play_j1 n a0 a1 a2 l (decide (¬ farm a0 a1 a2)) := by
    unfold workers_play farm
    by_cases q1 : a0 < 0
    · rw [if_pos (by simp [q1])]; congr 1; simp; omega
    rw [if_neg (by simp [q1])]
    by_cases q2 : 12 < a0
    · rw [if_pos (by simp [q2])]; congr 1; simp; omega
    rw [if_neg (by simp [q2])]
    by_cases q3 : a1 < 1
    · rw [if_pos (by simp [q3])]; congr 1; simp; omega
    rw [if_neg (by simp [q3])]
    by_cases q4 : 8 < a1
    · rw [if_pos (by simp [q4])]; congr 1; simp; omega
    rw [if_neg (by simp [q4])]
    by_cases q5 : a2 < 1
    · rw [if_pos (by simp [q5])]; congr 1; simp; omega
    rw [if_neg (by simp [q5])]
    congr 1
    by_cases q6 : a1 < a2
    · simp [q6]
    · rw [decide_eq_false q6, eq_comm, decide_eq_false_iff_not]; omega
  rw [j1]
  unfold workers_play_j1 EvF
  by_cases h : farm a0 a1 a2
  · have h1 := h.1
    have h2 := h.2
    simp only [h, not_true_eq_false, decide_false, Bool.false_eq_true, if_false, decide_eq_true_eq]
    obtain ⟨J, hJ⟩ := natOf h.1.1
    obtain ⟨W, hW⟩ := natOf (show 0 ≤ a1 by omega)
    obtain ⟨need, hN⟩ := natOf (show 0 ≤ a2 by omega)
    subst hJ hW hN
    by_cases hl : 40 < l.length
    · rw [if_pos (by omega), if_pos hl]; rfl
    · rw [if_neg (by omega), if_neg hl, fill_eq hn _ (by omega), bsome, fill_eq hn _ (by omega), bsome]
      have e1 := play_l1 hn (l := l) (need := need) (J := J) (W := W) (by omega) (by omega) (tab W fun _ => -1) (tab J fun _ => -1) n 0 (by omega) (by omega)
      have e2 := play_l2 hn (l := l) (by omega) (J := J) (W := W) (need := need) (by omega) n 0 (by omega) (by omega) (by rw [List.take_zero]; exact Inv.nil _ _ _)
      exact e1.trans e2
  · rw [if_pos (by simp [h]), if_pos h]; rfl
end Go.Proofs.Ythnneojommdhjaa
