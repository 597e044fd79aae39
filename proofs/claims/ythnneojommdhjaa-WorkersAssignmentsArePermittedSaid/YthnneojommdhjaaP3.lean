/- Workers: what the play computes. -/
import Derived.Test.YthnneojommdhjaaP2
namespace Go.Proofs.Ythnneojommdhjaa
open Go.PW Go

abbrev PlayR := Option SNeedStateReportsValues × SCodeIndex
def St (p : List Evt) (W : Nat) : List Int := tab W fun w => working p w
def Rw (p : List Evt) (W : Nat) (j : Int) : List Int := tab W fun w => reported p w j
def Rp (p : List Evt) (J W : Nat) : List (List Int) := tab J fun j => Rw p W j
def Vl (p : List Evt) (J W need : Nat) : List Int := tab J fun j => accepted p W need j
theorem reported_app {J W need : Nat} {p : List Evt} (I : Inv J W need p) (e : Evt) (w j : Int) :
    reported (p ++ [e]) w j = if e.Kind = 2 ∧ e.Worker = w ∧ working p w = j ∧ repO p w j = none then e.Value else reported p w j := by
  unfold reported
  rw [repO_app]
  unfold stepR
  cases h : repO p w j with
  | some v => simp
  | none => by_cases k : e.Kind = 2 ∧ e.Worker = w ∧ working p w = j <;> simp [k]
theorem accepted_app (p : List Evt) (e : Evt) (W need : Nat) (j : Int) :
    accepted (p ++ [e]) W need j = if accO p W need j = none ∧ e.Kind = 2 ∧ working p e.Worker = j ∧ need ≤ agree (p ++ [e]) j e.Value W then e.Value else accepted p W need j := by
  unfold accepted
  rw [accO_app]
  unfold winE
  cases h : accO p W need j with
  | some v => simp
  | none => by_cases k : e.Kind = 2 ∧ working p e.Worker = j ∧ need ≤ agree (p ++ [e]) j e.Value W <;> simp [k]
theorem St_app (p : List Evt) (e : Evt) (W w : Nat) (h : e.Worker = w) : St (p ++ [e]) W = gset (St p W) (w : Int) (stepW w (working p w) e) := by
  unfold St
  rw [gset_tab]
  apply tab_congr
  intro x _
  rw [working_app]
  by_cases k : x = w
  · rw [if_pos k, k]
  · rw [if_neg k]
    unfold stepW
    rw [if_pos (by omega)]
theorem Rp_same {J W need : Nat} {p : List Evt} (I : Inv J W need p) {e : Evt} (h : e.Kind ≠ 2) : Rp (p ++ [e]) J W = Rp p J W :=
  tab_congr fun j _ => tab_congr fun w _ => by rw [reported_app I, if_neg (by omega)]
theorem Vl_same (p : List Evt) {e : Evt} (J W need : Nat) (h : e.Kind ≠ 2) : Vl (p ++ [e]) J W need = Vl p J W need :=
  tab_congr fun j _ => by rw [accepted_app, if_neg (by rintro ⟨_, k, _⟩; exact h k)]
theorem Rw_app {J W need : Nat} {p : List Evt} (I : Inv J W need p) {e : Evt} {w j : Nat} (hk : e.Kind = 2) (h : e.Worker = w) (hj : working p w = j) :
    Rw (p ++ [e]) W j = gset (Rw p W j) (w : Int) e.Value := by
  unfold Rw
  rw [gset_tab]
  apply tab_congr
  intro x _
  rw [reported_app I]
  by_cases k : x = w
  · subst k
    rw [if_pos rfl, if_pos ⟨hk, h, hj, I.fr _ _ (by omega) hj⟩]
  · rw [if_neg k, if_neg (by omega)]
theorem Rp_app {J W need : Nat} {p : List Evt} (I : Inv J W need p) {e : Evt} {w j : Nat} (hk : e.Kind = 2) (h : e.Worker = w) (hj : working p w = j) :
    Rp (p ++ [e]) J W = gset (Rp p J W) (j : Int) (gset (Rw p W j) (w : Int) e.Value) := by
  unfold Rp
  rw [gset_tab]
  apply tab_congr
  intro y _
  by_cases ky : y = j
  · subst ky
    rw [if_pos rfl]
    exact Rw_app I hk h hj
  · rw [if_neg ky]
    exact tab_congr fun x _ => by
      rw [reported_app I, if_neg]
      rintro ⟨_, k1, k2, _⟩
      rw [← k1, h, hj] at k2
      omega
theorem Vl_app (p : List Evt) {e : Evt} {J W need w j : Nat} (hk : e.Kind = 2) (h : e.Worker = w) (hj : working p w = j) :
    Vl (p ++ [e]) J W need = if accO p W need j = none ∧ need ≤ agree (p ++ [e]) j e.Value W then gset (Vl p J W need) (j : Int) e.Value else Vl p J W need := by
  unfold Vl
  by_cases c : accO p W need j = none ∧ need ≤ agree (p ++ [e]) j e.Value W
  · rw [if_pos c, gset_tab]
    apply tab_congr
    intro y _
    rw [accepted_app]
    by_cases ky : y = j
    · subst ky
      rw [if_pos ⟨c.1, hk, by rw [h]; exact hj, c.2⟩, if_pos rfl]
    · rw [if_neg ky, if_neg]
      rintro ⟨_, _, k, _⟩
      rw [h, hj] at k
      omega
  · rw [if_neg c]
    apply tab_congr
    intro y _
    rw [accepted_app, if_neg]
    rintro ⟨k1, _, k3, k4⟩
    rw [h, hj] at k3
    have : y = j := by omega
    subst this
    exact c ⟨k1, k4⟩

/-- the result after the event: the fault, or on -/
def after (n : Nat) (lp : List Int → List (List Int) → List Int → Int → Option PlayR) (J W need : Nat) (p : List Evt) (e : Evt) (i : Nat) (c : Int) : Option PlayR :=
  if c ≠ 0 then some (none, ⟨c, i⟩) else lp (St (p ++ [e]) W) (Rp (p ++ [e]) J W) (Vl (p ++ [e]) J W need) ((i + 1 : Nat) : Int)

theorem play_j2z {n i : Nat} (hi : i < 100) (lp : List Int → List (List Int) → List Int → Int → Option PlayR) (a : List Int) (b : List (List Int)) (c : List Int) :
    workers_play_j2 n (i : Int) lp 0 a b c = lp a b c ((i + 1 : Nat) : Int) := by
  unfold workers_play_j2
  rw [if_neg (by simp), gadd_nat (by omega), bsome]
theorem play_j2c {n i : Nat} (lp : List Int → List (List Int) → List Int → Int → Option PlayR) (x : Int) (hx : x ≠ 0) (a : List Int) (b : List (List Int)) (c : List Int) :
    workers_play_j2 n (i : Int) lp x a b c = some (none, ⟨x, i⟩) := by
  unfold workers_play_j2
  rw [if_pos (by simp [hx])]

theorem play_l3 {n J W need i : Nat} (hi : i < 100) (hW : W ≤ 100) (lp : List Int → List (List Int) → List Int → Int → Option PlayR) {p : List Evt} (I : Inv J W need p) {e : Evt} {w j : Nat}
    (hw : e.Worker = w) (hk : e.Kind = 2) (hj : working p w = j) (hjJ : j < J) (hs : scode p e = 0) : ∀ (m k c : Nat), k ≤ W → W - k < m → c = agree (p ++ [e]) j e.Value k →
    workers_play_l3 n (need : Int) (St p W) (Rp p J W) (Vl p J W need) (i : Int) lp e (j : Int) (Rw p W j) (Rw (p ++ [e]) W j) m c k = after n lp J W need p e i 0 := by
  intro m
  induction m with
  | zero => intro k c _ h; omega
  | succ m ih =>
    intro k c hk' hm hc
    have hcl := agree_le (p ++ [e]) j e.Value k
    rw [workers_play_l3]
    have hlen : (Rw (p ++ [e]) W j).length = W := tab_length _ _
    simp only [decide_eq_true_eq, hlen]
    by_cases h : k < W
    · rw [if_pos (by omega)]
      rw [show gidx (Rw (p ++ [e]) W j) (k : Int) = some (reported (p ++ [e]) k j) from gidx_tab _ h, bsome]
      have hsu := agree_succ (p ++ [e]) j e.Value k
      unfold workers_play_j6
      by_cases hr : reported (p ++ [e]) (k : Int) j = e.Value
      · rw [if_pos hr] at hsu ⊢
        rw [gadd_nat (by omega), bsome, gadd_nat (by omega), bsome]
        exact ih (k + 1) (c + 1) (by omega) (by omega) (by omega)
      · rw [if_neg hr] at hsu ⊢
        rw [gadd_nat (by omega), bsome]
        exact ih (k + 1) c (by omega) (by omega) (by omega)
    · have : k = W := by omega
      subst this
      rw [if_neg (by omega)]
      have e37 : gidx (Vl p J k need) (j : Int) = some (accepted p k need j) := gidx_tab _ hjJ
      have hst := St_app p e k w hw
      have hsw : stepW w (working p w) e = -1 := by unfold stepW; rw [if_neg (by omega), if_neg (by omega), if_neg (by omega)]
      rw [hsw] at hst
      have j5 : ∀ v, workers_play_j5 n (St p k) (Rp p J k) (i : Int) lp e (j : Int) (Rw p k j) v = lp (St (p ++ [e]) k) (Rp (p ++ [e]) J k) v ((i + 1 : Nat) : Int) := fun v => by
        unfold workers_play_j5 workers_play_j4
        rw [play_j2z hi, hw, hst, Rp_app I hk hw hj]
      have ea : after n lp J k need p e i 0 = lp (St (p ++ [e]) k) (Rp (p ++ [e]) J k) (if accO p k need j = none ∧ need ≤ agree (p ++ [e]) j e.Value k then gset (Vl p J k need) (j : Int) e.Value else Vl p J k need) ((i + 1 : Nat) : Int) := by
        unfold after
        rw [if_neg (by simp), Vl_app p hk hw hj]
      rw [ea]
      unfold workers_play_j7
      by_cases hq : need ≤ c
      · rw [if_pos (by omega), e37, bsome]
        by_cases ha : accepted p k need j < 0
        · rw [if_pos (by simp [ha]), bsome, j5, if_pos ⟨I.accepted_neg.1 ha, by omega⟩]
        · rw [if_neg (by simp [ha]), j5, if_neg (fun h => ha (I.accepted_neg.2 h.1))]
      · rw [if_neg (by omega), if_neg (by simp), j5, if_neg (fun h => hq (hc ▸ h.2))]

theorem play_j3 {n J W need i : Nat} (hn : 100 < n) (hi : i < 100) (hW : W ≤ 100) (lp : List Int → List (List Int) → List Int → Int → Option PlayR) {p : List Evt} (I : Inv J W need p) {e : Evt} (hf : fcode J W e = 0) :
    workers_play_j3 n (need : Int) (St p W) (Rp p J W) (Vl p J W need) (i : Int) lp e 0 = after n lp J W need p e i (scode p e) := by
  obtain ⟨f1, ⟨f2, f2'⟩, f3, f4, f5, f6⟩ := fcode_zero hf
  obtain ⟨w, hw⟩ := natOf f2
  have hwW : w < W := by omega
  unfold workers_play_j3
  rw [if_neg (by simp), hw, show gidx (St p W) (w : Int) = some (working p w) from gidx_tab _ hwW, bsome]
  simp only [decide_eq_true_eq]
  have hst := St_app p e W w hw
  have s0 : scode p e = scode p e := rfl
  by_cases k1 : e.Kind = 1
  · rw [if_pos k1]
    by_cases a : working p w = -1
    · obtain ⟨j, hj⟩ := natOf (f5 k1).1
      have hjJ : j < J := by have := (f5 k1).2; omega
      rw [if_neg (by omega), hj, show gidx (Rp p J W) (j : Int) = some (Rw p W j) from gidx_tab _ hjJ, bsome, show gidx (Rw p W j) (w : Int) = some (reported p w j) from gidx_tab _ hwW, bsome]
      by_cases b : 0 ≤ reported p w j
      · have s : scode p e = 7 := by unfold scode; simp [k1, hw, hj, a, b]
        rw [if_pos b, play_j2c _ _ (by decide), s]; rfl
      · have s : scode p e = 0 := by unfold scode; simp [k1, hw, hj, a, b]
        rw [if_neg b, s]
        unfold workers_play_j4 after
        rw [play_j2z hi, if_neg (by simp), hst, Rp_same I (by omega), Vl_same _ _ _ _ (by omega)]
        unfold stepW
        rw [if_neg (by omega), if_pos k1, hj]
    · have s : scode p e = 11 := by unfold scode; simp [k1, hw, a]
      rw [if_pos a, play_j2c _ _ (by decide), s]; rfl
  · rw [if_neg k1]
    by_cases k2 : e.Kind = 2
    · rw [if_pos k2]
      by_cases a : working p w < 0
      · have s : scode p e = 11 := by unfold scode; simp [k2, hw, a]
        rw [if_pos a, play_j2c _ _ (by decide), s]; rfl
      · have s : scode p e = 0 := by unfold scode; simp [k2, hw, a]
        obtain ⟨j, hj⟩ := natOf (show 0 ≤ working p w by omega)
        have hjJ : j < J := by have := I.st w; omega
        rw [if_neg a, hj, show gidx (Rp p J W) (j : Int) = some (Rw p W j) from gidx_tab _ hjJ, bsome, show gidx (Rw p W j) (w : Int) = some (reported p w j) from gidx_tab _ hwW, bsome, s]
        rw [← Rp_app I k2 hw hj, show gidx (Rp (p ++ [e]) J W) (j : Int) = some (Rw (p ++ [e]) W j) from gidx_tab _ hjJ, bsome]
        exact play_l3 hi hW lp I hw k2 hj hjJ s n 0 0 (by omega) (by omega) (by simp [agree])
    · rw [if_neg k2]
      by_cases k3 : e.Kind = 3
      · rw [if_pos k3]
        by_cases a : working p w = -2
        · have s : scode p e = 11 := by unfold scode; simp [k3, hw, a]
          rw [if_pos a, play_j2c _ _ (by decide), s]; rfl
        · have s : scode p e = 0 := by unfold scode; simp [k3, hw, a]
          rw [if_neg a, s]
          unfold workers_play_j4 after
          rw [play_j2z hi, if_neg (by simp), hst, Rp_same I (by omega), Vl_same _ _ _ _ (by omega)]
          unfold stepW
          rw [if_neg (by omega), if_neg k1, if_pos k3]
      · rw [if_neg k3]
        have k4 : e.Kind = 4 := by omega
        by_cases a : working p w = -2
        · have s : scode p e = 0 := by unfold scode; simp [k4, hw, a]
          rw [if_neg (by omega), s]
          unfold workers_play_j4 after
          rw [play_j2z hi, if_neg (by simp), hst, Rp_same I (by omega), Vl_same _ _ _ _ (by omega)]
          unfold stepW
          rw [if_neg (by omega), if_neg k1, if_neg k3]
        · have s : scode p e = 11 := by unfold scode; simp [k4, hw, a]
          rw [if_pos a, play_j2c _ _ (by decide), s]; rfl
end Go.Proofs.Ythnneojommdhjaa
