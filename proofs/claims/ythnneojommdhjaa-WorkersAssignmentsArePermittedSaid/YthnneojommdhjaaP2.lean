/- Workers: one event, and the play. -/
import Derived.Test.YthnneojommdhjaaP1
namespace Go.Proofs.Ythnneojommdhjaa
open Go.PW Go

def fcode (J W : Nat) (e : Evt) : Int :=
  if ¬ (1 ≤ e.Kind ∧ e.Kind ≤ 4) then 4 else if ¬ (0 ≤ e.Worker ∧ e.Worker < W) then 3
  else if (e.Kind ≠ 1 ∧ e.Job ≠ 0) ∨ (e.Kind ≠ 2 ∧ e.Value ≠ 0) then 5
  else if (e.Kind = 1 ∧ ¬ (0 ≤ e.Job ∧ e.Job < J)) ∨ (e.Kind = 2 ∧ ¬ (0 ≤ e.Value ∧ e.Value ≤ 1000000000)) then 3 else 0
def scode (p : List Evt) (e : Evt) : Int :=
  if (e.Kind = 1 ∧ working p e.Worker ≠ -1) ∨ (e.Kind = 2 ∧ working p e.Worker < 0) ∨ (e.Kind = 3 ∧ working p e.Worker = -2) ∨ (e.Kind = 4 ∧ working p e.Worker ≠ -2) then 11
  else if e.Kind = 1 ∧ 0 ≤ reported p e.Worker e.Job then 7 else 0
def ecode (J W : Nat) (p : List Evt) (e : Evt) : Int := if fcode J W e = 0 then scode p e else fcode J W e

theorem ref_in (n : Nat) (a b c : Int) : ref6_in n a b c = some (decide (b ≤ a ∧ a ≤ c)) := by
  unfold ref6_in ref6_in_j1
  by_cases h : b ≤ a <;> simp [h]
theorem law_in (n : Nat) (a b c : Int) : law6_in n a b c = some (decide (b ≤ a ∧ a ≤ c)) := by
  unfold law6_in law6_in_j1
  by_cases h : b ≤ a <;> simp [h]

theorem eventCode_j3 {n : Nat} (hn : 100 < n) {l : List Evt} (hl : l.length ≤ 100) {i : Nat} (hi : i ≤ l.length) (e : Evt) (b : Bool) :
    ref6_eventCode_j3 n l (i : Int) e b = some (if b = true then 11 else if e.Kind = 1 ∧ 0 ≤ reported (l.take i) e.Worker e.Job then 7 else 0) := by
  unfold ref6_eventCode_j3 ref6_eventCode_j4
  cases b
  · simp only [Bool.false_eq_true, if_false, decide_eq_true_eq]
    by_cases k : e.Kind = 1
    · rw [if_pos k, gcut_take hi, bsome, Reported_eq hn (by simp; omega), bsome]
      by_cases r : 0 ≤ reported (l.take i) e.Worker e.Job <;> simp [k, r]
    · rw [if_neg k]; simp [k]
  · rfl
theorem eventCode_j2 {n : Nat} (hn : 100 < n) {l : List Evt} (hl : l.length ≤ 100) {i : Nat} (hi : i ≤ l.length) (e : Evt) (b : Bool) :
    ref6_eventCode_j2 n l (i : Int) e b = some (if b = true then 3 else scode (l.take i) e) := by
  unfold ref6_eventCode_j2
  rw [gcut_take hi, bsome, WorkingOn_eq hn (by simp; omega), bsome]
  simp only [eventCode_j3 hn hl hi, decide_eq_true_eq]
  cases b
  · simp only [Bool.false_eq_true, if_false]
    unfold scode
    generalize working (l.take i) e.Worker = s
    generalize (if e.Kind = 1 ∧ 0 ≤ reported (l.take i) e.Worker e.Job then (7 : Int) else 0) = z
    by_cases k1 : e.Kind = 1
    · by_cases k5 : s = -1 <;> simp [k1, k5]
    · by_cases k2 : e.Kind = 2
      · by_cases k5 : s < 0 <;> simp [k2, k5]
      · by_cases k3 : e.Kind = 3
        · by_cases k5 : s = -2 <;> simp [k3, k5]
        · by_cases k4 : e.Kind = 4
          · by_cases k5 : s = -2 <;> simp [k4, k5]
          · simp [k1, k2, k3, k4]
  · rfl

theorem eventCode_eq {n : Nat} (hn : 100 < n) {l : List Evt} (hl : l.length ≤ 100) {J W i : Nat} (hJ : J ≤ 100) (hW : W ≤ 100) (hi : i < l.length) :
    ref6_eventCode n (J : Int) (W : Int) l (i : Int) = some (ecode J W (l.take i) l[i]) := by
  unfold ref6_eventCode
  rw [gidx_nat, getElem?_lt hi, bsome]
  generalize l[i] = e
  rw [ref_in, bsome, gsubI (by omega), bsome, ref_in, bsome]
  unfold ref6_eventCode_j1
  rw [gsubI (by omega)]
  simp only [bsome, ref_in, eventCode_j2 hn hl (Nat.le_of_lt hi), decide_eq_true_eq, Bool.not_eq_true', decide_eq_false_iff_not]
  unfold ecode fcode
  generalize scode (l.take i) e = z
  by_cases k0 : 1 ≤ e.Kind ∧ e.Kind ≤ 4
  · by_cases k1 : 0 ≤ e.Worker ∧ e.Worker < W
    · have k1' : 0 ≤ e.Worker ∧ e.Worker ≤ W - 1 := by omega
      by_cases k2 : e.Kind = 1
      · by_cases k3 : e.Value = 0
        · by_cases k4 : 0 ≤ e.Job ∧ e.Job < J
          · have k4' : 0 ≤ e.Job ∧ e.Job ≤ J - 1 := by omega
            simp [k0, k1, k1', k2, k3, k4, k4']
          · have k4' : ¬ (0 ≤ e.Job ∧ e.Job ≤ J - 1) := by omega
            simp [k0, k1, k1', k2, k3, k4, k4']
        · simp [k0, k1, k1', k2, k3]
      · by_cases k3 : e.Job = 0
        · by_cases k4 : e.Kind = 2
          · by_cases k5 : 0 ≤ e.Value ∧ e.Value ≤ 1000000000
            · simp [k0, k1, k1', k2, k3, k4, k5]
            · simp [k0, k1, k1', k2, k3, k4, k5]
          · by_cases k5 : e.Value = 0
            · simp [k0, k1, k1', k2, k3, k4, k5]
            · simp [k0, k1, k1', k2, k3, k4, k5]
        · simp [k0, k1, k1', k2, k3]
    · have k1' : ¬ (0 ≤ e.Worker ∧ e.Worker ≤ W - 1) := by omega
      simp [k0, k1, k1']
  · simp [k0]

/-! ### what one event changes -/
theorem working_app (p : List Evt) (e : Evt) (w : Int) : working (p ++ [e]) w = stepW w (working p w) e := by
  unfold working; rw [List.foldl_append]; rfl
theorem repO_app (p : List Evt) (e : Evt) (w j : Int) : repO (p ++ [e]) w j = (stepR w j (working p w, repO p w j) e).2 := by
  unfold repO
  rw [List.foldl_append]
  have := stepR_fst w j p (-1, none)
  rw [show (List.foldl (stepR w j) (List.foldl (stepR w j) (-1, none) p) [e]) = stepR w j (List.foldl (stepR w j) (-1, none) p) e from rfl,
    show List.foldl (stepR w j) (-1, none) p = (working p w, (List.foldl (stepR w j) (-1, none) p).2) from Prod.ext this rfl]
def winE (p : List Evt) (e : Evt) (W need : Nat) (j : Int) : Option Int := if e.Kind = 2 ∧ working p e.Worker = j ∧ need ≤ agree (p ++ [e]) j e.Value W then some e.Value else none
theorem accO_app (p : List Evt) (e : Evt) (W need : Nat) (j : Int) : accO (p ++ [e]) W need j = (accO p W need j).or (winE p e W need j) := by
  unfold accO
  rw [List.length_append, List.length_singleton, List.range_succ, List.findSome?_append]
  have h1 : List.findSome? (wins (p ++ [e]) W need j) (List.range p.length) = List.findSome? (wins p W need j) (List.range p.length) := by
    have key : ∀ (r : List Nat), (∀ x ∈ r, x < p.length) → List.findSome? (wins (p ++ [e]) W need j) r = List.findSome? (wins p W need j) r := by
      intro r
      induction r with
      | nil => intro _; rfl
      | cons a r ih =>
        intro h
        have ha : a < p.length := h a List.mem_cons_self
        have : wins (p ++ [e]) W need j a = wins p W need j a := by
          unfold wins
          rw [List.getElem?_append_left ha, List.take_append_of_le_length (Nat.le_of_lt ha), List.take_append_of_le_length ha]
        rw [List.findSome?_cons, List.findSome?_cons, this, ih (fun x hx => h x (List.mem_cons_of_mem _ hx))]
    exact key _ (fun x hx => List.mem_range.1 hx)
  have h2 : List.findSome? (wins (p ++ [e]) W need j) [p.length] = winE p e W need j := by
    have : wins (p ++ [e]) W need j p.length = winE p e W need j := by
      unfold wins winE
      rw [List.take_of_length_le (by simp : (p ++ [e]).length ≤ p.length + 1)]
      simp
    rw [List.findSome?_cons, this]
    cases winE p e W need j <;> rfl
  rw [h1, h2]

structure Inv (J W need : Nat) (p : List Evt) : Prop where
  st : ∀ w : Int, working p w = -1 ∨ working p w = -2 ∨ (0 ≤ working p w ∧ working p w < J)
  fr : ∀ w j : Int, 0 ≤ j → working p w = j → repO p w j = none
  rp : ∀ (w j : Int) (v : Int), repO p w j = some v → 0 ≤ v
  ac : ∀ (j : Int) (v : Int), accO p W need j = some v → 0 ≤ v
theorem Inv.nil (J W need : Nat) : Inv J W need [] := ⟨fun _ => .inl rfl, fun _ _ _ _ => rfl, fun _ _ _ h => (by cases h), fun _ _ h => (by cases h)⟩
theorem Inv.reported_neg {J W need : Nat} {p : List Evt} (I : Inv J W need p) {w j : Int} : reported p w j < 0 ↔ repO p w j = none := by
  unfold reported
  cases h : repO p w j with
  | none => simp
  | some v => have := I.rp _ _ _ h; simp; omega
theorem Inv.accepted_neg {J W need : Nat} {p : List Evt} (I : Inv J W need p) {j : Int} : accepted p W need j < 0 ↔ accO p W need j = none := by
  unfold accepted
  cases h : accO p W need j with
  | none => simp
  | some v => have := I.ac _ _ h; simp; omega

theorem fcode_zero {J W : Nat} {e : Evt} (h : fcode J W e = 0) : (1 ≤ e.Kind ∧ e.Kind ≤ 4) ∧ (0 ≤ e.Worker ∧ e.Worker < W) ∧
    (e.Kind ≠ 1 → e.Job = 0) ∧ (e.Kind ≠ 2 → e.Value = 0) ∧ (e.Kind = 1 → 0 ≤ e.Job ∧ e.Job < J) ∧ (e.Kind = 2 → 0 ≤ e.Value ∧ e.Value ≤ 1000000000) := by
  unfold fcode at h
  split at h
  · cases h
  · split at h
    · cases h
    · split at h
      · cases h
      · split at h
        · cases h
        · omega

theorem Inv.step {J W need : Nat} {p : List Evt} {e : Evt} (I : Inv J W need p) (hf : fcode J W e = 0) (hs : scode p e = 0) : Inv J W need (p ++ [e]) := by
  obtain ⟨f1, f2, f3, f4, f5, f6⟩ := fcode_zero hf
  have hs' : ¬ ((e.Kind = 1 ∧ working p e.Worker ≠ -1) ∨ (e.Kind = 2 ∧ working p e.Worker < 0) ∨ (e.Kind = 3 ∧ working p e.Worker = -2) ∨ (e.Kind = 4 ∧ working p e.Worker ≠ -2)) ∧ ¬ (e.Kind = 1 ∧ 0 ≤ reported p e.Worker e.Job) := by
    unfold scode at hs
    split at hs
    · cases hs
    · split at hs
      · cases hs
      · exact ⟨by assumption, by assumption⟩
  refine ⟨?_, ?_, ?_, ?_⟩
  · intro w
    rw [working_app]
    unfold stepW
    have := I.st w
    have := I.st e.Worker
    split
    · assumption
    · split
      · omega
      · split <;> omega
  · intro w j hj hw
    rw [working_app] at hw
    rw [repO_app]
    unfold stepR
    unfold stepW at hw
    split at hw
    · rename_i hne
      simp only [I.fr w j hj hw]
      rw [if_neg (by rintro ⟨_, h, _⟩; exact hne h)]
    · rename_i heq
      have heq : e.Worker = w := Classical.not_not.1 heq
      split at hw
      · rename_i k1
        have : repO p w j = none := by
          apply I.reported_neg.1
          have := hs'.2
          rw [heq, hw] at this
          omega
        simp only [this]
        rw [if_neg (by omega)]
      · split at hw <;> omega
  · intro w j v hv
    rw [repO_app] at hv
    unfold stepR at hv
    cases h : repO p w j with
    | some x => simp only [h, Option.some.injEq] at hv; subst hv; exact I.rp _ _ _ h
    | none =>
      simp only [h] at hv
      split at hv
      · rename_i hk
        injection hv with hv
        have := f6 hk.1
        omega
      · cases hv
  · intro j v hv
    rw [accO_app] at hv
    cases h : accO p W need j with
    | some x => simp only [h, Option.some_or, Option.some.injEq] at hv; subst hv; exact I.ac _ _ h
    | none =>
      simp only [h, Option.none_or, winE] at hv
      split at hv
      · rename_i hk
        injection hv with hv
        have := f6 hk.1
        omega
      · cases hv
end Go.Proofs.Ythnneojommdhjaa
