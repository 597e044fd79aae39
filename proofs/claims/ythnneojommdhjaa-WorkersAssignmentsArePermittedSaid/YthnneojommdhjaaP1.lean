/- Workers: what the reference functions compute, said plainly. -/
import Derived.Test.YthnneojommdhjaaD
import Derived.Test.YthnneojommdhjaaPwPlain
namespace Go.Proofs.Ythnneojommdhjaa
open Go.PW Go

theorem farms_ok : law6_farms 200 = some true := by decide +kernel

abbrev Evt := SKindWorkerJobValue
def stepW (w now : Int) (e : Evt) : Int := if e.Worker ≠ w then now else if e.Kind = 1 then e.Job else if e.Kind = 3 then -2 else -1
def working (l : List Evt) (w : Int) : Int := l.foldl (stepW w) (-1)

theorem WorkingOn_l1 (n : Nat) (l : List Evt) (w : Int) (hl : l.length ≤ 100) : ∀ (m i : Nat) (now : Int), i ≤ l.length → l.length - i < m →
    ref6_WorkingOn_l1 n l w m now i = some ((l.drop i).foldl (stepW w) now) := by
  intro m
  induction m with
  | zero => intro i now _ h; omega
  | succ m ih =>
    intro i now hi hm
    rw [ref6_WorkingOn_l1]
    by_cases h : i < l.length
    · have key : ∀ x, ref6_WorkingOn_j1 n i (ref6_WorkingOn_l1 n l w m) x = some ((l.drop (i + 1)).foldl (stepW w) x) := fun x => by
        unfold ref6_WorkingOn_j1
        rw [gadd_nat (by omega), bsome]
        exact ih (i + 1) x (by omega) (by omega)
      rw [List.drop_eq_getElem_cons h, List.foldl_cons]
      simp only [gidx_nat, getElem?_lt h, bsome, key, decide_eq_true_eq, stepW]
      rw [if_pos (by omega)]
      split
      · rfl
      · split
        · rfl
        · split <;> rfl
    · rw [List.drop_eq_nil_of_le (by omega)]
      simp only [decide_eq_true_eq]
      rw [if_neg (by omega)]; rfl
theorem WorkingOn_eq {n : Nat} {l : List Evt} {w : Int} (hn : 100 < n) (hl : l.length ≤ 100) : ref6_WorkingOn n l w = some (working l w) := by
  unfold ref6_WorkingOn
  have := WorkingOn_l1 n l w hl n 0 (-1) (by omega) (by omega)
  simpa [working] using this

/-! ### Reported -/
def stepR (w j : Int) (s : Int × Option Int) (e : Evt) : Int × Option Int :=
  (stepW w s.1 e, match s.2 with | some v => some v | none => if e.Kind = 2 ∧ e.Worker = w ∧ s.1 = j then some e.Value else none)
def repO (l : List Evt) (w j : Int) : Option Int := (l.foldl (stepR w j) (-1, none)).2
def reported (l : List Evt) (w j : Int) : Int := (repO l w j).getD (-1)
theorem stepR_fst (w j : Int) : ∀ (l : List Evt) (s : Int × Option Int), (l.foldl (stepR w j) s).1 = l.foldl (stepW w) s.1
  | [], _ => rfl
  | e :: l, s => by rw [List.foldl_cons, stepR_fst w j l]; rfl
theorem stepR_found (w j : Int) : ∀ (l : List Evt) (a v : Int), (l.foldl (stepR w j) (a, some v)).2 = some v
  | [], _, _ => rfl
  | e :: l, a, v => by rw [List.foldl_cons]; exact stepR_found w j l _ v

theorem take_working (l : List Evt) (w : Int) (i : Nat) (h : i < l.length) : working (l.take (i + 1)) w = stepW w (working (l.take i) w) l[i] := by
  unfold working
  rw [List.take_succ_eq_append_getElem h, List.foldl_append]; rfl

theorem Reported_l1 (n : Nat) (hn : 100 < n) (l : List Evt) (w j : Int) (hl : l.length ≤ 100) : ∀ (m i : Nat), i ≤ l.length → l.length - i < m →
    ref6_Reported_l1 n l w j m i = some (((l.drop i).foldl (stepR w j) (working (l.take i) w, none)).2.getD (-1)) := by
  intro m
  induction m with
  | zero => intro i _ h; omega
  | succ m ih =>
    intro i hi hm
    rw [ref6_Reported_l1]
    by_cases h : i < l.length
    · have no : ref6_Reported_j1 n l i (ref6_Reported_l1 n l w j m) false = some (((l.drop (i + 1)).foldl (stepR w j) (working (l.take (i + 1)) w, none)).2.getD (-1)) := by
        unfold ref6_Reported_j1
        simp only [Bool.false_eq_true, if_false]
        rw [gadd_nat (by omega), bsome]
        exact ih (i + 1) (by omega) (by omega)
      have yes : ref6_Reported_j1 n l i (ref6_Reported_l1 n l w j m) true = some l[i].Value := by
        unfold ref6_Reported_j1
        simp only [if_true, gidx_nat, getElem?_lt h, bsome]
      rw [List.drop_eq_getElem_cons h, List.foldl_cons]
      simp only [gidx_nat, getElem?_lt h, bsome, decide_eq_true_eq, gcut_take (Nat.le_of_lt h)]
      rw [WorkingOn_eq hn (by simp; omega)]
      simp only [bsome]
      rw [if_pos (by omega)]
      have tw := take_working l w i h
      by_cases k1 : l[i].Kind = 2
      · rw [if_pos k1]
        by_cases k2 : l[i].Worker = w
        · rw [if_pos k2]
          by_cases k3 : working (l.take i) w = j
          · simp only [k3, decide_true, yes, stepR, k1, k2, and_self, if_true]
            rw [stepR_found]; rfl
          · simp only [k3, decide_false, no, tw, stepR, and_false, if_false]
        · rw [if_neg k2]
          simp only [no, tw, stepR, k2, false_and, and_false, if_false]
      · rw [if_neg k1]
        simp only [no, tw, stepR, k1, false_and, if_false]
    · rw [List.drop_eq_nil_of_le (by omega)]
      simp only [decide_eq_true_eq]
      rw [if_neg (by omega)]; rfl
theorem Reported_eq {n : Nat} {l : List Evt} {w j : Int} (hn : 100 < n) (hl : l.length ≤ 100) : ref6_Reported n l w j = some (reported l w j) := by
  unfold ref6_Reported
  have := Reported_l1 n hn l w j hl n 0 (by omega) (by omega)
  simpa [reported, repO, working] using this

/-! ### Accepted -/
/-- how many of the workers 0 .. k-1 have reported v for the job -/
def agree (l : List Evt) (j v : Int) (k : Nat) : Nat := ((List.range k).filter fun (w : Nat) => reported l (w : Int) j = v).length
theorem agree_succ (l : List Evt) (j v : Int) (k : Nat) : agree l j v (k + 1) = agree l j v k + if reported l (k : Int) j = v then 1 else 0 := by
  unfold agree
  rw [List.range_succ, List.filter_append, List.length_append]
  congr 1
  by_cases h : reported l (k : Int) j = v <;> simp [h]
theorem agree_le (l : List Evt) (j v : Int) (k : Nat) : agree l j v k ≤ k := by
  unfold agree
  exact Nat.le_trans (List.length_filter_le _ _) (by simp)
/-- event i makes its value accepted -/
def wins (l : List Evt) (W need : Nat) (j : Int) (i : Nat) : Option Int := match l[i]? with
  | some e => if e.Kind = 2 ∧ working (l.take i) e.Worker = j ∧ need ≤ agree (l.take (i + 1)) j e.Value W then some e.Value else none
  | none => none
def accFrom (l : List Evt) (W need : Nat) (j : Int) (i : Nat) : Option Int := ((List.range (l.length - i)).map (· + i)).findSome? (wins l W need j)
def accO (l : List Evt) (W need : Nat) (j : Int) : Option Int := (List.range l.length).findSome? (wins l W need j)
def accepted (l : List Evt) (W need : Nat) (j : Int) : Int := (accO l W need j).getD (-1)

theorem accFrom_lt (l : List Evt) (W need : Nat) (j : Int) {i : Nat} (h : i < l.length) : accFrom l W need j i = (wins l W need j i).or (accFrom l W need j (i + 1)) := by
  unfold accFrom
  rw [show l.length - i = (l.length - (i + 1)) + 1 by omega, List.range_succ_eq_map, List.map_cons, List.findSome?_cons, Nat.zero_add]
  have : List.map (· + i) (List.map Nat.succ (List.range (l.length - (i + 1)))) = List.map (· + (i + 1)) (List.range (l.length - (i + 1))) := by
    rw [List.map_map]; apply List.map_congr_left; intro x _; simp only [Function.comp]; omega
  rw [this]
  cases wins l W need j i <;> rfl

theorem Accepted_j3 {n k : Nat} (h : k < 1000000) (lp : Int → Int → Option Int) (c : Int) : ref6_Accepted_j3 n (k : Int) lp c = lp c ((k + 1 : Nat) : Int) := by
  unfold ref6_Accepted_j3
  rw [gadd_nat h, bsome]
theorem Accepted_l2 (n : Nat) (hn : 100 < n) (l : List Evt) (W need : Nat) (j : Int) (hl : l.length < 100) (hW : W < 100) (i : Nat) (hi : i < l.length) (lp : Int → Option Int) : ∀ (m k c : Nat), k ≤ W → W - k < m → c = agree (l.take (i + 1)) j l[i].Value k →
    ref6_Accepted_l2 n l (W : Int) (need : Int) j i lp m c k = if need ≤ agree (l.take (i + 1)) j l[i].Value W then some l[i].Value else ref6_Accepted_j1 n i lp := by
  intro m
  induction m with
  | zero => intro k c _ h; omega
  | succ m ih =>
    intro k c hk hm hc
    rw [ref6_Accepted_l2]
    have hcl := agree_le (l.take (i + 1)) j l[i].Value k
    by_cases h : k < W
    · simp only [decide_eq_true_eq]
      rw [if_pos (by omega), gadd_nat (by omega)]
      simp only [bsome]
      rw [gcut_take (by omega)]
      simp only [bsome]
      rw [Reported_eq hn (by simp; omega)]
      simp only [bsome, gidx_nat, getElem?_lt hi]
      have hs := agree_succ (l.take (i + 1)) j l[i].Value k
      by_cases hr : reported (l.take (i + 1)) (k : Int) j = l[i].Value
      · rw [if_pos hr] at hs ⊢
        rw [gadd_nat (by omega)]
        simp only [bsome]
        rw [Accepted_j3 (by omega)]
        exact ih (k + 1) (c + 1) (by omega) (by omega) (by omega)
      · rw [if_neg hr] at hs ⊢
        rw [Accepted_j3 (by omega)]
        exact ih (k + 1) c (by omega) (by omega) (by omega)
    · have : k = W := by omega
      subst this
      simp only [decide_eq_true_eq]
      rw [if_neg (by omega)]
      by_cases hw : need ≤ c
      · rw [if_pos (by omega), if_pos (by omega)]
        simp only [gidx_nat, getElem?_lt hi, bsome]
      · rw [if_neg (by omega), if_neg (by omega)]

theorem Accepted_l1 (n : Nat) (hn : 100 < n) (l : List Evt) (W need : Nat) (j : Int) (hl : l.length < 100) (hW : W < 100) : ∀ (m i : Nat), i ≤ l.length → l.length - i < m →
    ref6_Accepted_l1 n l (W : Int) (need : Int) j m i = some ((accFrom l W need j i).getD (-1)) := by
  intro m
  induction m with
  | zero => intro i _ h; omega
  | succ m ih =>
    intro i hi hm
    rw [ref6_Accepted_l1]
    by_cases h : i < l.length
    · have no : ref6_Accepted_j1 n i (ref6_Accepted_l1 n l (W : Int) (need : Int) j m) = some ((accFrom l W need j (i + 1)).getD (-1)) := by
        unfold ref6_Accepted_j1
        rw [gadd_nat (by omega), bsome]
        exact ih (i + 1) (by omega) (by omega)
      rw [accFrom_lt l W need j h]
      simp only [decide_eq_true_eq]
      rw [if_pos (by omega)]
      simp only [gidx_nat, getElem?_lt h, bsome]
      by_cases k1 : l[i].Kind = 2
      · rw [if_neg (by simp [k1]), gcut_take (by omega)]
        simp only [bsome]
        rw [WorkingOn_eq hn (by simp; omega)]
        simp only [bsome]
        by_cases k2 : working (l.take i) l[i].Worker = j
        · unfold ref6_Accepted_j2
          simp only [k2, ne_eq, not_true_eq_false, decide_false, Bool.false_eq_true, if_false]
          have := Accepted_l2 n hn l W need j hl hW i h (ref6_Accepted_l1 n l (W : Int) (need : Int) j m) n 0 0 (by omega) (by omega) (by simp [agree])
          simp only [Int.ofNat_zero] at this
          rw [this, no]
          by_cases k3 : need ≤ agree (l.take (i + 1)) j l[i].Value W
          · rw [if_pos k3]; simp [wins, getElem?_lt h, k1, k2, k3]
          · rw [if_neg k3]; simp [wins, getElem?_lt h, k3]
        · unfold ref6_Accepted_j2
          simp only [k2, ne_eq, not_false_eq_true, decide_true, if_true, no]
          simp [wins, getElem?_lt h, k2]
      · rw [if_pos (by simp [k1])]
        unfold ref6_Accepted_j2
        simp only [if_true, no]
        simp [wins, getElem?_lt h, k1]
    · simp only [decide_eq_true_eq]
      rw [if_neg (by omega)]
      unfold accFrom
      rw [show l.length - i = 0 by omega]; rfl
theorem Accepted_eq {n : Nat} {l : List Evt} {W need : Nat} {j : Int} (hn : 100 < n) (hl : l.length < 100) (hW : W < 100) : ref6_Accepted n l (W : Int) (need : Int) j = some (accepted l W need j) := by
  unfold ref6_Accepted
  have := Accepted_l1 n hn l W need j hl hW n 0 (by omega) (by omega)
  rw [show ((0 : Nat) : Int) = 0 from rfl] at this
  rw [this]
  unfold accepted accO accFrom
  simp
end Go.Proofs.Ythnneojommdhjaa
