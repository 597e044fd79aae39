/- The plain law: reversing the lines twice changes nothing, and removing repeated lines twice is the same as removing them once. -/
import Derived.Test.YtadeoaglhaaimaaDoorP9
namespace Go.Proofs.YtadeoaglhaaimaaDoor
open Go.PW Go

/-- an action with further operations -/
def plus (a : SInputsOpsOutput) (more : List SKindText) : SInputsOpsOutput := ⟨a.Inputs, a.Ops ++ more, a.Output⟩
theorem with_eq (a : SInputsOpsOutput) (more : List SKindText) (h : (a.Ops.length + more.length) * 24 ≤ 1000000) : law6_with 200 a more = some (plus a more) := by
  unfold law6_with
  rw [gapp_ok (by simp; omega), bsome, List.nil_append, gapp_ok h, bsome]
  rfl
theorem plus_at (a : SInputsOpsOutput) (more : List SKindText) (i : Nat) (h : i < a.Ops.length) : (plus a more).Ops[i]? = some a.Ops[i] := by
  unfold plus
  simp [List.getElem?_append_left h]
theorem plus_l2 (a : SInputsOpsOutput) (more : List SKindText) (ho : a.Ops.length + more.length ≤ 16) (hm : ∀ o ∈ more, sandbox_checkOp 200 o = some 0) : ∀ (m i : Nat), (plus a more).Ops.length - i < m → sandbox_Validate_l2 200 (plus a more) m (i : Int) = sandbox_Validate_l2 200 a m (i : Int) := by
  have hlen : (plus a more).Ops.length = a.Ops.length + more.length := by unfold plus; simp
  intro m
  induction m with
  | zero => intro i h; omega
  | succ m ih =>
    intro i h
    by_cases hi : i < a.Ops.length
    · have hI := ih (i + 1) (by omega)
      rw [sandbox_Validate_l2, sandbox_Validate_l2, if_pos (lt_dec (by omega)), if_pos (lt_dec hi), gidx_nat, gidx_nat, plus_at a more i hi, getElem?_lt hi, bsome, bsome]
      obtain ⟨r, h1⟩ := checkOp_ok a.Ops[i]
      rw [h1, bsome, bsome, gadd_nat (by omega), bsome, bsome, hI]
    · rw [show sandbox_Validate_l2 200 a (m + 1) (i : Int) = some ⟨0, 0⟩ by rw [sandbox_Validate_l2, if_neg (nlt_dec hi)]]
      -- the rest is good
      have rest : ∀ (m' i' : Nat), (plus a more).Ops.length - i' < m' → a.Ops.length ≤ i' → sandbox_Validate_l2 200 (plus a more) m' (i' : Int) = some ⟨0, 0⟩ := by
        intro m'
        induction m' with
        | zero => intro i' h; omega
        | succ m' ih' =>
          intro i' h hle
          rw [sandbox_Validate_l2]
          by_cases hi' : i' < (plus a more).Ops.length
          · rw [if_pos (lt_dec hi'), gidx_nat, getElem?_lt hi', bsome]
            have he : (plus a more).Ops[i'] ∈ more := by
              have : (plus a more).Ops[i'] = more[i' - a.Ops.length]'(by omega) := by
                show (a.Ops ++ more)[i']'_ = _
                exact List.getElem_append_right hle
              rw [this]; exact List.getElem_mem _
            rw [hm _ he, bsome, if_neg (by simp), gadd_nat (by omega), bsome]
            exact ih' (i' + 1) (by omega) (by omega)
          · rw [if_neg (nlt_dec hi')]
      exact rest (m + 1) i h (by omega)
theorem plus_l1 (a : SInputsOpsOutput) (more : List SKindText) (hl : a.Inputs.length ≤ 8) (h2 : sandbox_Validate_l2 200 (plus a more) 200 0 = sandbox_Validate_l2 200 a 200 0) : ∀ (m i : Nat), sandbox_Validate_l1 200 (plus a more) m (i : Int) = sandbox_Validate_l1 200 a m (i : Int) := by
  intro m
  induction m with
  | zero => intro i; rfl
  | succ m ih =>
    intro i
    rw [sandbox_Validate_l1, sandbox_Validate_l1]
    have hI : (plus a more).Inputs = a.Inputs := rfl
    have hO : (plus a more).Output = a.Output := rfl
    rw [hI, hO, h2]
    by_cases hi : i < a.Inputs.length
    · rw [if_pos (lt_dec hi), if_pos (lt_dec hi), gidx_nat, getElem?_lt hi]
      have tail : ∀ b : Bool, sandbox_Validate_j2 200 (i : Int) (sandbox_Validate_l1 200 (plus a more) m) b = sandbox_Validate_j2 200 (i : Int) (sandbox_Validate_l1 200 a m) b := by
        intro b
        unfold sandbox_Validate_j2
        rw [gadd_nat (by omega)]
        simp only [bsome, ih (i + 1)]
      simp only [bsome, tail]
    · rw [if_neg (nlt_dec hi), if_neg (nlt_dec hi)]
theorem plus_args (a : SInputsOpsOutput) (more : List SKindText) (t : SFiles) (ho : a.Ops.length ≤ 14) (hml : more.length ≤ 2) (hm : ∀ o ∈ more, sandbox_checkOp 200 o = some 0) : sandbox_Arguments 200 (plus a more) t = sandbox_Arguments 200 a t := by
  have hv : sandbox_Validate 200 (plus a more) = sandbox_Validate 200 a := by
    have hlen : (plus a more).Ops.length = a.Ops.length + more.length := by unfold plus; simp
    have hI : (plus a more).Inputs = a.Inputs := rfl
    unfold sandbox_Validate sandbox_Validate_j1
    have d2 : decide ((16 : Int) < (a.Ops.length : Int)) = false := by simp; omega
    have d3 : decide ((16 : Int) < ((plus a more).Ops.length : Int)) = false := by simp; omega
    rw [hI, d2, d3]
    by_cases h1 : 8 < a.Inputs.length
    · have d1 : decide ((8 : Int) < (a.Inputs.length : Int)) = true := by simp; omega
      simp only [d1, ↓reduceIte]
    · have d1 : decide ((8 : Int) < (a.Inputs.length : Int)) = false := by simp; omega
      simp only [d1, ↓reduceIte, Bool.false_eq_true]
      exact plus_l1 a more (by omega) (plus_l2 a more (by omega) hm 200 0 (by omega)) 200 0
  unfold sandbox_Arguments
  rw [hv]

/-- runs with further operations -/
theorem plus_run (a : SInputsOpsOutput) (more : List SKindText) (t : SFiles) (hi : a.Inputs.length ≤ 8) (ho : a.Ops.length ≤ 14) (ht : t.Files.length ≤ 24) (hf : ∀ f ∈ t.Files, f.Lines.length ≤ reachBytes) :
    ∀ (m i : Nat) (w : List (List UInt8)), a.Ops.length - i < m → w.length ≤ 120 → i ≤ a.Ops.length → ∃ x f, sandbox_Run_l1 200 a t m w (i : Int) = some (x, f) ∧
      ((f.Code ≠ 0 ∧ x = [] ∧ sandbox_Run_l1 200 (plus a more) t m w (i : Int) = some (x, f)) ∨ (f = ⟨0, 0⟩ ∧ x.length ≤ 120 ∧ sandbox_Run_l1 200 (plus a more) t m w (i : Int) = sandbox_Run_l1 200 (plus a more) t (m - (a.Ops.length - i)) x (a.Ops.length : Int))) := by
  intro m
  induction m with
  | zero => intro i w h; omega
  | succ m ih =>
    intro i w h hw hil
    by_cases hlt : i < a.Ops.length
    · obtain ⟨w', c, h1, h2⟩ := iter_ex a.Inputs t hi ht hf w hw i a.Ops[i]
      rw [h1 a m rfl (getElem?_lt hlt), h1 (plus a more) m rfl (plus_at a more i hlt)]
      unfold sandbox_Run_j1
      by_cases h0 : c = 0
      · rw [if_neg (by simp [h0]), if_neg (by simp [h0]), gadd_nat (by omega), bsome, bsome]
        obtain ⟨x, f, h3, h4⟩ := ih (i + 1) w' (by omega) (h2 h0) (by omega)
        refine ⟨x, f, h3, ?_⟩
        rcases h4 with h4 | ⟨h4, h5, h6⟩
        · exact .inl h4
        · refine .inr ⟨h4, h5, h6.trans ?_⟩
          have : m - (a.Ops.length - (i + 1)) = m + 1 - (a.Ops.length - i) := by omega
          rw [this]
      · rw [if_pos (by simp [h0]), if_pos (by simp [h0]), gsubI (by omega), bsome]
        exact ⟨_, _, rfl, .inl ⟨h0, rfl, rfl⟩⟩
    · have hie : i = a.Ops.length := by omega
      rw [run_end a t m i w (by omega)]
      refine ⟨_, _, rfl, .inr ⟨rfl, hw, ?_⟩⟩
      rw [hie, Nat.sub_self]
      rfl

theorem run_rev (a : SInputsOpsOutput) (t : SFiles) (ht : t.Files.length ≤ 24) (m i : Nat) (hi : i < 100) (w : List (List UInt8)) (hw : w.length ≤ 120) (h : a.Ops[i]? = some ⟨4, []⟩) : sandbox_Run_l1 200 a t (m + 1) w (i : Int) = sandbox_Run_l1 200 a t m w.reverse ((i + 1 : Nat) : Int) := by
  have hl := (List.getElem?_eq_some_iff.1 h).1
  obtain ⟨k, b, h1, _⟩ := find_ok t.Files [] ht
  rw [sandbox_Run_l1, if_pos (lt_dec hl), gidx_nat, h, bsome]
  simp only [h1, bsome]
  rw [if_neg (by decide), if_neg (by decide)]
  unfold sandbox_Run_j2
  rw [if_neg (by decide), if_neg (by decide), if_neg (by decide), if_neg (by decide), if_pos (by decide), gsubI (by omega), bsome, rev_run (i : Int) w hw]
  unfold sandbox_Run_j1
  rw [if_neg (by decide), gadd_nat (by omega), bsome]
theorem run_uniq (a : SInputsOpsOutput) (t : SFiles) (ht : t.Files.length ≤ 24) (m i : Nat) (hi : i < 100) (w r : List (List UInt8)) (hr : sandbox_unique 200 w = some r) (h : a.Ops[i]? = some ⟨5, []⟩) : sandbox_Run_l1 200 a t (m + 1) w (i : Int) = sandbox_Run_l1 200 a t m r ((i + 1 : Nat) : Int) := by
  have hl := (List.getElem?_eq_some_iff.1 h).1
  obtain ⟨k, b, h1, _⟩ := find_ok t.Files [] ht
  rw [sandbox_Run_l1, if_pos (lt_dec hl), gidx_nat, h, bsome]
  simp only [h1, bsome]
  rw [if_neg (by decide), if_neg (by decide)]
  unfold sandbox_Run_j2
  rw [if_neg (by decide), if_neg (by decide), if_neg (by decide), if_neg (by decide), if_neg (by decide), hr, bsome]
  unfold sandbox_Run_j1
  rw [if_neg (by decide), gadd_nat (by omega), bsome]

/-- removing repeated lines -/
theorem uniq_spec (l : List (List UInt8)) (hl : l.length ≤ 120) : ∀ (m i : Nat) (w : List (List UInt8)), l.length - i < m → w.length ≤ i → i ≤ l.length → w.Nodup → (∀ x, x ∈ w ↔ x ∈ l.take i) →
    ∃ r, sandbox_unique_l1 200 l m w (i : Int) = some r ∧ r.Nodup ∧ (∀ x, x ∈ r ↔ x ∈ l) ∧ r.length ≤ l.length ∧ (l.Nodup → w = l.take i → r = l) := by
  intro m
  induction m with
  | zero => intro i w h; omega
  | succ m ih =>
    intro i w h hw hil hnd hmem
    rw [sandbox_unique_l1]
    unfold sandbox_unique_j1
    by_cases hi : i < l.length
    · have htk : l.take (i + 1) = l.take i ++ [l[i]] := by rw [List.take_add_one, getElem?_lt hi]; rfl
      rw [if_pos (lt_dec hi), gidx_nat, getElem?_lt hi, bsome, contains_eq w l[i] (by omega), bsome, gadd_nat (by omega)]
      by_cases hx : l[i] ∈ w
      · rw [if_neg (by simp [hx]), bsome]
        obtain ⟨r, h1, h2, h3, h4, h5⟩ := ih (i + 1) w (by omega) (by omega) (by omega) hnd fun x => by
          rw [htk, hmem x, List.mem_append, List.mem_singleton]
          constructor
          · exact .inl
          · rintro (h | rfl)
            · exact h
            · exact (hmem _).1 hx
        refine ⟨r, h1, h2, h3, h4, fun hn hwt => ?_⟩
        rw [hwt, List.mem_take_iff_getElem] at hx
        obtain ⟨j, hj, he⟩ := hx
        have := (List.getElem_inj hn).1 he
        omega
      · rw [if_pos (by simp [hx]), gapp_ok (by simp; omega), bsome, bsome]
        obtain ⟨r, h1, h2, h3, h4, h5⟩ := ih (i + 1) (w ++ [l[i]]) (by omega) (by simp; omega) (by omega) (by
          rw [List.nodup_append]
          refine ⟨hnd, by simp, ?_⟩
          intro x hxw y hy
          rw [List.mem_singleton] at hy
          subst hy
          exact fun e => hx (e ▸ hxw)) fun x => by
          rw [htk, List.mem_append, List.mem_append, hmem x]
        exact ⟨r, h1, h2, h3, h4, fun hn hwt => h5 hn (by rw [htk, hwt])⟩
    · rw [if_neg (nlt_dec hi)]
      have hie : l.take i = l := List.take_of_length_le (by omega)
      refine ⟨w, rfl, hnd, fun x => by rw [hmem x, hie], by omega, fun _ hwt => by rw [hwt, hie]⟩

theorem final_l (r2 r6 : List (List UInt8) × SCodeIndex) (h2 : r2.1.length ≤ 120) (h6 : r6.1.length ≤ r2.1.length) (hm : ∀ x ∈ r2.1, x ∈ r6.1) (hn : r6.1.Nodup) : ∀ (m i : Nat), r2.1.length - i < m → law6_SandboxFinalOperations_l1 200 r2 r6 m (i : Int) = some true := by
  intro m
  induction m with
  | zero => intro i h; omega
  | succ m ih =>
    intro i h
    rw [law6_SandboxFinalOperations_l1]
    unfold law6_SandboxFinalOperations_j3
    by_cases hi : i < r2.1.length
    · rw [if_pos (lt_dec hi), gidx_nat, getElem?_lt hi, bsome, hasString_eq _ _ (by omega), bsome, if_neg (by simp [hm _ (List.getElem_mem hi)]), gadd_nat (by omega)]
      by_cases h6i : i < r6.1.length
      · rw [if_pos (lt_dec h6i), gcut_take (by omega), bsome, gidx_nat, getElem?_lt h6i, bsome, hasString_eq _ _ (by simp; omega), bsome]
        have hno : r6.1[i] ∉ r6.1.take i := by
          intro hx
          rw [List.mem_take_iff_getElem] at hx
          obtain ⟨j, hj, he⟩ := hx
          have := (List.getElem_inj hn).1 he
          omega
        rw [if_neg (by simp [hno]), bsome]
        exact ih (i + 1) (by omega)
      · rw [if_neg (nlt_dec h6i), if_neg (by simp), bsome]
        exact ih (i + 1) (by omega)
    · rw [if_neg (nlt_dec hi)]
      simp; omega

theorem Final_eq (a0 : SInputsOpsOutput) (a1 : SFiles) (hf : ∀ f ∈ a1.Files, f.Path.length ≤ reachBytes ∧ f.Lines.length ≤ reachBytes) : law6_SandboxFinalOperations 200 a0 a1 = some true := by
  unfold law6_SandboxFinalOperations
  rw [runs_eq, bsome, if_neg (by simp)]
  by_cases h14 : 14 < a0.Ops.length
  · rw [if_pos (by simp; omega)]
  · rw [if_neg (by simp; omega)]
    let m44 : List SKindText := [⟨4, []⟩, ⟨4, []⟩]
    let m5 : List SKindText := [⟨5, []⟩]
    let m55 : List SKindText := [⟨5, []⟩, ⟨5, []⟩]
    have w44 : law6_with 200 a0 [⟨4, []⟩, ⟨4, []⟩] = some (plus a0 m44) := with_eq a0 m44 (by simp [m44]; omega)
    have w5 : law6_with 200 a0 [⟨5, []⟩] = some (plus a0 m5) := with_eq a0 m5 (by simp [m5]; omega)
    have w55 : law6_with 200 a0 [⟨5, []⟩, ⟨5, []⟩] = some (plus a0 m55) := with_eq a0 m55 (by simp [m55]; omega)
    have g4 : ∀ o ∈ m44, sandbox_checkOp 200 o = some 0 := by intro o ho; simp [m44] at ho; subst ho; rfl
    have g5 : ∀ o ∈ m5, sandbox_checkOp 200 o = some 0 := by intro o ho; simp [m5] at ho; subst ho; rfl
    have g55 : ∀ o ∈ m55, sandbox_checkOp 200 o = some 0 := by intro o ho; simp [m55] at ho; subst ho; rfl
    obtain ⟨q, h3, h4, h5⟩ := arguments_ok a0 a1 (fun f h => (hf f h).1)
    have p44 := (plus_args a0 m44 a1 (by omega) (by simp [m44]) g4).trans h3
    have p5 := (plus_args a0 m5 a1 (by omega) (by simp [m5]) g5).trans h3
    have p55 := (plus_args a0 m55 a1 (by omega) (by simp [m55]) g55).trans h3
    rw [w44, w5, w55]
    simp only [bsome]
    rcases h4 with rfl | h4
    · obtain ⟨hv, hi, ho, ht⟩ := h5 rfl
      have hL : ∀ f ∈ a1.Files, f.Lines.length ≤ reachBytes := fun f h => (hf f h).2
      obtain ⟨x, f, e, c44⟩ := plus_run a0 m44 a1 hi (by omega) ht hL 200 0 [] (by omega) (by simp) (by omega)
      obtain ⟨x2, f2, e2, c5⟩ := plus_run a0 m5 a1 hi (by omega) ht hL 200 0 [] (by omega) (by simp) (by omega)
      obtain ⟨x3, f3, e3, c55⟩ := plus_run a0 m55 a1 hi (by omega) ht hL 200 0 [] (by omega) (by simp) (by omega)
      have i2 : (x2, f2) = (x, f) := Option.some.inj (e2.symm.trans e)
      have i3 : (x3, f3) = (x, f) := Option.some.inj (e3.symm.trans e)
      obtain ⟨rfl, rfl⟩ := Prod.mk.inj i2
      obtain ⟨rfl, rfl⟩ := Prod.mk.inj i3
      have r0 : sandbox_Run 200 a0 a1 = some (x3, f3) := by unfold sandbox_Run; rw [h3, bsome, if_neg fault_none]; exact e
      have u44 : sandbox_Run 200 (plus a0 m44) a1 = sandbox_Run_l1 200 (plus a0 m44) a1 200 [] 0 := by unfold sandbox_Run; rw [p44, bsome, if_neg fault_none]
      have u5 : sandbox_Run 200 (plus a0 m5) a1 = sandbox_Run_l1 200 (plus a0 m5) a1 200 [] 0 := by unfold sandbox_Run; rw [p5, bsome, if_neg fault_none]
      have u55 : sandbox_Run 200 (plus a0 m55) a1 = sandbox_Run_l1 200 (plus a0 m55) a1 200 [] 0 := by unfold sandbox_Run; rw [p55, bsome, if_neg fault_none]
      rcases c44 with ⟨k1, k2, k3⟩ | ⟨k1, k2, k3⟩
      · rcases c5 with ⟨l1, l2, l3⟩ | ⟨l1, _⟩
        · rcases c55 with ⟨o1, o2, o3⟩ | ⟨o1, _⟩
          · have v44 := u44.trans k3
            have v5 := u5.trans l3
            have v55 := u55.trans o3
            unfold law6_SandboxFinalOperations_j1
            rw [r0, v44, v5, v55]
            simp only [bsome]
            rw [if_pos (by simp [k1]), if_pos (by simp), if_pos (by simp), if_pos (by simp), k2]
            rfl
          · rw [o1] at k1; exact absurd rfl k1
        · rw [l1] at k1; exact absurd rfl k1
      · subst k1
        rcases c5 with ⟨l1, _⟩ | ⟨_, _, l3⟩
        · exact absurd rfl l1
        · rcases c55 with ⟨o1, _⟩ | ⟨_, _, o3⟩
          · exact absurd rfl o1
          · obtain ⟨n, hn⟩ : ∃ n, n = a0.Ops.length := ⟨_, rfl⟩
            obtain ⟨r, q1, q2, q3, q4, _⟩ := uniq_spec x3 k2 200 0 [] (by omega) (by simp) (by omega) (by simp) (by simp)
            have q1' : sandbox_unique 200 x3 = some r := q1
            obtain ⟨r', t1, _, _, _, t5⟩ := uniq_spec r (by omega) 200 0 [] (by omega) (by simp) (by omega) (by simp) (by simp)
            have t6 : r' = r := t5 q2 (by simp)
            have t1' : sandbox_unique 200 r = some r := by rw [t6] at t1; exact t1
            have at0 : ∀ (m : List SKindText) (j : Nat), (plus a0 m).Ops[n + j]? = m[j]? := by
              intro m j
              unfold plus
              show (a0.Ops ++ m)[n + j]? = m[j]?
              rw [List.getElem?_append_right (by omega)]
              congr 1
              omega
            have len : ∀ m : List SKindText, (plus a0 m).Ops.length = n + m.length := by intro m; unfold plus; simp [hn]
            have v44 : sandbox_Run 200 (plus a0 m44) a1 = some (x3, ⟨0, 0⟩) := by
              rw [u44]
              refine k3.trans ?_
              have e1 : 200 - (a0.Ops.length - 0) = (197 - n) + 1 + 1 + 1 := by omega
              rw [e1, ← hn, run_rev (plus a0 m44) a1 ht _ n (by omega) x3 k2 (at0 m44 0), run_rev (plus a0 m44) a1 ht _ (n + 1) (by omega) x3.reverse (by simpa using k2) (at0 m44 1), List.reverse_reverse]
              exact run_end (plus a0 m44) a1 _ (n + 1 + 1) x3 (by rw [len]; simp [m44])
            have v5 : sandbox_Run 200 (plus a0 m5) a1 = some (r, ⟨0, 0⟩) := by
              rw [u5]
              refine l3.trans ?_
              have e1 : 200 - (a0.Ops.length - 0) = (198 - n) + 1 + 1 := by omega
              rw [e1, ← hn, run_uniq (plus a0 m5) a1 ht _ n (by omega) x3 r q1' (at0 m5 0)]
              exact run_end (plus a0 m5) a1 _ (n + 1) r (by rw [len]; simp [m5])
            have v55 : sandbox_Run 200 (plus a0 m55) a1 = some (r, ⟨0, 0⟩) := by
              rw [u55]
              refine o3.trans ?_
              have e1 : 200 - (a0.Ops.length - 0) = (197 - n) + 1 + 1 + 1 := by omega
              rw [e1, ← hn, run_uniq (plus a0 m55) a1 ht _ n (by omega) x3 r q1' (at0 m55 0), run_uniq (plus a0 m55) a1 ht _ (n + 1) (by omega) r r t1' (at0 m55 1)]
              exact run_end (plus a0 m55) a1 _ (n + 1 + 1) r (by rw [len]; simp [m55])
            unfold law6_SandboxFinalOperations_j2
            rw [r0, v44, v5, v55]
            simp only [bsome]
            rw [if_neg (by simp), if_neg (by simp), if_neg (by simp), if_neg (by simp), strings_self _ (by omega), strings_self _ (by omega)]
            simp only [bsome]
            rw [if_neg (by simp), if_neg (by simp)]
            exact final_l (x3, ⟨0, 0⟩) (r, ⟨0, 0⟩) k2 q4 (fun y hy => (q3 y).2 hy) q2 200 0 (by show x3.length - 0 < 200; omega)
    · have r0 : sandbox_Run 200 a0 a1 = some ([], q) := by unfold sandbox_Run; rw [h3, bsome, if_pos (fault_ne h4)]
      have v44 : sandbox_Run 200 (plus a0 m44) a1 = some ([], q) := by unfold sandbox_Run; rw [p44, bsome, if_pos (fault_ne h4)]
      have v5 : sandbox_Run 200 (plus a0 m5) a1 = some ([], q) := by unfold sandbox_Run; rw [p5, bsome, if_pos (fault_ne h4)]
      have v55 : sandbox_Run 200 (plus a0 m55) a1 = some ([], q) := by unfold sandbox_Run; rw [p55, bsome, if_pos (fault_ne h4)]
      unfold law6_SandboxFinalOperations_j1
      rw [r0, v44, v5, v55]
      simp only [bsome]
      rw [if_pos (by simp [h4]), if_pos (by simp), if_pos (by simp), if_pos (by simp)]
      rfl
end Go.Proofs.YtadeoaglhaaimaaDoor
