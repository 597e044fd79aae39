/-
  PwOrder3: two operations that do not meet may change places; the region's theorem.
-/
import Derived.Test.YtpcmhhbocifbcaaGreatDoorPwOrder2
namespace Go.PW
open Go.RowKit
noncomputable section
section
variable {P : Program} {Γ : List (Nat × Fact P)}
abbrev Slots := Nat → Option PV
def lxF (sl : Slots) : LX → Option PV
  | .t n => sl n
  | .c p => some p
def lxsF (sl : Slots) : List LX → Option (List PV)
  | [] => some []
  | x :: r => match lxF sl x, lxsF sl r with
    | some p, some ps => some (p :: ps)
    | _, _ => none
theorem lxsF_look (slots : List (Nat × PV)) : ∀ ls, lxsF (look slots) ls = lxs slots ls
  | [] => rfl
  | x :: r => by
    have : lxF (look slots) x = lx slots x := by cases x <;> rfl
    simp only [lxsF, lxs, this, lxsF_look slots r]
    rfl
def core (Γ : List (Nat × Fact P)) (o : LOper) (sl : Slots) (m : Look) (gen : Nat) : Option (PV × List (Nat × Ent) × List Nat) :=
  let go : Option (PV × List (Nat × Ent) × List Nat) := match lxsF sl o.op.args with
    | none => none
    | some xs => (o.op.act Γ o.dst gen xs m).map fun r => (r.1, r.2, o.op.reads (foot Γ o.dst) o.dst xs)
  match o.guard with
  | none => go
  | some (g, b) => match sl g with
    | some (.bool c) => if c = b then go else some (.tup [], [], [])
    | some (.tup []) => some (.tup [], [], [])
    | _ => none
theorem step_core (o : LOper) (st : St) : step Γ o st = (core Γ o (look st.slots) (look st.mem) st.gen).map fun r => { st with slots := put st.slots o.dst r.1, mem := r.2.1 ++ st.mem } := by
  have hgo : (match lxs st.slots o.op.args with
      | none => none
      | some xs => (o.op.act Γ o.dst st.gen xs (look st.mem)).map fun (r : PV × List (Nat × Ent)) => { st with slots := put st.slots o.dst r.1, mem := r.2 ++ st.mem }) =
      (match lxsF (look st.slots) o.op.args with
        | none => none
        | some xs => (o.op.act Γ o.dst st.gen xs (look st.mem)).map fun (r : PV × List (Nat × Ent)) => (r.1, r.2, o.op.reads (foot Γ o.dst) o.dst xs)).map fun (r : PV × List (Nat × Ent) × List Nat) => { st with slots := put st.slots o.dst r.1, mem := r.2.1 ++ st.mem } := by
    rw [lxsF_look]
    cases lxs st.slots o.op.args with
    | none => rfl
    | some xs => simp only [Option.map_map]; rfl
  unfold step core
  cases hg : o.guard with
  | none => exact hgo
  | some gb =>
    obtain ⟨g, b⟩ := gb
    simp only
    cases hs : look st.slots g with
    | none => rfl
    | some p =>
      cases p with
      | bool c =>
        simp only
        by_cases hcb : c = b
        · rw [if_pos hcb, if_pos hcb]; exact hgo
        · rw [if_neg hcb, if_neg hcb]; rfl
      | tup l =>
        cases l with
        | nil => rfl
        | cons => rfl
      | _ => rfl
def lxSlot : LX → List Nat
  | .t n => [n]
  | .c _ => []
def LOper.looks (o : LOper) : List Nat := o.op.args.flatMap lxSlot ++ (match o.guard with | some (g, _) => [g] | none => [])
def putF (sl : Slots) (dst : Option Nat) (p : PV) : Slots := match dst with
  | some d => fun n => if d = n then some p else sl n
  | none => sl
def putM (m : Look) (up : List (Nat × Ent)) : Look := fun n => match look up n with
  | some e => some e
  | none => m n
theorem lxsF_congr {sl sl' : Slots} : ∀ {ls : List LX}, (∀ n ∈ ls.flatMap lxSlot, sl n = sl' n) → lxsF sl ls = lxsF sl' ls
  | [], _ => rfl
  | x :: r, h => by
    simp only [List.flatMap_cons, List.mem_append] at h
    have : lxF sl x = lxF sl' x := by
      cases x with
      | t n => exact h n (.inl (by simp [lxSlot]))
      | c p => rfl
    simp only [lxsF, this, lxsF_congr (fun n hn => h n (.inr hn))]
theorem core_slots {o : LOper} {sl sl' : Slots} {m : Look} {gen : Nat} (h : ∀ n ∈ o.looks, sl n = sl' n) : core Γ o sl m gen = core Γ o sl' m gen := by
  simp only [LOper.looks, List.mem_append] at h
  unfold core
  rw [lxsF_congr (fun n hn => h n (.inl hn))]
  cases hg : o.guard with
  | none => rfl
  | some gb =>
    obtain ⟨g, b⟩ := gb
    simp only [hg] at h
    simp only [h g (.inr (by simp))]
theorem core_mem {o : LOper} {sl : Slots} {m m' : Look} {gen : Nat} {p : PV} {up : List (Nat × Ent)} {R : List Nat} (hc : core Γ o sl m gen = some (p, up, R)) (h : ∀ n ∈ R, m n = m' n) : core Γ o sl m' gen = some (p, up, R) := by
  have go : (match lxsF sl o.op.args with
      | none => none
      | some xs => (o.op.act Γ o.dst gen xs m).map fun r => (r.1, r.2, o.op.reads (foot Γ o.dst) o.dst xs)) = some (p, up, R) → (match lxsF sl o.op.args with
      | none => none
      | some xs => (o.op.act Γ o.dst gen xs m').map fun r => (r.1, r.2, o.op.reads (foot Γ o.dst) o.dst xs)) = some (p, up, R) := by
    intro hgo
    cases hx : lxsF sl o.op.args with
    | none => simp [hx] at hgo
    | some xs =>
      simp only [hx] at hgo ⊢
      have hR : o.op.reads (foot Γ o.dst) o.dst xs = R := by
        simp only [Option.map_eq_some_iff, Prod.mk.injEq] at hgo
        obtain ⟨r, _, _, _, h3⟩ := hgo
        exact h3
      rw [← act_congr (f := m) (g := m') (fun n hn => h n (by rw [← hR]; exact hn))]
      exact hgo
  unfold core at hc ⊢
  cases hg : o.guard with
  | none => simp only [hg] at hc ⊢; exact go hc
  | some gb =>
    obtain ⟨g, b⟩ := gb
    simp only [hg] at hc ⊢
    cases hs : sl g with
    | none => simp [hs] at hc
    | some q =>
      simp only [hs] at hc ⊢
      cases q with
      | bool c =>
        simp only at hc ⊢
        by_cases hcb : c = b
        · rw [if_pos hcb] at hc ⊢; exact go hc
        · rw [if_neg hcb] at hc ⊢; exact hc
      | tup l =>
        cases l with
        | nil => exact hc
        | cons => simp at hc
      | _ => simp at hc
abbrev Out := PV × List (Nat × Ent) × List Nat
structure Apart (x y : LOper) (ox oy : Out) : Prop where
  xy : ∀ d, x.dst = some d → d ∉ y.looks
  yx : ∀ d, y.dst = some d → d ∉ x.looks
  dd : ∀ d, x.dst = some d → y.dst ≠ some d
  mxy : ∀ e ∈ ox.2.1, e.1 ∉ oy.2.2
  myx : ∀ e ∈ oy.2.1, e.1 ∉ ox.2.2
  mm : ∀ e ∈ ox.2.1, ∀ e' ∈ oy.2.1, e.1 ≠ e'.1
theorem look_mem {α : Type} : ∀ {l : List (Nat × α)} {n : Nat} {e : α}, look l n = some e → (n, e) ∈ l
  | (k, v) :: r, n, e, h => by
    unfold look at h
    split at h
    · rename_i hk; injection h with h; subst hk h; simp
    · exact List.mem_cons_of_mem _ (look_mem h)
theorem putM_off {m : Look} {up : List (Nat × Ent)} {n : Nat} (h : ∀ e ∈ up, e.1 ≠ n) : putM m up n = m n := by
  unfold putM
  split
  · rename_i e he; exact absurd rfl (h _ (look_mem he))
  · rfl
theorem swap_core {x y : LOper} {ox oy : Out} {sl : Slots} {m : Look} {gen : Nat} (A : Apart x y ox oy) (h1 : core Γ x sl m gen = some ox) (h2 : core Γ y (putF sl x.dst ox.1) (putM m ox.2.1) gen = some oy) :
    core Γ y sl m gen = some oy ∧ core Γ x (putF sl y.dst oy.1) (putM m oy.2.1) gen = some ox ∧
      putF (putF sl x.dst ox.1) y.dst oy.1 = putF (putF sl y.dst oy.1) x.dst ox.1 ∧ putM (putM m ox.2.1) oy.2.1 = putM (putM m oy.2.1) ox.2.1 := by
  obtain ⟨px, ux, rx⟩ := ox
  obtain ⟨py, uy, ry⟩ := oy
  have hsl : ∀ (z u : LOper) (p : PV), (∀ d, z.dst = some d → d ∉ u.looks) → ∀ n ∈ u.looks, putF sl z.dst p n = sl n := by
    intro z u p hz n hn
    unfold putF
    cases hd : z.dst with
    | none => rfl
    | some d =>
      simp only
      rw [if_neg]
      intro e; subst e; exact hz d hd hn
  have e1 : core Γ y sl m gen = some (py, uy, ry) := by
    have h3 := core_mem h2 (m' := m) fun n hn => putM_off fun e he heq => A.mxy e he (heq ▸ hn)
    rwa [core_slots (sl' := sl) (hsl x y px A.xy)] at h3
  refine ⟨e1, ?_, ?_, ?_⟩
  · have h3 := core_mem h1 (m' := putM m uy) fun n hn => (putM_off fun e he heq => A.myx e he (heq ▸ hn)).symm
    rwa [core_slots (sl' := putF sl y.dst py) (fun n hn => (hsl y x py A.yx n hn).symm)] at h3
  · funext n
    unfold putF
    cases hx : x.dst with
    | none => cases hy : y.dst <;> rfl
    | some d =>
      cases hy : y.dst with
      | none => rfl
      | some d' =>
        have : d ≠ d' := fun e => A.dd d hx (by rw [hy, e])
        simp only
        by_cases h3 : d' = n
        · rw [if_pos h3, if_neg (by omega), if_pos h3]
        · rw [if_neg h3, if_neg h3]
  · funext n
    unfold putM
    simp only
    cases hx : look ux n with
    | none => cases hy : look uy n <;> simp
    | some e =>
      cases hy : look uy n with
      | none => simp
      | some e' => exact absurd rfl (A.mm (n, e) (look_mem hx) (n, e') (look_mem hy))
def RunAll (Γ : List (Nat × Fact P)) (los : List LOper) (outs : Nat → Out) (gen : Nat) : List Nat → Slots → Look → Prop
  | [], _, _ => True
  | i :: r, sl, m => ∃ o, los[i]? = some o ∧ core Γ o sl m gen = some (outs i) ∧ RunAll Γ los outs gen r (putF sl o.dst (outs i).1) (putM m (outs i).2.1)
def endS (los : List LOper) (outs : Nat → Out) : List Nat → Slots → Slots
  | [], sl => sl
  | i :: r, sl => endS los outs r (match los[i]? with | some o => putF sl o.dst (outs i).1 | none => sl)
def endM (outs : Nat → Out) : List Nat → Look → Look
  | [], m => m
  | i :: r, m => endM outs r (putM m (outs i).2.1)
theorem to_front {los : List LOper} {outs : Nat → Out} {gen i : Nat} {oi : LOper} (hi : los[i]? = some oi) : ∀ (L1 L2 : List Nat) (sl : Slots) (m : Look),
    (∀ j ∈ L1, ∀ oj, los[j]? = some oj → Apart oj oi (outs j) (outs i)) → RunAll Γ los outs gen (L1 ++ i :: L2) sl m →
    RunAll Γ los outs gen (i :: (L1 ++ L2)) sl m ∧ endS los outs (L1 ++ i :: L2) sl = endS los outs (i :: (L1 ++ L2)) sl ∧ endM outs (L1 ++ i :: L2) m = endM outs (i :: (L1 ++ L2)) m
  | [], L2, sl, m, _, h => ⟨h, rfl, rfl⟩
  | j :: L1, L2, sl, m, hA, h => by
    obtain ⟨oj, hj, hcj, hrest⟩ := h
    obtain ⟨⟨oi', hi', hci, hrest'⟩, he1, he2⟩ := to_front hi L1 L2 _ _ (fun k hk => hA k (List.mem_cons_of_mem _ hk)) hrest
    rw [hi] at hi'; injection hi' with hi'; subst hi'
    obtain ⟨s1, s2, s3, s4⟩ := swap_core (hA j (by simp) oj hj) hcj hci
    refine ⟨⟨oi, hi, s1, oj, hj, s2, by rw [← s3, ← s4]; exact hrest'⟩, ?_, ?_⟩
    · simp only [List.cons_append, endS, hj, hi] at he1 ⊢
      rw [he1, s3]
    · simp only [List.cons_append, endM] at he2 ⊢
      rw [he2, s4]
end
end
end Go.PW
