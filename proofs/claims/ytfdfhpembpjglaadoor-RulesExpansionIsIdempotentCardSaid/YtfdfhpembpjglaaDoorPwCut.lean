/-
  PwCut: a beginning of a row becomes the row. Contracts of calls that change rows, put to use: what 'MutOk' asks, by lists.
-/
import Derived.Test.YtfdfhpembpjglaaDoorPwInl
import Derived.Test.YtfdfhpembpjglaaDoorPwDec
namespace Go.PW
open Go.RowKit
noncomputable section
def tauOf (l : List (Nat × Nat × Nat)) (n : Nat) : Nat × Nat := (look l n).getD (0, 0)
inductive ArgsOk (u : Mut) : List PV → List PV → Prop
  | nil : ArgsOk u [] []
  | cons {x p : PV} {xs ps : List PV} (h : ArgOk u x p) (r : ArgsOk u xs ps) : ArgsOk u (x :: xs) (p :: ps)
theorem ArgsOk.out {u : Mut} {xs ps : List PV} (h : ArgsOk u xs ps) : xs.length = ps.length ∧ ∀ (j : Nat) (x p : PV), xs[j]? = some x → ps[j]? = some p → ArgOk u x p := by
  induction h with
  | nil => exact ⟨rfl, fun j x p h => by simp at h⟩
  | cons h r ih =>
    refine ⟨by simp [ih.1], fun j x p h1 h2 => ?_⟩
    cases j with
    | zero => simp at h1 h2; subst h1 h2; exact h
    | succ j => exact ih.2 j x p (by simpa using h1) (by simpa using h2)
theorem alls {α : Type} {Q : α → Prop} {a : α} {l : List α} (h : Q a) (r : ∀ x ∈ l, Q x) : ∀ x ∈ a :: l, Q x := fun x hx => by
  rcases List.mem_cons.1 hx with rfl | hx
  · exact h
  · exact r x hx
theorem all0 {α : Type} {Q : α → Prop} : ∀ x ∈ ([] : List α), Q x := fun x hx => by cases hx
def ndp : List Nat → Bool
  | [] => true
  | a :: l => l.all (fun b => !(Nat.beq a b)) && ndp l
theorem ndp_ok : ∀ {l : List Nat}, ndp l = true → l.Nodup
  | [], _ => .nil
  | a :: l, h => by
    simp only [ndp, Bool.and_eq_true, List.all_eq_true] at h
    refine List.nodup_cons.2 ⟨fun ha => ?_, ndp_ok h.2⟩
    have := h.1 a ha
    simp [Nat.beq_refl] at this
theorem mutOk_of {m : Look} {g : Nat} {xs args : List PV} {res : PV} {mem mem' : List (Nat × Ent)} {l : List (Nat × Nat × Nat)} {ν : Nat → Nat}
    (ha : ArgsOk ⟨mem, mem', tauOf l, ν⟩ xs args) (hn : mem'.map (·.1) = mem.map (·.1)) (hd' : ndp (mem.map (·.1)) = true) (hi' : ndp (mem.map fun x => (tauOf l x.1).1) = true)
    (hg : ∀ x ∈ mem, RowGiven ⟨mem, mem', tauOf l, ν⟩ m x.1 x.2) (hl : ∀ x ∈ mem', (x.2.ver = 0 ∧ x.2.new = false ∧ x.2.dead = false) ∧ (∀ e0, look mem x.1 = some e0 → x.2.sz = e0.sz ∧ x.2.es.length = e0.es.length) ∧
      (x.2.data = true ∨ ∀ cs ∈ x.2.es, ∀ p ∈ cs, ok1 (Mut.names ⟨mem, mem', tauOf l, ν⟩) p = true)) (hr : ok3 (Mut.names ⟨mem, mem', tauOf l, ν⟩) res = true) : MutOk m g xs args res ⟨mem, mem', tauOf l, ν⟩ := by
  have hd := ndp_ok hd'
  have hi := ndp_ok hi'
  have nd : ∀ (L : List (Nat × Ent)), (L.map (·.1)).Nodup → ∀ x ∈ L, look L x.1 = some x.2 := by
    intro L
    induction L with
    | nil => intro _ x hx; cases hx
    | cons y L ih =>
      intro hN x hx
      simp only [List.map_cons, List.nodup_cons] at hN
      rcases List.mem_cons.1 hx with rfl | hx
      · exact look_same _ _ _
      · rw [show (y :: L) = (y.1, y.2) :: L from rfl, look_ne]
        · exact ih hN.2 x hx
        · intro e
          exact hN.1 (by rw [e]; exact List.mem_map_of_mem hx)
  have hinj : ∀ x ∈ mem, ∀ y ∈ mem, x.1 ≠ y.1 → (tauOf l x.1).1 ≠ (tauOf l y.1).1 := by
    intro x hx y hy hne heq
    obtain ⟨i, hil, rfl⟩ := List.getElem_of_mem hx
    obtain ⟨j, hjl, rfl⟩ := List.getElem_of_mem hy
    by_cases hij : i = j
    · subst hij; exact hne rfl
    · have := List.pairwise_iff_getElem.1 hi
      rcases Nat.lt_or_gt_of_ne hij with h | h
      · exact this i j (by simpa using hil) (by simpa using hjl) h (by simpa using heq)
      · exact this j i (by simpa using hjl) (by simpa using hil) h (by simpa using heq.symm)
  have hmem : ∀ x ∈ mem', ∃ y ∈ mem, y.1 = x.1 := by
    intro x hx
    have : x.1 ∈ mem.map (·.1) := by rw [← hn]; exact List.mem_map_of_mem hx
    obtain ⟨y, h1, h2⟩ := List.mem_map.1 this
    exact ⟨y, h1, h2⟩
  have hpost : ∀ x ∈ mem', Mut.post ⟨mem, mem', tauOf l, ν⟩ g x.1 0 = tauOf l x.1 := by
    intro x hx
    unfold Mut.post
    rw [if_pos]
    rw [List.any_eq_true]
    obtain ⟨y, h1, h2⟩ := hmem x hx
    exact ⟨y, h1, by simp [h2]⟩
  refine ⟨ha.out.1, ha.out.2, nd mem hd, nd mem' (by rw [hn]; exact hd), hinj, fun x hx y hy hne => ?_, hg, fun x hx => ?_, hr⟩
  · rw [hpost x hx, hpost y hy]
    obtain ⟨x', a1, a2⟩ := hmem x hx
    obtain ⟨y', b1, b2⟩ := hmem y hy
    have := hinj x' a1 y' b1 (by rw [a2, b2]; exact hne)
    rwa [a2, b2] at this
  · obtain ⟨k1, k2, k3⟩ := hl x hx
    refine ⟨k1, k2, fun hno => ?_, k3⟩
    obtain ⟨y, h1, h2⟩ := hmem x hx
    have := nd mem hd y h1
    rw [h2] at this
    simp only at hno
    rw [this] at hno
    cases hno
theorem keptOf {mem : List (Nat × Ent)} {x : Nat} {e E : Ent} (hE : look mem x = some E) (h : e.sz = E.sz ∧ e.es.length = E.es.length) : ∀ e0, look mem x = some e0 → e.sz = e0.sz ∧ e.es.length = e0.es.length := fun e0 h0 => by
  rw [hE] at h0; injection h0 with h0; subst h0; exact h
def gh (sl : List (Nat × PV)) : List (Nat × Ent) → Prop
  | [] => True
  | (k, _) :: r => look sl (gst + k) = some (.own k 0) ∧ gh sl r
theorem gh_ok {sl : List (Nat × PV)} {mem' : List (Nat × Ent)} : ∀ {mem : List (Nat × Ent)}, gh sl mem → ∀ nm, (look mem nm).isSome = true → (look mem' nm).isSome = true → look sl (gst + nm) = some (.own nm 0)
  | [], _, nm, h, _ => by simp [PW.look] at h
  | (k, e) :: r, hg, nm, h, h' => by
    by_cases hk : k = nm
    · subst hk; exact hg.1
    · rw [look_ne _ _ hk] at h
      exact gh_ok hg.2 nm h h'
end
end Go.PW
