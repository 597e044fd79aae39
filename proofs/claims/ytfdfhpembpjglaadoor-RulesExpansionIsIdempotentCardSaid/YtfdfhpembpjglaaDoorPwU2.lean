/-
  U2: which rules a rule stands for: by the program's rows (each from the earlier ones), by the document's marks (from the last rule to the first).
-/
import Derived.Test.YtfdfhpembpjglaaDoorPwU1
namespace Go.PW
section
variable {R : Type} {kind : R → Int} {ins : R → List Int}
inductive Leaf (kind : R → Int) (ins : R → List Int) (rs : List R) : Nat → Nat → Prop
  | self {i : Nat} {r : R} (h : rs[i]? = some r) (hk : kind r ≠ 6) : Leaf kind ins rs i i
  | sub {i : Nat} {r : R} {k j : Nat} (h : rs[i]? = some r) (hk : kind r = 6) (hi : (k : Int) ∈ ins r) (hl : Leaf kind ins rs k j) : Leaf kind ins rs i j
def Backward (ins : R → List Int) (rs : List R) : Prop := ∀ (i : Nat) (r : R), rs[i]? = some r → ∀ n ∈ ins r, 0 ≤ n ∧ n < (i : Int)
theorem Leaf.kindOf {rs : List R} {i j : Nat} (h : Leaf kind ins rs i j) : ∃ r, rs[j]? = some r ∧ kind r ≠ 6 := by
  induction h with
  | self h hk => exact ⟨_, h, hk⟩
  | sub _ _ _ _ ih => exact ih
theorem Leaf.le {rs : List R} (hb : Backward ins rs) {i j : Nat} (h : Leaf kind ins rs i j) : j ≤ i := by
  induction h with
  | self => exact Nat.le_refl _
  | sub h _ hi _ ih => have := (hb _ _ h _ hi).2; omega
theorem Leaf.of_self {rs : List R} {i j : Nat} {r : R} (hr : rs[i]? = some r) (hk : PW.Leaf kind ins rs i j) (h6 : kind r ≠ 6) : j = i := by
  cases hk with
  | self => rfl
  | sub h hk _ _ => rw [hr] at h; injection h with h; subst h; exact absurd hk h6
theorem Leaf.of_sub {rs : List R} {i j : Nat} {r : R} (hr : rs[i]? = some r) (hk : PW.Leaf kind ins rs i j) (h6 : kind r = 6) : ∃ k : Nat, (k : Int) ∈ ins r ∧ PW.Leaf kind ins rs k j := by
  cases hk with
  | self h hk => rw [hr] at h; injection h with h; subst h; exact absurd h6 hk
  | sub h _ hi hl => rw [hr] at h; injection h with h; subst h; exact ⟨_, hi, hl⟩
inductive Reach (kind : R → Int) (ins : R → List Int) (rs : List R) : Nat → Nat → Prop
  | refl (i : Nat) : Reach kind ins rs i i
  | step {i : Nat} {r : R} {k j : Nat} (h : rs[i]? = some r) (hk : kind r = 6) (hi : (k : Int) ∈ ins r) (hl : Reach kind ins rs k j) : Reach kind ins rs i j
theorem leaf_iff_reach {rs : List R} {i j : Nat} : Leaf kind ins rs i j ↔ Reach kind ins rs i j ∧ ∃ r, rs[j]? = some r ∧ kind r ≠ 6 := by
  constructor
  · intro h
    refine ⟨?_, h.kindOf⟩
    induction h with
    | self => exact .refl _
    | sub h hk hi _ ih => exact .step h hk hi ih
  · rintro ⟨h, r, hr, hk⟩
    induction h with
    | refl => exact .self hr hk
    | step h h6 hi _ ih => exact .sub h h6 hi (ih hr)
theorem Reach.snoc {rs : List R} {i j k : Nat} {r : R} (h : Reach kind ins rs i j) (hr : rs[j]? = some r) (h6 : kind r = 6) (hi : (k : Int) ∈ ins r) : Reach kind ins rs i k := by
  induction h with
  | refl => exact .step hr h6 hi (.refl _)
  | step h hk hi' _ ih => exact .step h hk hi' (ih hr)
theorem Reach.last {rs : List R} {i j : Nat} (h : Reach kind ins rs i j) : i = j ∨ ∃ (m : Nat) (r : R), Reach kind ins rs i m ∧ rs[m]? = some r ∧ kind r = 6 ∧ (j : Int) ∈ ins r := by
  induction h with
  | refl => exact .inl rfl
  | step h hk hi hl ih =>
    rename_i i r k j
    rcases ih with rfl | ⟨m, r', h1, h2, h3, h4⟩
    · exact .inr ⟨i, r, .refl _, h, hk, hi⟩
    · exact .inr ⟨m, r', .step h hk hi h1, h2, h3, h4⟩
theorem Leaf.take {rs rs' : List R} (hb : Backward ins rs) (hp : ∀ (i : Nat) (r : R), rs[i]? = some r → rs'[i]? = some r) {i j : Nat} (hi : i < rs.length) : PW.Leaf kind ins rs' i j ↔ PW.Leaf kind ins rs i j := by
  constructor
  · intro h
    induction h with
    | self h hk =>
      have h1 := List.getElem?_eq_getElem hi
      rw [hp _ _ h1] at h; injection h with h; subst h
      exact .self h1 hk
    | sub h hk hin _ ih =>
      have h1 := List.getElem?_eq_getElem hi
      rw [hp _ _ h1] at h; injection h with h; subst h
      have := (hb _ _ h1 _ hin).2
      exact .sub h1 hk hin (ih (by omega))
  · intro h
    clear hi
    induction h with
    | self h hk => exact .self (hp _ _ h) hk
    | sub h hk hi _ ih => exact .sub (hp _ _ h) hk hi ih
end
end Go.PW
