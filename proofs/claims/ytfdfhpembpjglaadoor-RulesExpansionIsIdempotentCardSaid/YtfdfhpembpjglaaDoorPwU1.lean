/-
  U1: rows of integers, sorted and compacted: rising rows; two rising rows of the same elements are equal.
-/
import Derived.Lib.SlicesCompact
namespace Go.PW
open Go.Lib
def Rising (l : List Int) : Prop := l.Pairwise (· < ·)
theorem rising_ext : ∀ {a b : List Int}, Rising a → Rising b → (∀ x, x ∈ a ↔ x ∈ b) → a = b
  | [], [], _, _, _ => rfl
  | [], y :: b, _, _, h => by have := (h y).2 (by simp); simp at this
  | x :: a, [], _, _, h => by have := (h x).1 (by simp); simp at this
  | x :: a, y :: b, ha, hb, h => by
    have ha' := List.pairwise_cons.1 ha
    have hb' := List.pairwise_cons.1 hb
    have e : x = y := by
      have h1 := (h x).1 (by simp)
      have h2 := (h y).2 (by simp)
      rcases List.mem_cons.1 h1 with h1 | h1
      · exact h1
      rcases List.mem_cons.1 h2 with h2 | h2
      · exact h2.symm
      have := ha'.1 y h2
      have := hb'.1 x h1
      omega
    subst e
    have : a = b := rising_ext ha'.2 hb'.2 fun z => by
      constructor
      · intro hz
        have hlt := ha'.1 z hz
        rcases List.mem_cons.1 ((h z).1 (List.mem_cons_of_mem _ hz)) with h1 | h1
        · omega
        · exact h1
      · intro hz
        have hlt := hb'.1 z hz
        rcases List.mem_cons.1 ((h z).2 (List.mem_cons_of_mem _ hz)) with h1 | h1
        · omega
        · exact h1
    rw [this]
theorem compactUpTo_rising {d : Array Int} (hs : ∀ i j, i ≤ j → j < d.size → d[i]! ≤ d[j]!) : ∀ m, m ≤ d.size → Rising (compactUpTo d m) ∧ ∀ x, x ∈ compactUpTo d m ↔ ∃ j, j < m ∧ d[j]! = x
  | 0, _ => ⟨by simp [Rising, compactUpTo], fun x => by simp [compactUpTo]⟩
  | m + 1, hm => by
    obtain ⟨h1, h2⟩ := compactUpTo_rising hs m (by omega)
    rw [compactUpTo_succ]
    by_cases hk : keeps d m = true
    · rw [if_pos hk]
      constructor
      · refine List.pairwise_append.2 ⟨h1, by simp, fun x hx y hy => ?_⟩
        simp only [List.mem_singleton] at hy
        subst hy
        obtain ⟨j, hj, rfl⟩ := (h2 x).1 hx
        have hne : d[m]! ≠ d[m - 1]! := by
          have : m = 0 ∨ d[m]! ≠ d[m - 1]! := by simpa [keeps] using hk
          rcases this with h | h
          · omega
          · exact h
        have a1 := hs j (m - 1) (by omega) (by omega)
        have a2 := hs (m - 1) m (by omega) (by omega)
        omega
      · intro x
        rw [List.mem_append, List.mem_singleton, h2]
        constructor
        · rintro (⟨j, hj, rfl⟩ | rfl)
          · exact ⟨j, by omega, rfl⟩
          · exact ⟨m, by omega, rfl⟩
        · rintro ⟨j, hj, rfl⟩
          by_cases e : j = m
          · subst e; exact .inr rfl
          · exact .inl ⟨j, by omega, rfl⟩
    · rw [if_neg hk, List.append_nil]
      refine ⟨h1, fun x => ?_⟩
      rw [h2]
      constructor
      · rintro ⟨j, hj, rfl⟩; exact ⟨j, by omega, rfl⟩
      · rintro ⟨j, hj, rfl⟩
        by_cases e : j = m
        · subst e
          have : ¬(j = 0 ∨ d[j]! ≠ d[j - 1]!) := by simpa [keeps] using hk
          have h3 : j ≠ 0 := fun h => this (.inl h)
          have h4 : d[j]! = d[j - 1]! := Decidable.byContradiction fun h => this (.inr h)
          exact ⟨j - 1, by omega, h4.symm⟩
        · exact ⟨j, by omega, rfl⟩
theorem compact_rising {l : List Int} (hs : l.Pairwise (· ≤ ·)) : Rising (Lib.compact l) ∧ ∀ x, x ∈ Lib.compact l ↔ x ∈ l := by
  have h := compactUpTo_rising (d := l.toArray) (fun i j hij hj => by
    have hj : j < l.length := by simpa using hj
    have e1 : l.toArray[i]! = l[i]'(by omega) := by rw [getElem!_pos _ i (by simp; omega)]; simp
    have e2 : l.toArray[j]! = l[j]'hj := by rw [getElem!_pos _ j (by simpa using hj)]; simp
    rw [e1, e2]
    by_cases e : i = j
    · subst e; exact Int.le_refl _
    · exact List.pairwise_iff_getElem.1 hs i j (by omega) hj (by omega)) l.length (by simp)
  refine ⟨h.1, fun x => (h.2 x).trans ⟨?_, fun hx => ?_⟩⟩
  · rintro ⟨j, hj, rfl⟩
    rw [getElem!_pos _ j (by simpa using hj)]
    simp
  · obtain ⟨j, hj, rfl⟩ := List.getElem_of_mem hx
    exact ⟨j, hj, by rw [getElem!_pos _ j (by simpa using hj)]; simp⟩
theorem mergeSort_le (l : List Int) : (l.mergeSort fun x y => decide (x ≤ y)).Pairwise (· ≤ ·) := by
  have h := List.pairwise_mergeSort (le := fun x y : Int => decide (x ≤ y)) (fun a b c h1 h2 => by simp at *; omega) (fun a b => by simp; omega) l
  exact h.imp fun h => by simpa using h
def dedup (l : List Int) : List Int := Lib.compact (l.mergeSort fun x y => decide (x ≤ y))
theorem dedup_rising (l : List Int) : Rising (dedup l) := (compact_rising (mergeSort_le l)).1
theorem mem_dedup {l : List Int} {x : Int} : x ∈ dedup l ↔ x ∈ l := ((compact_rising (mergeSort_le l)).2 x).trans List.mem_mergeSort
end Go.PW
