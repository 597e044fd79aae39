/- PwBytes: the order of byte strings, and of things by a byte string. -/
import Derived.Test.YtlkknmhhefjmjaaGreatDoorPwAssoc
import Derived.Test.YtlkknmhhefjmjaaGreatDoorPwShelf
import Derived.Sort.Statements
namespace Go.PW
open Go
theorem bytes_cmp_lt (a b : List UInt8) : Lib.compareBytes a b < 0 ↔ Op.bytesLess a b = true := by
 induction a generalizing b with
 | nil => cases b <;> simp [Lib.compareBytes, Op.bytesLess]
 | cons x a ih =>
  cases b with
  | nil => simp [Lib.compareBytes, Op.bytesLess]
  | cons y b =>
   unfold Lib.compareBytes Op.bytesLess
   by_cases h1 : x < y
   ·simp [h1]
   ·by_cases h2 : y < x
    ·have : x ≠ y := fun e => by subst e; exact absurd h2 h1
     simp [h1, h2, this]
    ·have : x = y := UInt8.le_antisymm (UInt8.not_lt.1 h2) (UInt8.not_lt.1 h1)
     subst this
     simp [h1, ih]
theorem bytes_cmp_eq0 (a b : List UInt8) : Lib.compareBytes a b = 0 ↔ a = b := by
 induction a generalizing b with
 | nil => cases b <;> simp [Lib.compareBytes]
 | cons x a ih =>
  cases b with
  | nil => simp [Lib.compareBytes]
  | cons y b =>
   unfold Lib.compareBytes
   by_cases h1 : x < y
   ·have : x ≠ y := fun e => by subst e; exact absurd h1 (UInt8.lt_irrefl _)
    simp [h1, this]
   ·by_cases h2 : y < x
    ·have : x ≠ y := fun e => by subst e; exact absurd h2 h1
     simp [h1, h2, this]
    ·have : x = y := UInt8.le_antisymm (UInt8.not_lt.1 h2) (UInt8.not_lt.1 h1)
     subst this
     simp [h1, ih]
theorem bytes_trans {a b c : List UInt8} (h1 : Op.bytesLess a b = true) (h2 : Op.bytesLess b c = true) : Op.bytesLess a c = true := by
 induction a generalizing b c with
 | nil => cases b <;> cases c <;> simp_all [Op.bytesLess]
 | cons x a ih =>
  cases b with
  | nil => simp [Op.bytesLess] at h1
  | cons y b =>
   cases c with
   | nil => simp [Op.bytesLess] at h2
   | cons z c =>
    simp only [Op.bytesLess, Bool.or_eq_true, Bool.and_eq_true, decide_eq_true_eq, beq_iff_eq] at h1 h2 ⊢
    rcases h1 with h1 | ⟨h1, h1'⟩
    ·rcases h2 with h2 | ⟨h2, h2'⟩
     ·exact .inl (UInt8.lt_trans h1 h2)
     ·subst h2; exact .inl h1
    ·subst h1
     rcases h2 with h2 | ⟨h2, h2'⟩
     ·exact .inl h2
     ·exact .inr ⟨h2, ih h1' h2'⟩
theorem bytes_irrefl (a : List UInt8) : Op.bytesLess a a = false := by
 induction a with
 | nil => rfl
 | cons x a ih => simp [Op.bytesLess, ih]
theorem bytes_total {a b : List UInt8} (h : (Op.bytesLess a b || a == b) = false) : Op.bytesLess b a = true := by
 induction a generalizing b with
 | nil => cases b <;> simp_all [Op.bytesLess]
 | cons x a ih =>
  cases b with
  | nil => rfl
  | cons y b =>
   simp only [Op.bytesLess, Bool.or_eq_false_iff, Bool.and_eq_false_iff, decide_eq_false_iff_not, beq_eq_false_iff_ne, ne_eq, List.cons.injEq, not_and, Bool.or_eq_true, Bool.and_eq_true, decide_eq_true_eq, beq_iff_eq] at h ⊢
   obtain ⟨⟨h1, h2⟩, h3⟩ := h
   by_cases he : x = y
   ·subst he
    refine .inr ⟨rfl, ih ?_⟩
    have h4 := h3 rfl
    rcases h2 with h2 | h2
    ·exact absurd rfl h2
    ·simp [h2, h4]
   ·refine .inl ?_
    rcases UInt8.lt_or_eq_of_le (UInt8.not_lt.1 h1) with h | h
    ·exact h
    ·exact absurd h.symm he
theorem totalBytes : TotalLt Op.bytesLess where
 irrefl := bytes_irrefl
 trans _ _ _ h1 h2 := bytes_trans h1 h2
 tri a b h1 h2 := by
  by_cases h : a = b
  ·exact h
  ·have := bytes_total (a := a) (b := b) (by simp [h1, h])
   rw [this] at h2; cases h2
end Go.PW
