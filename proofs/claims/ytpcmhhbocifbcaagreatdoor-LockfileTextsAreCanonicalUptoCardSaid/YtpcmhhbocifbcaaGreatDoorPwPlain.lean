/- Plain facts about the option functions, for the plain laws. -/
import Derived.Test.YtpcmhhbocifbcaaGreatDoorPwDec
namespace Go.PW
open Go
theorem bsome {α β : Type} (a : α) (f : α → Option β) : (some a).bind f = f a := (congrFun (congrArg _ rfl) _).trans (Option.bind_some a f)
theorem gidx_nat {α : Type} (l : List α) (i : Nat) : gidx l (i : Int) = l[i]? := by unfold gidx; rw [if_pos (by omega)]; rfl
theorem gadd_nat {i : Nat} (h : i < 1000000) : gadd (i : Int) 1 = some ((i + 1 : Nat) : Int) := by
  unfold gadd; rw [gchk_ok (by omega)]; rfl
theorem gaddI {a b : Int} (h : -9223372036854775808 ≤ a + b ∧ a + b < 9223372036854775808) : gadd a b = some (a + b) := gchk_ok h
theorem gsubI {a b : Int} (h : -9223372036854775808 ≤ a - b ∧ a - b < 9223372036854775808) : gsub a b = some (a - b) := gchk_ok h
theorem gmulI {a b : Int} (h : -9223372036854775808 ≤ a * b ∧ a * b < 9223372036854775808) : gmul a b = some (a * b) := gchk_ok h
theorem gcut_take {α : Type} {l : List α} {i : Nat} (h : i ≤ l.length) : gcut l 0 (i : Int) = some (l.take i) := by
  unfold gcut; rw [if_pos (by omega)]; simp
theorem gcut_drop {α : Type} {l : List α} {i : Nat} (h : i ≤ l.length) : gcut l (i : Int) (l.length : Int) = some (l.drop i) := by
  unfold gcut; rw [if_pos (by omega)]; simp
theorem gapp_ok {α : Type} {b : Nat} {xs ys : List α} (h : (xs.length + ys.length) * b ≤ 1000000) : gapp b xs ys = some (xs ++ ys) := by
  unfold gapp
  rw [if_pos (Nat.le_trans h (by decide))]
theorem getElem?_lt {α : Type} {l : List α} {i : Nat} (h : i < l.length) : l[i]? = some l[i] := List.getElem?_eq_getElem h
theorem natOf {a : Int} (h : 0 ≤ a) : ∃ k : Nat, a = k := ⟨a.toNat, by omega⟩
def tab {α : Type} (k : Nat) (f : Nat → α) : List α := (List.range k).map f
@[simp] theorem tab_length {α : Type} (k : Nat) (f : Nat → α) : (tab k f).length = k := by simp [tab]
end Go.PW
