/- Plain facts about the option functions, for the plain laws. -/
import Derived.Test.YtfdennmaeoahgaaPwDec
namespace Go.PW
open Go
theorem bsome {α β : Type} (a : α) (f : α → Option β) : (some a).bind f = f a := (congrFun (congrArg _ rfl) _).trans (Option.bind_some a f)
theorem gidx_nat {α : Type} (l : List α) (i : Nat) : gidx l (i : Int) = l[i]? := by unfold gidx; rw [if_pos (by omega)]; rfl
theorem gadd_nat {i : Nat} (h : i < 1000000) : gadd (i : Int) 1 = some ((i + 1 : Nat) : Int) := by
  unfold gadd; rw [gchk_ok (by omega)]; rfl
theorem gaddI {a b : Int} (h : -9223372036854775808 ≤ a + b ∧ a + b < 9223372036854775808) : gadd a b = some (a + b) := gchk_ok h
theorem gsubI {a b : Int} (h : -9223372036854775808 ≤ a - b ∧ a - b < 9223372036854775808) : gsub a b = some (a - b) := gchk_ok h
theorem gmulI {a b : Int} (h : -9223372036854775808 ≤ a * b ∧ a * b < 9223372036854775808) : gmul a b = some (a * b) := gchk_ok h
theorem gcut_take {α : Type} {l : List α} {i : Nat} (h : i ≤ l.length) : gcut l 0 (i : Int) = some (l.take i) := by
  unfold gcut; rw [if_pos (by omega)]; simp
theorem gapp_ok {α : Type} {b : Nat} {xs ys : List α} (h : (xs.length + ys.length) * b ≤ 1000000) : gapp b xs ys = some (xs ++ ys) := by
  unfold gapp
  rw [if_pos (Nat.le_trans h (by decide))]
theorem gmake_nat {α : Type} {b : Nat} (z : α) {k : Nat} (h : k * b ≤ 1000000) : gmake b z (k : Int) = some (List.replicate k z) := by
  unfold gmake
  rw [if_pos ⟨by omega, Nat.le_trans h (by decide)⟩]; rfl
theorem gset_nat {α : Type} (l : List α) (i : Nat) (x : α) : gset l (i : Int) x = l.set i x := rfl
theorem getElem?_lt {α : Type} {l : List α} {i : Nat} (h : i < l.length) : l[i]? = some l[i] := List.getElem?_eq_getElem h
theorem natOf {a : Int} (h : 0 ≤ a) : ∃ k : Nat, a = k := ⟨a.toNat, by omega⟩
def tab {α : Type} (k : Nat) (f : Nat → α) : List α := (List.range k).map f
@[simp] theorem tab_length {α : Type} (k : Nat) (f : Nat → α) : (tab k f).length = k := by simp [tab]
theorem tab_get {α : Type} {k i : Nat} (f : Nat → α) (h : i < k) : (tab k f)[i]? = some (f i) := by simp [tab, h]
theorem gidx_tab {α : Type} {k i : Nat} (f : Nat → α) (h : i < k) : gidx (tab k f) (i : Int) = some (f i) := by rw [gidx_nat, tab_get f h]
theorem tab_congr {α : Type} {k : Nat} {f g : Nat → α} (h : ∀ i < k, f i = g i) : tab k f = tab k g := by
  unfold tab
  exact List.map_congr_left fun x hx => h x (List.mem_range.1 hx)
theorem tab_const {α : Type} (k : Nat) (x : α) : List.replicate k x = tab k (fun _ => x) := by
  apply List.ext_getElem
  · simp [tab]
  · intro i h1 h2; simp [tab]
theorem gset_tab {α : Type} {k : Nat} (f : Nat → α) (i : Nat) (x : α) : gset (tab k f) (i : Int) x = tab k (fun y => if y = i then x else f y) := by
  rw [gset_nat]
  apply List.ext_getElem
  · simp [tab]
  · intro j h1 h2
    simp only [tab, List.getElem_map, List.getElem_range, List.getElem_set]
    by_cases h : i = j
    · simp [h]
    · simp [h, Ne.symm h]
end Go.PW
