/-
  PwEat: a call that is handed a row of the caller's and may keep it: behind it the row is no longer the caller's.
-/
import Derived.Test.YtjmmlddioeehbaaGreatDoorPwSort
import Derived.Laws.CopyRow
import Derived.Laws.IdiomCopy
namespace Go.PW
open Go.RowKit
variable {P : Program} {f : FuncId}
theorem DVs.append {w : World} {I : Nat → Prop} {vs vs' : List Value} {ps ps' : List PV} (h : DVs w I vs ps) (h' : DVs w I vs' ps') : DVs w I (vs ++ vs') (ps ++ ps') := by
  induction h with
  | nil => exact h'
  | cons h t ih => exact .cons h ih
section
variable {d nm v : Nat} {elem : TypeId} {sz : Nat} {es : List (List PV)} {nw : Bool} {sl : List (Nat × PV)} {m : List (Nat × Ent)} {g : Nat} {r : List LOper} {acc : List Log} {K : List Log → St → Prop}
end
end Go.PW
namespace Go.PW
open Go.RowKit
variable {P : Program} {f : FuncId}
def bd0 (sz : Nat) (es : List (List PV)) : PV → PV
  | .own 1 0 => .list sz es
  | p => p
def bd (sz : Nat) (es : List (List PV)) : PV → PV
  | .agg cs => .agg (cs.map (bd0 sz es))
  | p => bd0 sz es p
def flat0 : PV → Bool
  | .int .. | .bool _ | .str _ | .nils | .pnil | .own 70000 0 => true
  | _ => false
def flat1 : PV → Bool
  | .agg cs => cs.all flat0
  | p => flat0 p
section
variable {C C' : Ctx}
end
section
variable {d nm v : Nat} {elem sz elem2 sz2 : Nat} {es es2 : List (List PV)} {nw : Bool} {sl : List (Nat × PV)} {m : List (Nat × Ent)} {g : Nat} {r : List LOper} {acc : List Log} {K : List Log → St → Prop}
end
end Go.PW
namespace Go.PW
open Go.RowKit
variable {P : Program} {f : FuncId}
theorem live2 {E1 E2 e0 : Ent} {nm ver : Nat} (h1 : E1.ver = 0) (h2 : E1.dead = false) (h3 : E2.ver = 0) (h4 : E2.dead = false) : live [(1, E1), (2, E2)] nm ver = some e0 ↔ (nm = 1 ∧ ver = 0 ∧ e0 = E1) ∨ (nm = 2 ∧ ver = 0 ∧ e0 = E2) := by
  rw [live_some]
  simp only [look]
  constructor
  · rintro ⟨h, h5, _⟩
    by_cases hn : 1 = nm
    · rw [if_pos hn] at h
      injection h with h
      subst h
      exact .inl ⟨hn.symm, by omega, rfl⟩
    · rw [if_neg hn] at h
      by_cases hn2 : 2 = nm
      · rw [if_pos hn2] at h
        injection h with h
        subst h
        exact .inr ⟨hn2.symm, by omega, rfl⟩
      · rw [if_neg hn2] at h; cases h
  · rintro (⟨rfl, rfl, rfl⟩ | ⟨rfl, rfl, rfl⟩)
    · exact ⟨by simp, h1, h2⟩
    · exact ⟨by simp, h3, h4⟩
section
variable {α : Type} {c : α → List PV} {l l2 : List α} {z : α} {d nm v nm2 v2 : Nat} {elem : TypeId} {sz bytes : Nat} {cs : List PV} {nw nw2 : Bool} {sl : List (Nat × PV)} {m : List (Nat × Ent)} {g : Nat} {r : List LOper} {acc : List Log} {K : List Log → St → Prop} {i : Int}
end
end Go.PW
