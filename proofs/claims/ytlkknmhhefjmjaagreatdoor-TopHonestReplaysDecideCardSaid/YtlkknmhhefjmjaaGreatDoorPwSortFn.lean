/-
 PwSortFn: slices.SortFunc over rows of structs whose cells lie in no block, as a contract that changes a row.
-/
import Derived.Test.YtlkknmhhefjmjaaGreatDoorPwSort
import Derived.Shelf.GgSortFunc.InsertionK
import Derived.Sort.AssemblyPlain
import Derived.Test.YtlkknmhhefjmjaaGreatDoorPwBytes
namespace Go.PW
open Go.RowKit Go.Proofs Go.Sort
variable {P : Program} {f : FuncId} {α : Type} [Inhabited α]
structure Plainly (c : α → List PV) (enc : α → List Value) (sz : Nat) : Prop where
 len : ∀ x, (enc x).length = sz
 cl : ∀ x, (c x).length = sz
 one : ∀ x, ∀ p ∈ c x, p.one = true
 val : ∀ (C : Ctx) (v : Value) (x : α) (j : Nat) (p : PV), (c x)[j]? = some p → RV C v p → (enc x)[j]? = some v ∧ ∀ w I, DV w I v p
section
structure CmpOk (cf : α → α → Int) : Prop where
 swo : SWO (fun x y => decide (cf x y < 0))
 tie : ∀ x y, ¬ cf x y < 0 → ¬ cf y x < 0 → cf x y = 0
variable {cf : α → α → Int}
end
section
variable {d nm v : Nat} {elem : TypeId} {sz : Nat} {es es' : List (List PV)} {nw : Bool} {sl : List (Nat × PV)} {m : List (Nat × Ent)} {g gf : Nat} {r : List LOper} {acc : List Log} {K : List Log → St → Prop}
end
end Go.PW
