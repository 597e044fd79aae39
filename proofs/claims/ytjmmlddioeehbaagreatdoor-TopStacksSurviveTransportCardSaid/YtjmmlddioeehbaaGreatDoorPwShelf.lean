/-
  PwShelf: contracts of the kit's shelf, as contracts of the evaluator.
-/
import Derived.Test.YtjmmlddioeehbaaGreatDoorPwFam
import Derived.Lib.Bytealg
namespace Go.PW
open Go.RowKit
variable {P : Program} {f : FuncId}
theorem DVs.str1 {w : World} {I : Nat → Prop} {a : List UInt8} {vs : List Value} {ps : List PV} (h : DVs w I vs (.str a :: ps)) : ∃ r, vs = .string ⟨a.toArray⟩ :: r ∧ DVs w I r ps := by
  cases h with
  | cons h t =>
    cases h with
    | str _ _ => exact ⟨_, rfl, t⟩
theorem DVs.int1 {w : World} {I : Nat → Prop} {k : IntKind} {n : Int} {vs : List Value} {ps : List PV} (h : DVs w I vs (.int k n :: ps)) : ∃ r, vs = .int k n :: r ∧ DVs w I r ps := by
  cases h with
  | cons h t =>
    cases h with
    | int _ _ => exact ⟨_, rfl, t⟩
theorem DVs.none {w : World} {I : Nat → Prop} {vs : List Value} (h : DVs w I vs []) : vs = [] := by cases h; rfl
theorem PSpec.ofStr2 {a b : List UInt8} {k : IntKind} {n : Int} (h : ∀ w, Calls P f #[.string ⟨a.toArray⟩, .string ⟨b.toArray⟩] w fun e w' => e = .returned (.int k n) ∧ w' = w) : PSpec P f [.str a, .str b] (.int k n) := by
  intro w vs I hv _
  obtain ⟨r, rfl, hr⟩ := hv.str1
  obtain ⟨r', rfl, hr'⟩ := hr.str1
  have := hr'.none
  subst this
  exact (h w).mono fun e w' ⟨he, hw⟩ => ⟨_, he, hw ▸ Below.refl _ _, .int _ _⟩
theorem PSpec.ofStrInt {a : List UInt8} {k k' : IntKind} {b n : Int} (h : ∀ w, Calls P f #[.string ⟨a.toArray⟩, .int k' b] w fun e w' => e = .returned (.int k n) ∧ w' = w) : PSpec P f [.str a, .int k' b] (.int k n) := by
  intro w vs I hv _
  obtain ⟨r, rfl, hr⟩ := hv.str1
  obtain ⟨r', rfl, hr'⟩ := hr.int1
  have := hr'.none
  subst this
  exact (h w).mono fun e w' ⟨he, hw⟩ => ⟨_, he, hw ▸ Below.refl _ _, .int _ _⟩
theorem PSpec.ofStrB {a : List UInt8} {b : Bool} (h : ∀ w, Calls P f #[.string ⟨a.toArray⟩] w fun e w' => e = .returned (.bool b) ∧ Below w.heap.size w w') : PSpec P f [.str a] (.bool b) := by
  intro w vs I hv _
  obtain ⟨r, rfl, hr⟩ := hv.str1
  have := hr.none
  subst this
  exact (h w).mono fun e w' ⟨he, hw⟩ => ⟨_, he, hw, .bool _⟩
def libIndexByte (s : List UInt8) (c : Int) : Int := Lib.indexByte s c.toNat.toUInt8
def libCompare (a b : List UInt8) : Int := Lib.compareBytes a b
end Go.PW
