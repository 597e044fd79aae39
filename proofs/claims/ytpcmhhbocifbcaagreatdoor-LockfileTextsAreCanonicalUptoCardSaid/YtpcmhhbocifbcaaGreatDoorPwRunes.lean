/-
  PwRunes: strings.ContainsFunc at 'a rune that is no digit'.
-/
import Derived.Test.YtpcmhhbocifbcaaGreatDoorPwShelf
import Derived.Shelf.GgClosure.StringsIndexFuncTop
namespace Go.PW
open Go.RowKit
variable {P : Program} {f : FuncId}
def noDigit (r : Nat) : Bool := decide (r < 48) || decide (57 < r)
def libNonDigits (s : List UInt8) : Bool := decide (0 ≤ Lib.idxFunc noDigit true ⟨s.toArray⟩)
theorem PSpec.ofStrF {a : List UInt8} {g : FuncId} {b : Bool} (h : ∀ w, Calls P f #[.string ⟨a.toArray⟩, .func (.func g) #[] #[]] w fun e w' => e = .returned (.bool b) ∧ Below w.heap.size w w') : PSpec P f [.str a, .fn g [] []] (.bool b) := by
  intro w vs I hv _
  obtain ⟨r, rfl, hr⟩ := hv.str1
  cases hr with
  | cons h1 t =>
    have := t.none
    subst this
    cases h1 with
    | fn _ vf vc _ _ e1 e2 _ _ =>
      have f1 : vf = #[] := Array.eq_empty_of_size_eq_zero (by simpa using e1)
      have f2 : vc = #[] := Array.eq_empty_of_size_eq_zero (by simpa using e2)
      subst f1 f2
      exact (h w).mono fun e w' ⟨he, hw⟩ => ⟨_, he, hw, .bool _⟩
end Go.PW
