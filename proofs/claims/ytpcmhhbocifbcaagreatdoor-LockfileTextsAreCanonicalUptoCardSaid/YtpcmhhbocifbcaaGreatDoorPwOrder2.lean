/-
  PwOrder2: what an operation writes.
-/
import Derived.Test.YtpcmhhbocifbcaaGreatDoorPwOrder1
namespace Go.PW
open Go.RowKit
section
variable {P : Program} {Γ : List (Nat × Fact P)}
def LOp.pure : LOp → Bool
  | .mv _ | .pick .. | .bin .. | .eqb .. | .eqs .. | .mx .. | .mn .. | .conv .. | .un .. | .field .. | .extract .. | .slen _ | .sidx .. | .vidx .. | .toBytes .. | .sslice .. | .build .. | .mkfn .. | .isnilI .. => true
  | _ => false
theorem map_nil {α : Type} {x : Option α} {p : α} {up : List (Nat × Ent)} (h : x.map (fun y => (y, ([] : List (Nat × Ent)))) = some (p, up)) : up = [] := by
  cases x <;> simp at h
  exact h.2
theorem act_pure {o : LOp} {dst : Option Nat} {gen : Nat} {xs : List PV} {f : Look} {p : PV} {up : List (Nat × Ent)} (ho : o.pure = true) (h : o.act Γ dst gen xs f = some (p, up)) : up = [] ∧ ∀ ft, o.reads ft dst xs = [] := by
  refine ⟨?_, fun ft => by cases o <;> first | rfl | simp [LOp.pure] at ho⟩
  cases o <;> simp only [LOp.pure, Bool.false_eq_true] at ho
  case build z ps =>
    simp only [LOp.act] at h
    split at h
    · simp only [Option.map_eq_some_iff, Prod.mk.injEq] at h
      obtain ⟨_, _, _, rfl⟩ := h; rfl
    · cases h
  case isnilI ng x =>
    match xs with
    | [] => simp [LOp.act] at h
    | [p] =>
      cases p <;> simp only [LOp.act, reduceCtorEq, Option.some.injEq, Prod.mk.injEq] at h
      exact h.2.symm
    | p :: _ :: _ => cases p <;> simp [LOp.act] at h
  case mkfn => simp only [LOp.act, Option.some.injEq, Prod.mk.injEq] at h; exact h.2.symm
  case sslice x lo hi =>
    match xs with
    | [] => simp [LOp.act] at h
    | p :: r =>
      cases p <;> simp only [LOp.act, reduceCtorEq] at h
      split at h
      · split at h
        · simp only [Option.some.injEq, Prod.mk.injEq] at h; exact h.2.symm
        · cases h
      · cases h
  case un op x =>
    cases op <;> rcases xs with _ | ⟨p, _ | ⟨q, r⟩⟩ <;> (try simp only [LOp.act, reduceCtorEq] at h) <;> cases p <;> simp only [reduceCtorEq, Option.some.injEq, Prod.mk.injEq] at h <;> exact h.2.symm
  all_goals
    rcases xs with _ | ⟨p, _ | ⟨q, _ | ⟨s, _ | ⟨t, r⟩⟩⟩⟩
    all_goals try (simp only [LOp.act, reduceCtorEq] at h; done)
    all_goals try (simp only [LOp.act, Option.some.injEq, Prod.mk.injEq] at h; exact h.2.symm)
    all_goals try (simp only [LOp.act] at h; exact map_nil h)
  · cases p <;> simp only [LOp.act, reduceCtorEq, Option.some.injEq, Prod.mk.injEq] at h
    exact h.2.symm
  · cases p <;> (try simp only [LOp.act, reduceCtorEq] at h)
    cases q <;> simp only [reduceCtorEq, Option.some.injEq, Prod.mk.injEq] at h
    exact h.2.symm
  · cases p <;> (try simp only [LOp.act, reduceCtorEq] at h)
    cases q <;> (try simp only [reduceCtorEq] at h)
    simp only [Option.map_eq_some_iff, Prod.mk.injEq] at h
    obtain ⟨_, _, _, rfl⟩ := h; rfl
  · cases p <;> (try simp only [LOp.act, reduceCtorEq] at h)
    cases q <;> (try simp only [reduceCtorEq] at h)
    split at h
    · simp only [Option.some.injEq, Prod.mk.injEq] at h; exact h.2.symm
    · cases h
  · cases p <;> (try simp only [LOp.act, reduceCtorEq] at h)
    cases q <;> (try simp only [reduceCtorEq] at h)
    split at h
    · simp only [Option.some.injEq, Prod.mk.injEq] at h; exact h.2.symm
    · cases h
  · cases p <;> simp only [LOp.act, reduceCtorEq, Option.some.injEq, Prod.mk.injEq] at h
    exact h.2.symm
  · cases p <;> (try simp only [LOp.act, reduceCtorEq] at h)
    exact map_nil h
  · cases p <;> (try simp only [LOp.act, reduceCtorEq] at h)
    simp only [Option.map_eq_some_iff, Prod.mk.injEq] at h
    obtain ⟨_, _, _, rfl⟩ := h; rfl
  · cases p <;> simp only [LOp.act, reduceCtorEq, Option.some.injEq, Prod.mk.injEq] at h
    exact h.2.symm
  · cases p <;> (try simp only [LOp.act, reduceCtorEq] at h)
    cases q <;> (try simp only [reduceCtorEq] at h)
    split at h
    · split at h
      · simp only [Option.some.injEq, Prod.mk.injEq] at h; exact h.2.symm
      · cases h
    · cases h
  · cases p <;> (try simp only [LOp.act, reduceCtorEq] at h)
    cases q <;> (try simp only [reduceCtorEq] at h)
    split at h
    · exact map_nil h
    · cases h
  · cases p <;> simp only [LOp.act, reduceCtorEq, Option.some.injEq, Prod.mk.injEq] at h
    exact h.2.symm
end
end Go.PW
