/-
  PwInsert: slices.Insert of one element, as a contract: the row and the one element are used up, a row of the caller's stands behind it.
-/
import Derived.Test.YtlkknmhhefjmjaaDoorPwBorrow
import Derived.Laws.CopyRow
import Derived.Laws.IdiomCopy
namespace Go.PW
open Go.RowKit
variable {P : Program} {f : FuncId}
theorem grownBy_drew_alloc (w : World) (o : Obj) : w.grownBy (w.drew.alloc o) none :=
  ⟨rfl, rfl, rfl, by rw [World.size_alloc]; exact Nat.le_succ _, fun k hk _ => Below.heap_alloc w.drew o k hk⟩
def ggrow (bytes : Nat) (n : Int) : Option Unit := if 0 ≤ n ∧ n.toNat * bytes ≤ big then some () else none
theorem ggrow_some {bytes : Nat} {n : Int} {u : Unit} (h : ggrow bytes n = some u) : 0 ≤ n ∧ n.toNat * bytes ≤ big := by
  unfold ggrow at h
  split at h
  · assumption
  · cases h
theorem PMut.ofGrow {e : TypeId} {sz : Nat} {n : Int} (h : ∀ w, Calls P f #[.slice none 0 0, .int .i64 n] w fun r w' => ∃ v, r = .returned v ∧ w.grownBy w' none ∧ w'.ownsRow 0 e sz v 0 [] ∧ ∀ b, v.ownBlock = some b → w.heap.size ≤ b) :
    PMut P f [.nils, .int .i64 n] [] (.own 70000 0) [(70000, ⟨0, e, sz, [], true, false, false⟩)] := by
  intro w hd I gh vs M hl hv
  let E : Ent := ⟨0, e, sz, [], true, false, false⟩
  obtain ⟨v1, v2, rfl⟩ : ∃ a b, vs = [a, b] := by
    match vs, hl with
    | [a, b], _ => exact ⟨a, b, rfl⟩
  have r1 := hv 0 v1 _ rfl rfl
  have r2 := hv 1 v2 _ rfl rfl
  have e1 : v1 = .slice none 0 0 := by
    cases r1 with
    | data _ _ h => cases h; rfl
  have e2 : v2 = .int .i64 n := by
    cases r2 with
    | data _ _ h => cases h; rfl
  subst e1 e2
  refine (h w).mono ?_
  rintro r w' ⟨v, rfl, hg, ho, hnew⟩
  let hd' : Nat → Value := fun _ => v
  have lv : ∀ {nm ver e0}, live [(70000, E)] nm ver = some e0 → nm = 70000 ∧ ver = 0 ∧ e0 = E := by
    intro nm ver e0 h
    rw [live_some] at h
    obtain ⟨h1, h2, _⟩ := h
    simp only [look] at h1
    split at h1
    · rename_i hn; injection h1 with h1; subst h1; exact ⟨hn.symm, h2.symm, rfl⟩
    · cases h1
  refine ⟨v, hd', rfl, ⟨M.i0, ?_, ?_, ?_, ?_, ?_⟩, ?_, ?_, ?_⟩
  · exact (Below.refl 0 w).grown hg (Nat.zero_le _) (fun k _ => Nat.zero_le _)
  · intro nm e0 h
    simp only [look] at h
    split at h
    · injection h with h; subst h; exact ⟨fun h => (by cases h), fun _ => (by show 0 < 2; omega)⟩
    · cases h
  · intro nm ver e0 h
    obtain ⟨rfl, rfl, rfl⟩ := lv h
    exact ⟨[], ho, Nat.zero_le _, fun i cs hi => by simp [E] at hi⟩
  · intro nm nm' ver ver' e0 e1 b hne h1 h2
    exact absurd ((lv h1).1.trans (lv h2).1.symm) hne
  · intro nm ver e0 b h hb2
    exact .inr (hnew b hb2)
  · refine .own 70000 0 v ?_ (.inl (by show 0 < 2; omega)) fun e0 h => rfl
    rcases ho.2 with ⟨h1, _⟩ | ⟨g, cap, cur, h1, _⟩
    · rw [h1]; rfl
    · rw [h1]; rfl
  · intro nm e0 e1 h1 _
    simp [live, look] at h1
  · intro b hlt hf
    refine ⟨fun nm ver e0 h => fun hb => ?_, hg.block b hlt (by simp)⟩
    have := hnew b hb
    omega
section
variable {α : Type} {c : α → List PV} {l l2 : List α} {z : α} {d nm v nm2 v2 : Nat} {elem : TypeId} {sz bytes : Nat} {cs : List PV} {nw nw2 : Bool} {sl : List (Nat × PV)} {m : List (Nat × Ent)} {g : Nat} {r : List LOper} {acc : List Log} {K : List Log → St → Prop} {i : Int}
end
end Go.PW
