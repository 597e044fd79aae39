/-
  PwSort: slices.Sort over strings, as a contract that changes a row.
-/
import Derived.Test.YtlkknmhhefjmjaaDoorPwShelf
import Derived.Test.YtlkknmhhefjmjaaDoorPwMut
import Derived.Test.YtlkknmhhefjmjaaDoorPwWalk
import Derived.Test.YtlkknmhhefjmjaaDoorPwMove
import Derived.Test.YtlkknmhhefjmjaaDoorPwDec
import Derived.Sort.OwnSorted
namespace Go.PW
open Go.RowKit Go.Proofs Go.Sort
variable {P : Program} {f : FuncId}
theorem live1 {E e0 : Ent} {nm ver : Nat} (h1 : E.ver = 0) (h2 : E.dead = false) : live [(1, E)] nm ver = some e0 ↔ nm = 1 ∧ ver = 0 ∧ e0 = E := by
  rw [live_some]
  simp only [look]
  constructor
  · rintro ⟨h, h3, _⟩
    by_cases hn : 1 = nm
    · rw [if_pos hn] at h
      injection h with h
      subst h
      exact ⟨hn.symm, by omega, rfl⟩
    · rw [if_neg hn] at h; cases h
  · rintro ⟨rfl, rfl, rfl⟩
    exact ⟨by simp, h1, h2⟩
section
variable {d nm v : Nat} {elem : TypeId} {sz : Nat} {es es' : List (List PV)} {nw : Bool} {sl : List (Nat × PV)} {m : List (Nat × Ent)} {g : Nat} {r : List LOper} {acc : List Log} {K : List Log → St → Prop}
end
theorem LesR.refl {es : List (List PV)} (h : ∀ cs ∈ es, cs.all PV.one = true) : LesR es es := by
  induction es with
  | nil => exact .nil
  | cons p ps ih => exact .cons (Les.refl _) (h p (by simp)) (ih fun cs hc => h cs (by simp [hc]))
theorem LesR.append {a b a' b' : List (List PV)} (h : LesR a a') (h' : LesR b b') : LesR (a ++ b) (a' ++ b') := by
  induction h with
  | nil => exact h'
  | cons h ho t ih => exact .cons h ho ih
theorem LesR.replicate {p q : List PV} (n : Nat) (h : Les p q) (ho : q.all PV.one = true) : LesR (List.replicate n p) (List.replicate n q) := by
  induction n with
  | zero => exact .nil
  | succ n ih => exact .cons h ho ih
theorem LesR.clear {α : Type} {c : α → List PV} {l : List α} {lo hi : Nat} {zero : List PV} {z : α} (hz : Les zero (c z)) (hone : ∀ x, (c x).all PV.one = true) : LesR ((gclear (l.map c) lo hi zero).map fun x => x) ((gclear l lo hi z).map c) := by
  rw [map_clear c l lo hi z, List.map_id']
  show LesR ((l.map c).take lo ++ List.replicate (hi - lo) zero ++ (l.map c).drop hi) _
  refine LesR.append (LesR.append (LesR.refl fun cs hc => ?_) (LesR.replicate _ hz (hone z))) (LesR.refl fun cs hc => ?_)
  · obtain ⟨x, _, rfl⟩ := List.mem_map.1 (List.mem_of_mem_take hc)
    exact hone x
  · obtain ⟨x, _, rfl⟩ := List.mem_map.1 (List.mem_of_mem_drop hc)
    exact hone x
section
variable {α : Type} {c : α → List PV} {l t : List α} {v : α} {r : List LOper} {acc : List Log} {sl : List (Nat × PV)} {m : List (Nat × Ent)} {g d : Nat} {K : List Log → St → Prop} {x y : LX} {k : IntKind} {a lo hi : Int}
theorem W.idxSR {sz nm ver : Nat} {e : Ent} (hx : lx sl x = some (.sub nm ver lo.toNat hi.toNat)) (hy : lx sl y = some (.int k a)) (hl : liveF (look m) nm ver = some e) (hs : e.sz = sz) (hcut : gcut l lo hi = some t) (h : gidx t a = some v)
    (kk : W P r (([nm], []) :: acc) ⟨(d, .pown nm ver (lo + a).toNat 0) :: sl, m, g⟩ K) : W P (⟨some d, none, .idx sz x y⟩ :: r) acc ⟨sl, m, g⟩ K := by
  have h0 := (gidx_some h).1
  have h1 := gidx_lt h
  unfold gcut at hcut
  split at hcut
  · rename_i hc
    injection hcut with hcut
    subst hcut
    simp only [List.length_drop, List.length_take] at h1
    exact W.idxS hx hy hl hs h0 (by omega) (by omega) kk
  · cases hcut
end
theorem Le.cut {α : Type} {c : α → List PV} {l t : List α} {lo hi : Int} {sz : Nat} (h : gcut l lo hi = some t) : Le (.list sz (((l.map c).take hi.toNat).drop lo.toNat)) (.list sz (t.map c)) := by
  unfold gcut at h
  split at h
  · injection h with h
    subst h
    rw [List.map_drop, List.map_take]
    exact .refl _
  · cases h
end Go.PW
