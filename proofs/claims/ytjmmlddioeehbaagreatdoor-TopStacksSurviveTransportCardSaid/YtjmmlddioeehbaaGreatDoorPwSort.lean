/-
  PwSort: slices.Sort over strings, as a contract that changes a row.
-/
import Derived.Test.YtjmmlddioeehbaaGreatDoorPwShelf
import Derived.Test.YtjmmlddioeehbaaGreatDoorPwMut
import Derived.Test.YtjmmlddioeehbaaGreatDoorPwWalk
import Derived.Test.YtjmmlddioeehbaaGreatDoorPwMove
import Derived.Test.YtjmmlddioeehbaaGreatDoorPwDec
import Derived.Sort.OwnSorted
namespace Go.PW
open Go.RowKit Go.Proofs Go.Sort
variable {P : Program} {f : FuncId}
section
variable {d nm v : Nat} {elem : TypeId} {sz : Nat} {es es' : List (List PV)} {nw : Bool} {sl : List (Nat × PV)} {m : List (Nat × Ent)} {g : Nat} {r : List LOper} {acc : List Log} {K : List Log → St → Prop}
end
theorem Wk.rowLe {st S : St} (nm ver : Nat) {e : Ent} {es' : List (List PV)} (hl : liveF (look st.mem) nm ver = some e) (hd : e.data = true) (hr : LesR e.es es') (hS : { st with mem := (nm, { e with es := es' }) :: st.mem } = S) : Wk st S := by
  subst hS
  intro w0 I0 N a w hdr R
  have M := R.mem
  rw [← live_eq] at hl
  let C : Ctx := { w, mem := st.mem, hd := hdr, gen := st.gen, I0 := fun b => I0 b ∨ w0.w.heap.size ≤ b, gh := I0.gh }
  obtain ⟨xs, ho, hbig, hc⟩ := M.rows nm ver e hl
  obtain ⟨h1, h2⟩ := hr.out
  have hT := M.turn_row (e' := { e with es := es' }) (w' := w) (xs := xs) hl rfl rfl h1.symm rfl (World.grownBy.refl _ _) (by show w.ownsRow w0.B e.elem e.sz _ es'.length xs; rw [← h1]; exact ho) (by show es'.length ≤ big; omega) (by
    intro i cs' hi
    have hi' : es'[i]? = some cs' := hi
    have hlt := (List.getElem?_eq_some_iff.1 hi').1
    have hlt2 : i < e.es.length := by omega
    have hg : e.es[i]? = some (e.es[i]'hlt2) := List.getElem?_eq_getElem hlt2
    obtain ⟨hle, hone⟩ := h2 i _ _ hg hi'
    obtain ⟨c1, c2, c3⟩ := hc i _ hg
    refine ⟨by show cs'.length = e.sz; rw [← hle.out.1]; exact c1, fun p hp => List.all_eq_true.1 hone p hp, fun j p hj => ?_⟩
    have hjl := (List.getElem?_eq_some_iff.1 hj).1
    have hjl2 : j < (e.es[i]'hlt2).length := by rw [hle.out.1]; exact hjl
    have hgj : (e.es[i]'hlt2)[j]? = some ((e.es[i]'hlt2)[j]'hjl2) := List.getElem?_eq_getElem hjl2
    obtain ⟨v, a1, a2, a3⟩ := c3 j _ hgj
    have hlp := hle.out.2 j _ _ hgj hj
    exact ⟨v, a1, a2.le hlp, fun hdt => (a3 hd).le hlp⟩)
  obtain ⟨M', L'⟩ := hT
  exact ⟨hdr, ⟨M', R.defers, R.size, R.top, fun t p ht => ⟨(R.slot t p ht).1, L'.rv (R.slot t p ht).2⟩, L'.frame R.frame⟩⟩
theorem LesR.refl {es : List (List PV)} (h : ∀ cs ∈ es, cs.all PV.one = true) : LesR es es := by
  induction es with
  | nil => exact .nil
  | cons p ps ih => exact .cons (Les.refl _) (h p (by simp)) (ih fun cs hc => h cs (by simp [hc]))
theorem LesR.append {a b a' b' : List (List PV)} (h : LesR a a') (h' : LesR b b') : LesR (a ++ b) (a' ++ b') := by
  induction h with
  | nil => exact h'
  | cons h ho t ih => exact .cons h ho ih
theorem LesR.replicate {p q : List PV} (n : Nat) (h : Les p q) (ho : q.all PV.one = true) : LesR (List.replicate n p) (List.replicate n q) := by
  induction n with
  | zero => exact .nil
  | succ n ih => exact .cons h ho ih
theorem LesR.clear {α : Type} {c : α → List PV} {l : List α} {lo hi : Nat} {zero : List PV} {z : α} (hz : Les zero (c z)) (hone : ∀ x, (c x).all PV.one = true) : LesR ((gclear (l.map c) lo hi zero).map fun x => x) ((gclear l lo hi z).map c) := by
  rw [map_clear c l lo hi z, List.map_id']
  show LesR ((l.map c).take lo ++ List.replicate (hi - lo) zero ++ (l.map c).drop hi) _
  refine LesR.append (LesR.append (LesR.refl fun cs hc => ?_) (LesR.replicate _ hz (hone z))) (LesR.refl fun cs hc => ?_)
  · obtain ⟨x, _, rfl⟩ := List.mem_map.1 (List.mem_of_mem_take hc)
    exact hone x
  · obtain ⟨x, _, rfl⟩ := List.mem_map.1 (List.mem_of_mem_drop hc)
    exact hone x
section
variable {α : Type} {c : α → List PV} {l t : List α} {v : α} {r : List LOper} {acc : List Log} {sl : List (Nat × PV)} {m : List (Nat × Ent)} {g d : Nat} {K : List Log → St → Prop} {x y : LX} {k : IntKind} {a lo hi : Int}
end
theorem Le.cut {α : Type} {c : α → List PV} {l t : List α} {lo hi : Int} {sz : Nat} (h : gcut l lo hi = some t) : Le (.list sz (((l.map c).take hi.toNat).drop lo.toNat)) (.list sz (t.map c)) := by
  unfold gcut at h
  split at h
  · injection h with h
    subst h
    rw [List.map_drop, List.map_take]
    exact .refl _
  · cases h
end Go.PW
