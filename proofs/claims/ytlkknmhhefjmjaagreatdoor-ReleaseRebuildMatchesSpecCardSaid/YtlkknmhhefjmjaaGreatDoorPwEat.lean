/-
 PwEat: a call that is handed a row of the caller's and may keep it: behind it the row is no longer the caller's.
-/
import Derived.Test.YtlkknmhhefjmjaaGreatDoorPwSort
namespace Go.PW
open Go.RowKit
variable {P : Program} {f : FuncId}
theorem DVs.append {w : World} {I : Nat → Prop} {vs vs' : List Value} {ps ps' : List PV} (h : DVs w I vs ps) (h' : DVs w I vs' ps') : DVs w I (vs ++ vs') (ps ++ ps') := by
 induction h with
 | nil => exact h'
 | cons h t ih => exact .cons h ih
theorem DVs.of_all {w : World} {I : Nat → Prop} : ∀ {vs : List Value} {ps : List PV}, vs.length = ps.length → (∀ (j : Nat) (v : Value) (p : PV), vs[j]? = some v → ps[j]? = some p → DV w I v p) → DVs w I vs ps
 | [], [], _, _ => .nil
 | [], _ :: _, h, _ => by simp at h
 | _ :: _, [], h, _ => by simp at h
 | v :: vs, p :: ps, h, hv => .cons (hv 0 v p rfl rfl) (DVs.of_all (by simpa using h) fun j v p h1 h2 => hv (j + 1) v p h1 h2)
theorem PMut.eat {args : List PV} {elem sz : Nat} {es : List (List PV)} {res : PV} (h : PSpec P f (args ++ [.list sz es]) res) (hd : args.all PV.dataOk = true) :
  PMut P f (args ++ [.own 1 0]) [(1, ⟨0, elem, sz, es, true, false, false⟩)] res [] := by
 intro w hdr I gh vs M hl hv
 let E : Ent := ⟨0, elem, sz, es, true, false, false⟩
 have lv1 : live [(1, E)] 1 0 = some E := (live1 rfl rfl).2 ⟨rfl, rfl, rfl⟩
 have hkill := killed_dv M lv1 rfl
 -- the arguments as data
 have hlen : vs.length = args.length + 1 := by simpa using hl
 have hD : DVs w (fun b => I b ∨ w.heap.size ≤ b) vs (args ++ [.list sz es]) := by
  refine DVs.of_all (by simp [hlen]) fun j v p h1 h2 => ?_
  by_cases hj : j < args.length
  ·rw [List.getElem?_append_left hj] at h2
   have h3 := hv j v p h1 (by rw [List.getElem?_append_left hj]; exact h2)
   have h4 := h3.dataOk' (List.all_eq_true.1 hd p (List.mem_of_getElem? h2))
   exact h4.mono (Nat.le_refl _) fun b _ hi => ⟨hi.1, rfl⟩
  ·have hje : j = args.length := by
    have := (List.getElem?_eq_some_iff.1 h2).1
    simp at this; omega
   subst hje
   rw [List.getElem?_append_right (Nat.le_refl _), Nat.sub_self] at h2
   injection h2 with h2
   subst h2
   have h3 := hv args.length v (.own 1 0) h1 (by rw [List.getElem?_append_right (Nat.le_refl _), Nat.sub_self]; rfl)
   have hve : v = hdr 1 := by
    cases h3 with
    | data _ _ h => cases h
    | own _ _ _ _ _ h => exact h _ lv1
   rw [hve]
   exact hkill.mono (Nat.le_refl _) fun b _ hi => ⟨hi.1, rfl⟩
 refine (h w vs _ hD).mono ?_
 rintro r w' ⟨v, he, hb, hr⟩
 refine ⟨v, hdr, he, ⟨M.i0, hb.mono (Nat.zero_le _), ?_, ?_, ?_, ?_⟩, .data _ _ ?_, ?_, ?_⟩
 ·intro nm e h; simp [look] at h
 ·intro nm ver e h; simp [live, look] at h
 ·intro nm nm' ver ver' e e' b _ h; simp [live, look] at h
 ·intro nm ver e b h; simp [live, look] at h
 ·refine hr.mono (Nat.le_refl _) fun b _ hi => ⟨⟨?_, ?_⟩, rfl⟩
  ·rcases hi with hi | hi
   ·exact hi
   ·exact .inr hi
  ·intro nm ver e h; simp [live, look] at h
 ·intro nm e e' _ h; simp [live, look] at h
 ·intro b hlt _
  refine ⟨?_, hb.block b hlt⟩
  intro nm ver e h; simp [live, look] at h
section
variable {d nm v : Nat} {elem : TypeId} {sz : Nat} {es : List (List PV)} {nw : Bool} {sl : List (Nat × PV)} {m : List (Nat × Ent)} {g : Nat} {r : List LOper} {acc : List Log} {K : List Log → St → Prop}
theorem W.callEat {as : List LX} {args ys : List PV} {res : PV} {ns : List Nat} (h : PSpec P f (args ++ [.list sz es]) res) (hx : lxs sl as = some (ys ++ [.own nm v])) (hq : Les ys args) (hd : ys.all PV.dataOk = true) (hd' : args.all PV.dataOk = true)
  (hm : look m nm = some ⟨v, elem, sz, es, true, nw, false⟩) (hr : ∀ tk, m3 tk res = res) (ho : ok3 [1] res = true) (hns : nm :: (ys ++ [PV.own nm v]).flatMap nameOf = ns) (hu : (r.all fun o => o.dst != some d) = true)
  (kk : W P r ((d :: ns, [nm]) :: acc) ⟨(d, res) :: sl, (nm, ⟨v, elem, sz, es, true, nw, true⟩) :: m, g⟩ K) : W P (⟨some d, none, .call f as⟩ :: r) acc ⟨sl, m, g⟩ K := by
 have hp : PMut P f (args ++ [.own 1 0]) [(1, ⟨0, elem, sz, es, true, false, false⟩)] res [] := PMut.eat h hd'
 refine W.callM (fun _ => (nm, v)) (fun _ => nm) hp hx ?_ (res' := res) (up := [(nm, ⟨v, elem, sz, es, true, nw, true⟩)]) (hr _) ?_ (ns := ns) ?_ hu kk
 ·refine ⟨by simp [hq.out.1], ?_, by simp [look], by simp, ?_, by simp, ?_, by simp, ho⟩
  ·intro j x p h1 h2
   by_cases hj : j < ys.length
   ·rw [List.getElem?_append_left hj] at h1
    rw [List.getElem?_append_left (by rw [← hq.out.1]; exact hj)] at h2
    exact .data (List.all_eq_true.1 hd x (List.mem_of_getElem? h1)) (hq.out.2 j x p h1 h2)
   ·have hje : j = ys.length := by
     have := (List.getElem?_eq_some_iff.1 h1).1
     simp at this; omega
    subst hje
    rw [List.getElem?_append_right (Nat.le_refl _), Nat.sub_self] at h1
    rw [hq.out.1, List.getElem?_append_right (Nat.le_refl _), Nat.sub_self] at h2
    injection h1 with h1; injection h2 with h2
    subst h1 h2
    exact .tok rfl rfl
  ·intro x hx y hy hne
   simp at hx hy; subst hx hy; exact absurd rfl hne
  ·intro x hx
   simp at hx; subst hx
   exact ⟨⟨rfl, rfl, rfl⟩, ⟨v, elem, sz, es, true, nw, false⟩, by simp [liveF, hm], rfl, rfl, .inl ⟨rfl, rfl, rfl⟩⟩
 ·simp [Mut.up, Mut.gone, hm]
 ·simpa [Mut.foot] using hns
end
end Go.PW
