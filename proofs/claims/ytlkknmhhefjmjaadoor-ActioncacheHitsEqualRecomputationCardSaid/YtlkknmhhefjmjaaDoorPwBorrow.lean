/-
  PwBorrow: a call that only reads a row of the caller's and hands back a row of its own, beside numbers: the caller's row stays the caller's.
-/
import Derived.Test.YtlkknmhhefjmjaaDoorPwEat
namespace Go.PW
open Go.RowKit
variable {P : Program} {f : FuncId}
def flat0 : PV → Bool
  | .int .. | .bool _ | .str _ | .nils | .pnil | .own 70000 0 => true
  | _ => false
def flat1 : PV → Bool
  | .agg cs => cs.all flat0
  | p => flat0 p
section
variable {C C' : Ctx}
end
section
variable {d nm v : Nat} {elem sz elem2 sz2 : Nat} {es es2 : List (List PV)} {nw : Bool} {sl : List (Nat × PV)} {m : List (Nat × Ent)} {g : Nat} {r : List LOper} {acc : List Log} {K : List Log → St → Prop}
theorem mutOk_newT {look : Look} {gen : Nat} {xs args : List PV} {e : Ent} {res : PV} (hl : Les xs args) (hd : xs.all PV.dataOk = true) (he : e.ver = 0 ∧ e.new = false ∧ e.dead = false ∧ e.data = true) (hf : freshF look d = true) (hres : ok3 [70000] res = true) :
    MutOk look gen xs args res ⟨[], [(70000, e)], fun _ => (0, 0), fun _ => d⟩ := by
  refine ⟨hl.out.1, fun j x p h1 h2 => .data (List.all_eq_true.1 hd x (List.mem_of_getElem? h1)) (hl.out.2 j x p h1 h2), by simp, fun x hx => ?_, by simp, fun x hx y hy hne => ?_, by simp, fun x hx => ?_, hres⟩
  · simp at hx; subst hx; simp [PW.look]
  · simp at hx hy; subst hx hy; exact absurd rfl hne
  · simp at hx; subst hx
    exact ⟨⟨he.1, he.2.1, he.2.2.1⟩, fun _ h => by simp [PW.look] at h, fun _ => ⟨hf, by simp⟩, .inl he.2.2.2⟩
theorem W.callOT {as : List LX} {args xs : List PV} {res res' : PV} (h : PMut P f args [] res [(70000, ⟨0, elem, sz, es, true, false, false⟩)]) (hx : lxs sl as = some xs) (hl : Les xs args) (hd : xs.all PV.dataOk = true) (hf : freshF (look m) d = true) (hres : ok3 [70000] res = true)
    (hr : m3 (Mut.post ⟨[], [(70000, ⟨0, elem, sz, es, true, false, false⟩)], fun _ => (0, 0), fun _ => d⟩ g) res = res') (hu : (r.all fun o => o.dst != some d) = true)
    (kk : W P r ((d :: d :: xs.flatMap nameOf, [d]) :: acc) ⟨(d, res') :: sl, (d, ⟨g, elem, sz, es, true, true, false⟩) :: m, g⟩ K) : W P (⟨some d, none, .call f as⟩ :: r) acc ⟨sl, m, g⟩ K :=
  W.callM (fun _ => (0, 0)) (fun _ => d) h hx (mutOk_newT hl hd ⟨rfl, rfl, rfl, rfl⟩ hf hres) hr rfl rfl hu kk
end
end Go.PW
