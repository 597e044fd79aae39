/-
  PwGlob2: variables of the library's: some integer (out of the world's shape), an interface value that is not nil (out of what the row lists).
-/
import Derived.Test.YtpcmhhbocifbcaaGreatDoorPwGlob
import Derived.Shelf.Vars
import Derived.LaidLaws
namespace Go.PW
open Go.RowKit Go.WideShapes Go.ChangeShapes
theorem pim_one {W : World} {g : Nat} {v : Value} {q : PV} (hc : W.cell? ⟨g, 0, none⟩ = some v) (h1 : q.one = true) (hd : DV W (· < W.heap.size) v q) : DV W (· < W.heap.size) (.pointer (some ⟨g, 0, none⟩)) (.pim [q]) := by
  have hblk : g < W.heap.size := cell_lt hc
  refine .pim ⟨g, 0, none⟩ [q] (fun _ => v) hblk hblk (fun p hp => ?_) (fun j p hj => ?_) (fun j p hj => ?_)
  · rw [List.mem_singleton] at hp
    subst hp
    exact h1
  · cases j with
    | zero => exact hc
    | succ j => simp at hj
  · cases j with
    | zero => simp at hj; subst hj; exact hd
    | succ j => simp at hj
theorem glob_any {P : Program} {W : World} {g : Nat} {t : TypeId} {zero : Array Value} (h : W.ShapedOpen P) (hg : g < P.globals.size)
    (h0 : ((begin P (fun _ _ => 0) default).world.heap[g]?).bind Obj.row? = some (zero, t)) (hz : zero.size = 1)
    (hb : P.buildable t = true) (hc : P.cellTypes P.depth t = some [t]) (hu : P.underlying t = some (.int .i64)) : DV W (· < W.heap.size) (.pointer (some ⟨g, 0, none⟩)) (.pim [.anyi]) ∧ Exact W g [PV.anyi].length := by
  obtain ⟨m, hm⟩ := Go.Proofs.cell_of_shapedOpen_int h hg h0 hz hb hc hu
  obtain ⟨cs, e1, e2, _⟩ := h.1 g zero t hg h0
  exact ⟨pim_one hm rfl (.anyi m), cs, t, _, e1, by rw [e2, hz]; rfl⟩
theorem glob_ifc {P : Program} {W : World} {l : List (String × DataW Unit)} {n nm : String} {d : DataW Unit} {g : Nat} {t : TypeId} (hm : (n, .iface nm d) ∈ l) (hg : P.globalNamed n = some g) (hty : (P.globals[g]?).map (·.type) = some t)
    (ht : (match P.underlying t with | some (.interface _) => true | _ => false) = true) (h : laidMet P l W) : DV W (· < W.heap.size) (.pointer (some ⟨g, 0, none⟩)) (.pim [.ifc true]) ∧ Exact W g [PV.ifc true].length := by
  obtain ⟨ps, hl, _⟩ := h
  obtain ⟨g', t', cs, fuel, p, h1, h2, h3, h4⟩ := laid_at hm hl
  obtain rfl := Option.some.inj (hg.symm.trans h1)
  obtain rfl := Option.some.inj (hty.symm.trans h2)
  have ⟨ms, hms⟩ : ∃ ms, P.underlying t = some (.interface ms) := by
    cases hu : P.underlying t with
    | none => rw [hu] at ht; cases ht
    | some x =>
      rw [hu] at ht
      cases x
      case interface ms => exact ⟨ms, rfl⟩
      all_goals cases ht
  obtain ⟨f, u, v, hv, _, _⟩ := iface_of_trod hms h4
  have hc : W.cell? ⟨g, 0, none⟩ = some (.iface u v) := by
    rw [World.var?_cell hg h3]
    rw [← Array.getElem?_toList, hv]
    rfl
  exact ⟨pim_one hc rfl (.iface u v), exact_of_var hg h3 (by rw [← Array.length_toList, hv]; rfl)⟩
end Go.PW
