/-
  PwGlob: a package variable that a row lists holds the row's data: from 'laidMetH' to 'Glob'. (arrays of integers, of slices of integers)
-/
import Derived.Test.YtjmmlddioeehbaaGreatDoorPwTop
import Derived.Lib.LaidTab
import Derived.Shelf.Vars
import Derived.LaidLaws
namespace Go.PW
open Go.RowKit Go.WideShapes Go.ChangeShapes
def gInt : DataW Unit → Option PV
  | .lit (.int k n) => some (.int k n)
  | _ => none
def gOne : DataW Unit → Option PV
  | .lit (.int k n) => some (.int k n)
  | .nil => some (.list 1 [])
  | .slice elems _ => if elems.length ≤ 1000 then (elems.mapM gInt).map fun xs => .list 1 (xs.map fun x => [x]) else none
  | _ => none
def gCells : DataW Unit → Option (List PV)
  | .agg parts => parts.mapM gOne
  | _ => none
def gTy (P : Program) (t : TypeId) : Bool := match P.underlying t with
  | some (.int _) => true
  | some (.slice e) => (match P.underlying e with | some (.int _) => true | _ => false) && decide (P.cellsOf e = 1)
  | _ => false
theorem gint_of {P : Program} {W : World} {enc : TypeId × Value → Unit} {sp : Nat → Bool} {held : Bool} {n : Nat} {t : TypeId} {cs : List Value} {d : DataW Unit} {ps : List MemPlace} {k : IntKind} (hu : P.underlying t = some (.int k))
    (h : DataW.trod enc P W 0 sp held n t cs = some (d, ps)) : ∃ z, cs = [.int k z] ∧ gInt d = some (.int k z) := by
  obtain ⟨z, h1, h2, _⟩ := DataW.trod_int hu h
  injection h2 with h2 _
  subst h2
  exact ⟨z, h1, rfl⟩
theorem gone_of {P : Program} {W : World} {enc : TypeId × Value → Unit} {sp : Nat → Bool} {held : Bool} {n : Nat} {t : TypeId} {cs : List Value} {d : DataW Unit} {ps : List MemPlace} (hT : gTy P t = true) {q : PV} (hq : gOne d = some q)
    (h : DataW.trod enc P W 0 sp held n t cs = some (d, ps)) : ∃ v, cs = [v] ∧ q.one = true ∧ DV W (· < W.heap.size) v q := by
  unfold gTy at hT
  split at hT
  · rename_i k hu
    obtain ⟨z, h1, h2⟩ := gint_of hu h
    have : gOne d = gInt d := by
      obtain ⟨z', _, h3, _⟩ := DataW.trod_int hu h
      injection h3 with h3 _
      subst h3; rfl
    rw [this, h2] at hq
    injection hq with hq; subst hq
    exact ⟨_, h1, rfl, .int _ _⟩
  · rename_i e hu
    simp only [Bool.and_eq_true, decide_eq_true_eq] at hT
    obtain ⟨he, hc1⟩ := hT
    split at he <;> first | (cases he; done) | skip
    rename_i k hk
    cases n with
    | zero => simp [DataW.trod] at h
    | succ n =>
      rw [DataW.trod_step] at h
      unfold DataW.trodStep at h
      rw [hu] at h
      split at h <;> rename_i he' <;> first | (cases he'; done) | (cases h; done) | skip
      · injection h with h; injection h with h1 h2; subst h1
        injection hq with hq; subst hq
        exact ⟨_, rfl, rfl, .list0 _ _ _ fun _ => rfl⟩
      · rename_i e' ad len cap
        injection he' with he'; injection he' with he'; subst he'
        simp only at h
        split at h
        · rename_i hc
          rw [Option.bind_eq_some_iff] at h
          obtain ⟨elems, h1, h2⟩ := h
          rw [Option.map_eq_some_iff] at h2
          obtain ⟨rest, _, h3⟩ := h2
          injection h3 with h3 _
          subst h3
          obtain ⟨hlen, hat⟩ := mapM_at h1
          simp only [List.length_range] at hlen
          simp only [gOne] at hq
          split at hq
          · rename_i hb
            · simp only [List.length_map] at hb
              rw [Option.map_eq_some_iff] at hq
              obtain ⟨xs, hx, rfl⟩ := hq
              obtain ⟨xlen, xat⟩ := mapM_at hx
              simp only [List.length_map] at xlen
              have hx : ∀ i, i < len → ∃ z, W.cell? (ad.add i) = some (.int k z) ∧ xs[i]? = some (.int k z) := by
                intro i hi
                obtain ⟨y, g1, g2⟩ := hat i i (by simp [hi])
                rw [Option.bind_eq_some_iff] at g2
                obtain ⟨vs, g3, g4⟩ := g2
                obtain ⟨z, g5, g6⟩ := gint_of hk (d := y.1) (ps := y.2) g4
                obtain ⟨x, g7, g8⟩ := xat i y.1 (by simp [g1])
                rw [g6] at g8; injection g8 with g8; subst g8
                refine ⟨z, ?_, g7⟩
                unfold World.cells? at g3
                rw [if_pos (Nat.zero_le _), hc1] at g3
                obtain ⟨k1, k2⟩ := mapM_at g3
                obtain ⟨v, k3, k4⟩ := k2 0 0 (by simp)
                rw [g5] at k3
                simp at k3
                subst k3
                rw [add_add] at k4
                simpa using k4
              by_cases hz : len = 0
              · have : xs = [] := List.length_eq_zero_iff.1 (by omega)
                subst this; subst hz
                exact ⟨_, rfl, rfl, .list0 _ _ _ fun e => by cases e⟩
              · have hblk : ad.block < W.heap.size := by
                  obtain ⟨z, k1, _⟩ := hx 0 (by omega)
                  have := cell_lt k1
                  rwa [block_add] at this
                have hel : (xs.map fun x => [x]).length = len := by simp; omega
                refine ⟨_, rfl, rfl, ?_⟩
                have := DV.list (w := W) (I := (· < W.heap.size)) ad cap 1 (xs.map fun x => [x]) (fun i _ => (W.cell? (ad.add i)).getD .nilIface) (by omega)
                  (by have : big = 140737488355328 := rfl
                      omega) hblk hblk
                  (fun i cs hi => by
                    rw [List.getElem?_map, Option.map_eq_some_iff] at hi
                    obtain ⟨x, hx1, rfl⟩ := hi
                    have hil : i < len := by have := (List.getElem?_eq_some_iff.1 hx1).1; omega
                    obtain ⟨z, _, k2⟩ := hx i hil
                    rw [hx1] at k2; injection k2 with k2; subst k2
                    exact ⟨rfl, by simp [PV.one]⟩)
                  (fun i cs j p hi hj => by
                    rw [List.getElem?_map, Option.map_eq_some_iff] at hi
                    obtain ⟨x, hx1, rfl⟩ := hi
                    have hil : i < len := by have := (List.getElem?_eq_some_iff.1 hx1).1; omega
                    obtain ⟨z, k1, k2⟩ := hx i hil
                    cases j with
                    | zero => rw [Nat.mul_one, Nat.add_zero, k1]; rfl
                    | succ j => simp at hj)
                  (fun i cs j p hi hj => by
                    rw [List.getElem?_map, Option.map_eq_some_iff] at hi
                    obtain ⟨x, hx1, rfl⟩ := hi
                    have hil : i < len := by have := (List.getElem?_eq_some_iff.1 hx1).1; omega
                    obtain ⟨z, k1, k2⟩ := hx i hil
                    rw [hx1] at k2; injection k2 with k2; subst k2
                    cases j with
                    | zero =>
                      simp at hj; subst hj
                      rw [k1]; exact .int _ _
                    | succ j => simp at hj)
                rwa [hel] at this
          · cases hq
        · cases h
  · cases hT
theorem laid_at {P : Program} {W : World} {n : String} {d : DataW Unit} : ∀ {l : List (String × DataW Unit)} {ps : List MemPlace}, (n, d) ∈ l → DataW.LaidVars P W l ps →
    ∃ g t cs fuel p, P.globalNamed n = some g ∧ (P.globals[g]?).map (·.type) = some t ∧ W.var? P n = some cs ∧ DataW.trod (fun _ => ()) P W 0 (fun _ => true) false fuel t cs.toList = some (d, p)
  | (m, e) :: r, ps, hm, ⟨g, t, cs, fuel, p, q, h1, h2, h3, h4, h5, _⟩ => by
    rcases List.mem_cons.1 hm with hm | hm
    · injection hm with e1 e2; subst e1; subst e2
      exact ⟨g, t, cs, fuel, p, h1, h2, h3, h4⟩
    · exact laid_at hm h5
theorem met_of_h {P : Program} {W : World} {l : List (String × DataW Unit)} (hh : (l.filter fun x => x.2.handleName?.isSome) = []) (h : laidMetH P l W) : laidMet P l W := by
  unfold laidMetH at h
  rw [hh] at h
  exact h
theorem exact_of_var {P : Program} {W : World} {n : String} {g k : Nat} {cs : Array Value} (hg : P.globalNamed n = some g) (h : W.var? P n = some cs) (hk : cs.size = k) : Exact W g k := by
  unfold World.var? at h
  rw [hg, Option.bind_some] at h
  split at h
  · rename_i vs t fr he
    injection h with h
    subst h
    exact ⟨vs, t, fr, he, hk⟩
  · cases h
theorem glob_of {P : Program} {W : World} {l : List (String × DataW Unit)} {n : String} {d : DataW Unit} {g m : Nat} {t e : TypeId} {qs : List PV} (hm : (n, d) ∈ l) (hg : P.globalNamed n = some g) (hty : (P.globals[g]?).map (·.type) = some t)
    (ht : P.underlying t = some (.array m e)) (hT : gTy P e = true) (hc1 : P.cellsOf e = 1) (hct : P.cellsOf t = m) (hm0 : 0 < m) (hq : gCells d = some qs) (h : laidMet P l W) : DV W (· < W.heap.size) (.pointer (some ⟨g, 0, none⟩)) (.pim qs) ∧ Exact W g qs.length := by
  obtain ⟨ps, hl, _⟩ := h
  obtain ⟨g', t', cs, fuel, p, h1, h2, h3, h4⟩ := laid_at hm hl
  obtain rfl := Option.some.inj (hg.symm.trans h1)
  obtain rfl := Option.some.inj (hty.symm.trans h2)
  cases fuel with
  | zero => simp [DataW.trod] at h4
  | succ fuel =>
    rw [DataW.trod_step] at h4
    unfold DataW.trodStep at h4
    rw [ht] at h4
    obtain ⟨L, hL⟩ : ∃ L, cs.toList = L := ⟨_, rfl⟩
    rw [hL] at h4
    split at h4 <;> rename_i he <;> first | (cases he; done) | (cases h4; done) | skip
    · rename_i L' m' e'
      injection he with he; injection he with he1 he2; subst he1; subst he2
      split at h4
      · rename_i hcl
        rw [Option.map_eq_some_iff] at h4
        obtain ⟨xs, k1, k2⟩ := h4
        injection k2 with k2 _
        subst k2
        obtain ⟨xlen, xat⟩ := mapM_at k1
        simp only [List.length_range] at xlen
        simp only [gCells] at hq
        obtain ⟨qlen, qat⟩ := mapM_at hq
        simp only [List.length_map] at qlen
        have hx : ∀ i, i < m → ∃ v q, cs[i]? = some v ∧ qs[i]? = some q ∧ q.one = true ∧ DV W (· < W.heap.size) v q := by
          intro i hi
          obtain ⟨y, g1, g2⟩ := xat i i (by simp [hi])
          obtain ⟨q, g3, g4⟩ := qat i y.1 (by simp [g1])
          obtain ⟨v, g5, g6, g7⟩ := gone_of hT g4 (d := y.1) (ps := y.2) g2
          refine ⟨v, q, ?_, g3, g6, g7⟩
          have := congrArg (·[0]?) g5
          rw [← Array.getElem?_toList, hL]
          simpa [hc1, List.getElem?_take, List.getElem?_drop] using this
        have hcell : ∀ i, W.cell? ⟨g, i, none⟩ = cs[i]? := World.var?_cell hg h3
        have hadd : ∀ j, (⟨g, 0, none⟩ : Addr).add j = ⟨g, j, none⟩ := by
          intro j
          unfold Addr.add
          split
          · rename_i hj; subst hj; rfl
          · simp
        have hblk : g < W.heap.size := by
          obtain ⟨v, q, k1, _⟩ := hx 0 hm0
          have := hcell 0
          rw [k1] at this
          exact cell_lt this
        have hql : ∀ (j : Nat) (p : PV), qs[j]? = some p → j < m := fun j p hj => by
          have := (List.getElem?_eq_some_iff.1 hj).1
          omega
        refine ⟨.pim _ qs (fun j => (cs[j]?).getD .nilIface) hblk hblk (fun p hp => ?_) (fun j p hj => ?_) (fun j p hj => ?_), exact_of_var hg h3 ?_⟩
        · obtain ⟨j, hj⟩ := List.mem_iff_getElem?.1 hp
          obtain ⟨v, q, _, k2, k3, _⟩ := hx j (hql j p hj)
          rw [hj] at k2; injection k2 with k2; subst k2; exact k3
        · obtain ⟨v, q, k1, _⟩ := hx j (hql j p hj)
          rw [hadd, hcell, k1]; rfl
        · obtain ⟨v, q, k1, k2, _, k4⟩ := hx j (hql j p hj)
          rw [hj] at k2; injection k2 with k2; subst k2
          rw [k1]; exact k4
        · rw [← Array.length_toList, hL]; omega
      · cases h4
    · exact (‹∀ (n : Nat) (e_1 : TypeId), some (TypeDesc.array m e) = some (TypeDesc.array n e_1) → False› m e rfl).elim
end Go.PW
namespace Go.PW
open Go.RowKit Go.WideShapes Go.ChangeShapes
theorem pim_one {W : World} {g : Nat} {v : Value} {q : PV} (hc : W.cell? ⟨g, 0, none⟩ = some v) (h1 : q.one = true) (hd : DV W (· < W.heap.size) v q) : DV W (· < W.heap.size) (.pointer (some ⟨g, 0, none⟩)) (.pim [q]) := by
  have hblk : g < W.heap.size := cell_lt hc
  refine .pim ⟨g, 0, none⟩ [q] (fun _ => v) hblk hblk (fun p hp => ?_) (fun j p hj => ?_) (fun j p hj => ?_)
  · rw [List.mem_singleton] at hp
    subst hp
    exact h1
  · cases j with
    | zero => exact hc
    | succ j => simp at hj
  · cases j with
    | zero => simp at hj; subst hj; exact hd
    | succ j => simp at hj
theorem glob_any {P : Program} {W : World} {g : Nat} {t : TypeId} {zero : Array Value} (h : W.ShapedOpen P) (hg : g < P.globals.size)
    (h0 : ((begin P (fun _ _ => 0) default).world.heap[g]?).bind Obj.row? = some (zero, t)) (hz : zero.size = 1)
    (hb : P.buildable t = true) (hc : P.cellTypes P.depth t = some [t]) (hu : P.underlying t = some (.int .i64)) : DV W (· < W.heap.size) (.pointer (some ⟨g, 0, none⟩)) (.pim [.anyi]) ∧ Exact W g [PV.anyi].length := by
  obtain ⟨m, hm⟩ := Go.Proofs.cell_of_shapedOpen_int h hg h0 hz hb hc hu
  obtain ⟨cs, e1, e2, _⟩ := h.1 g zero t hg h0
  exact ⟨pim_one hm rfl (.anyi m), cs, t, _, e1, by rw [e2, hz]; rfl⟩
theorem glob_ifc {P : Program} {W : World} {l : List (String × DataW Unit)} {n nm : String} {d : DataW Unit} {g : Nat} {t : TypeId} (hm : (n, .iface nm d) ∈ l) (hg : P.globalNamed n = some g) (hty : (P.globals[g]?).map (·.type) = some t)
    (ht : (match P.underlying t with | some (.interface _) => true | _ => false) = true) (h : laidMet P l W) : DV W (· < W.heap.size) (.pointer (some ⟨g, 0, none⟩)) (.pim [.ifc true]) ∧ Exact W g [PV.ifc true].length := by
  obtain ⟨ps, hl, _⟩ := h
  obtain ⟨g', t', cs, fuel, p, h1, h2, h3, h4⟩ := laid_at hm hl
  obtain rfl := Option.some.inj (hg.symm.trans h1)
  obtain rfl := Option.some.inj (hty.symm.trans h2)
  have ⟨ms, hms⟩ : ∃ ms, P.underlying t = some (.interface ms) := by
    cases hu : P.underlying t with
    | none => rw [hu] at ht; cases ht
    | some x =>
      rw [hu] at ht
      cases x
      case interface ms => exact ⟨ms, rfl⟩
      all_goals cases ht
  obtain ⟨f, u, v, hv, _, _⟩ := iface_of_trod hms h4
  have hc : W.cell? ⟨g, 0, none⟩ = some (.iface u v) := by
    rw [World.var?_cell hg h3]
    rw [← Array.getElem?_toList, hv]
    rfl
  exact ⟨pim_one hc rfl (.iface u v), exact_of_var hg h3 (by rw [← Array.length_toList, hv]; rfl)⟩
end Go.PW
