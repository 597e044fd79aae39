/-
  PwSound5: store, alloc, box.
-/
import Derived.Test.YtjmmlddioeehbaaGreatDoorPwSound4
namespace Go.PW
open Go.RowKit
theorem spl_get {α : Type} (l vs : List α) (o k : Nat) (h : o + vs.length ≤ l.length) :
    (l.take o ++ vs ++ l.drop (o + vs.length))[k]? = if k < o then l[k]? else if k < o + vs.length then vs[k - o]? else l[k]? := by
  have hto : (l.take o).length = o := by simp; omega
  by_cases h1 : k < o
  · rw [if_pos h1, List.append_assoc, List.getElem?_append_left (by omega), List.getElem?_take, if_pos h1]
  · rw [if_neg h1]
    by_cases h2 : k < o + vs.length
    · rw [if_pos h2, List.append_assoc, List.getElem?_append_right (by omega), hto, List.getElem?_append_left (by omega)]
    · rw [if_neg h2, List.getElem?_append_right (by simp; omega), List.getElem?_drop]
      congr 1
      simp; omega
theorem splice_get (l vs : List PV) (o k : Nat) (h : o + vs.length ≤ l.length) :
    (splice l o vs)[k]? = if k < o then l[k]? else if k < o + vs.length then vs[k - o]? else l[k]? := spl_get l vs o k h
theorem splice_length (l vs : List PV) (o : Nat) (h : o + vs.length ≤ l.length) : (splice l o vs).length = l.length := by
  simp [splice]; omega
theorem cells_one {v : Value} (h : v.oneCell' = true) : v.cells = #[v] := by cases v <;> first | rfl | simp [Value.oneCell'] at h
section
variable {P : Program} {o : Oper} {a : Act} {Q : Exit → Act → World → Prop} {w0 : Base} {C : Ctx}
variable {N : Nat} {slots : List (Nat × PV)} {Γ : List (Nat × Fact P)} {xs : List PV} {r : PV} {up : List (Nat × Ent)}
theorem val_cells {v : Value} {p : PV} (h : RV C v p) (hp : ∀ q ∈ p.cells, q.one = true) :
    ∃ l : List Value, v.cells = l.toArray ∧ l.length = p.cells.length ∧ (∀ (j : Nat) (u : Value) (q : PV), l[j]? = some u → p.cells[j]? = some q → RV C u q) ∧ ∀ u ∈ l, u.oneCell' = true := by
  have single : p.cells = [p] → p.one = true → ∃ l : List Value, v.cells = l.toArray ∧ l.length = p.cells.length ∧ (∀ (j : Nat) (u : Value) (q : PV), l[j]? = some u → p.cells[j]? = some q → RV C u q) ∧ ∀ u ∈ l, u.oneCell' = true := by
    intro hc h1
    have hv := h.oneCell h1
    refine ⟨[v], by rw [cells_one hv], by rw [hc]; rfl, fun j u q hj hq => ?_, by simpa using hv⟩
    rw [hc] at hq
    match j with
    | 0 => simp at hj hq; subst hj hq; exact h
    | j + 1 => simp at hj
  cases p with
  | agg cs =>
    obtain ⟨vs, rfl, hl, ho, hv⟩ := h.agg_inv
    refine ⟨vs.toList, by simp [Value.cells], by simpa [PV.cells] using hl, fun j u q hj hq => hv j u q (by simpa using hj) hq, fun u hu => ?_⟩
    obtain ⟨j, hj⟩ := List.getElem?_of_mem hu
    have hj' : vs[j]? = some u := by simpa using hj
    have hlt : j < cs.length := by have := (Array.getElem?_eq_some_iff.1 hj').1; omega
    exact (hv j u cs[j] hj' (List.getElem?_eq_getElem hlt)).oneCell (ho _ (List.getElem_mem hlt))
  | _ => exact single rfl (hp _ (by simp [PV.cells]))
theorem add0 (g k : Nat) : (⟨g, 0, none⟩ : Addr).add k = ⟨g, k, none⟩ := by
  unfold Addr.add; split
  · rename_i h; subst h; rfl
  · simp
theorem ne_index {i i' j j' sz : Nat} (hj : j < sz) (hj' : j' < sz) (h : i ≠ i') : i * sz + j ≠ i' * sz + j' := by
  intro e
  rcases Nat.lt_or_gt_of_ne h with hl | hl
  · have : (i + 1) * sz ≤ i' * sz := Nat.mul_le_mul_right _ hl
    rw [Nat.add_mul] at this; omega
  · have : (i' + 1) * sz ≤ i * sz := Nat.mul_le_mul_right _ hl
    rw [Nat.add_mul] at this; omega
theorem index_lt {i j n sz : Nat} (hi : i < n) (hj : j ≤ sz) : i * sz + j ≤ n * sz := by
  have : (i + 1) * sz ≤ n * sz := Nat.mul_le_mul_right _ hi
  rw [Nat.add_mul] at this; omega
theorem sound_store {t : TypeId} {x v : Operand} {n : Nat} {l m : LX} (hs : SlotsOk C N slots a) (M : MemInv w0 C) (ho : o.op = .store t x v) (hsz : sizeT P t = some n)
    (hx : compX x = some l) (hv : compX v = some m) (ha : lxs slots [l, m] = some xs) (hact : (LOp.store n l m).act Γ o.dst C.gen xs (look C.mem) = some (r, up)) : Goal P o a Q w0 C r up := by
  obtain ⟨p, q, rfl, hp, hq⟩ := lxs_2 ha
  have h1 := x_sound M hs hx hp
  have h2 := x_sound M hs hv hq
  cases p <;> (try simp only [reduceCtorEq, LOp.act] at hact)
  rename_i nm ver i j
  split at hact
  case h_2 => cases hact
  rename_i e he
  split at hact
  case h_2 => cases hact
  rename_i cs hcs
  split at hact
  case isFalse => cases hact
  case isTrue hc =>
  obtain ⟨hn, hfit, hone⟩ := hc
  simp at hact
  obtain ⟨rfl, rfl⟩ := hact
  rw [List.all_eq_true] at hone
  obtain ⟨vl, hvc, hvl, hvr, hvo⟩ := val_cells h2 hone
  obtain ⟨ys, hown, hbig, hrows⟩ := M.rows nm ver e he
  obtain ⟨c1, c2, c3⟩ := hrows i cs hcs
  have hilt := (List.getElem?_eq_some_iff.1 hcs).1
  rcases hown.2 with ⟨_, h0⟩ | ⟨g, cap, cur, hh, hg, hheap, hnc, hcm, hcs', htake⟩
  · omega
  obtain ⟨ad, n', c', e1, e2⟩ := pown_addr h1 he (not_bx hilt hbig)
  rw [hh] at e1; injection e1 with e1; injection e1 with e1; subst e1
  rw [add0] at e2
  have hle : i * e.sz + j + vl.length ≤ e.es.length * e.sz := by
    have := index_lt (j := j + vl.length) hilt (show j + vl.length ≤ e.sz by omega)
    omega
  have hle2 : e.es.length * e.sz ≤ cap * e.sz := Nat.mul_le_mul_right _ hnc
  have hst := run_storeCells_at P g (i * e.sz + j) e.elem vl 0 cur C.w hheap (by omega) hvo
  simp only [Nat.add_zero] at hst
  -- the world behind the store
  generalize hw' : C.w.setRow g (cur.toList.take (i * e.sz + j) ++ vl ++ cur.toList.drop (i * e.sz + j + vl.length)).toArray = w' at hst
  have hheap' : w'.heap[g]? = some (.cells (cur.toList.take (i * e.sz + j) ++ vl ++ cur.toList.drop (i * e.sz + j + vl.length)).toArray e.elem (0, 0)) := by
    rw [← hw']; exact setRow_heap C.w g cur _ e.elem _ hheap
  have hgrown : C.w.grownBy w' (C.hd nm).ownBlock := by
    rw [← hw', hh]
    exact ⟨rfl, rfl, rfl, by simp, fun k _ hk => setRow_other C.w g k _ (fun e => hk (by simp [Value.ownBlock, e]))⟩
  have hcurlen : cur.toList.length = cap * e.sz := by simpa using hcs'
  have hyl : ys.length = e.es.length * e.sz := hown.1
  have hys : ∀ k, k < e.es.length * e.sz → ys[k]? = cur.toList[k]? := by
    intro k hk
    rw [← htake, List.getElem?_take, if_pos hk]
  have hnew : ∀ k, k < e.es.length * e.sz → (ys.take (i * e.sz + j) ++ vl ++ ys.drop (i * e.sz + j + vl.length))[k]? = if k < i * e.sz + j then ys[k]? else if k < i * e.sz + j + vl.length then vl[k - (i * e.sz + j)]? else ys[k]? :=
    fun k _ => spl_get ys vl _ k (by omega)
  have hown' : w'.ownsRow w0.B e.elem e.sz (C.hd nm) (e.es.set i (splice cs j q.cells)).length (ys.take (i * e.sz + j) ++ vl ++ ys.drop (i * e.sz + j + vl.length)) := by
    rw [List.length_set]
    refine ⟨by simp; omega, .inr ⟨g, cap, _, hh, hg, hheap', hnc, hcm, by simp; omega, ?_⟩⟩
    apply List.ext_getElem?
    intro k
    rw [List.getElem?_take]
    by_cases hk : k < e.es.length * e.sz
    · rw [if_pos hk, hnew k hk, hys k hk]
      exact spl_get cur.toList vl _ k (by omega)
    · rw [if_neg hk, List.getElem?_eq_none (by simp; omega)]
  have hT := M.turn_row (nm := nm) (ver := ver) (e := e) (e' := { e with es := e.es.set i (splice cs j q.cells), data := e.data && q.cells.all PV.isD }) (w' := w')
    (xs := ys.take (i * e.sz + j) ++ vl ++ ys.drop (i * e.sz + j + vl.length)) he rfl rfl (by simp) rfl hgrown hown' (by simpa using hbig) (fun i' cs' hi' => by
      dsimp only at hi' ⊢
      rw [List.getElem?_set] at hi'
      have hsl : j + q.cells.length ≤ cs.length := by omega
      split at hi'
      · rename_i hii
        subst hii
        injection hi' with hi'; subst hi'
        refine ⟨by rw [splice_length _ _ _ hsl]; exact c1, fun p hp => ?_, fun j' p hj' => ?_⟩
        · unfold splice at hp
          rcases List.mem_append.1 hp with hp | hp
          · rcases List.mem_append.1 hp with hp | hp
            · exact c2 p (List.mem_of_mem_take hp)
            · exact hone p hp
          · exact c2 p (List.mem_of_mem_drop hp)
        · have hjlt := (List.getElem?_eq_some_iff.1 hj').1
          rw [splice_length _ _ _ hsl, c1] at hjlt
          rw [splice_get _ _ _ _ hsl] at hj'
          have hk := index_lt (j := j' + 1) hilt (show j' + 1 ≤ e.sz by omega)
          rw [hnew _ (by omega)]
          by_cases h3 : j' < j
          · rw [if_pos h3] at hj'
            obtain ⟨u, k1, k2, k3⟩ := c3 j' p hj'
            exact ⟨u, by rw [if_pos (by omega)]; exact k1, k2, fun hd => k3 (by simp at hd; exact hd.1)⟩
          · rw [if_neg h3] at hj'
            by_cases h4 : j' < j + q.cells.length
            · rw [if_pos h4] at hj'
              have h5 : j' - j < vl.length := by omega
              refine ⟨vl[j' - j], ?_, ?_, ?_⟩
              · rw [if_neg (by omega), if_pos (by omega), show i * e.sz + j' - (i * e.sz + j) = j' - j by omega]
                exact List.getElem?_eq_getElem h5
              · exact hvr _ _ p (List.getElem?_eq_getElem h5) hj'
              · intro hd
                simp at hd
                exact (hvr _ _ p (List.getElem?_eq_getElem h5) hj').isD (hd.2 p (List.mem_of_getElem? hj'))
            · rw [if_neg h4] at hj'
              obtain ⟨u, k1, k2, k3⟩ := c3 j' p hj'
              exact ⟨u, by rw [if_neg (by omega), if_neg (by omega)]; exact k1, k2, fun hd => k3 (by simp at hd; exact hd.1)⟩
      · rename_i hii
        obtain ⟨d1, d2, d3⟩ := hrows i' cs' hi'
        have hi'lt := (List.getElem?_eq_some_iff.1 hi').1
        refine ⟨d1, d2, fun j' p hj' => ?_⟩
        obtain ⟨u, k1, k2, k3⟩ := d3 j' p hj'
        have hjlt := (List.getElem?_eq_some_iff.1 hj').1
        have hk := index_lt (j := j' + 1) hi'lt (show j' + 1 ≤ e.sz by omega)
        refine ⟨u, ?_, k2, fun hd => k3 (by simp at hd; exact hd.1)⟩
        rw [hnew _ (by omega)]
        by_cases h3 : i' * e.sz + j' < i * e.sz + j
        · rw [if_pos h3]; exact k1
        · rw [if_neg h3]
          rw [if_neg ?_]
          · exact k1
          · intro h4
            have hx4 : i' * e.sz + j' < i * e.sz + j + vl.length := h4
            have hx3 : ¬ (i' * e.sz + j' < i * e.sz + j) := h3
            have hx5 : j + vl.length ≤ e.sz := by omega
            have : ∃ d, d < e.sz ∧ i' * e.sz + j' = i * e.sz + d := ⟨i' * e.sz + j' - i * e.sz, by omega, by omega⟩
            obtain ⟨d, hd1, hd2⟩ := this
            exact ne_index (show j' < e.sz by omega) hd1 (Ne.symm hii) hd2)
  intro K hK
  have hrun : (execOp a.eval o).run P C.w = .ok .skip w' := by
    simp only [execOp, ho, e2, Instr.storeAt, Instr.sureAddr, storeVar, hvc, Sem.run_bind, Sem.run_pure, Result.andThen_ok, sizeT_run hsz]
    have : ¬ (vl.toArray.size ≠ n) := by simp; omega
    simp only [if_neg this, hst, Result.andThen_ok]
  unfold Oper.wp
  rw [hrun]
  exact hK undef w' C.hd hT.1 hT.2 (.data _ _ (.tup #[] [] rfl (by simp)))
theorem Below.alloc' (w : World) (ob : Obj) : Below w.heap.size w (w.alloc ob) := (Below.refl _ _).alloc (Nat.le_refl _) ob
theorem new_box {d elem n : Nat} {cs : List PV} {l : List Value} (M : MemInv w0 C) (_ : o.dst = some d) (hf : freshF (look C.mem) d = true) (hn : cs.length = n) (hl : l.length = cs.length) (hone : ∀ p ∈ cs, p.one = true)
    (hv : ∀ (j : Nat) (u : Value) (q : PV), l[j]? = some u → cs[j]? = some q → RV C u q)
    (hrun : (execOp a.eval o).run P C.w = .ok (.value (.pointer (some ⟨C.w.heap.size, 0, none⟩))) (C.w.alloc (.cells l.toArray elem))) (hbig : 1 ≤ maxLen) :
    Goal P o a Q w0 C (.pown d C.gen 0 0) [(d, { ver := C.gen, elem, sz := n, es := [cs], data := cs.all PV.isD, new := true, dead := false })] := by
  have hlt : ∀ (j : Nat) (p : PV), cs[j]? = some p → ∃ u, l[j]? = some u := by
    intro j p hj
    have := (List.getElem?_eq_some_iff.1 hj).1
    exact ⟨_, List.getElem?_eq_getElem (show j < l.length by omega)⟩
  have hown : (C.w.alloc (.cells l.toArray elem)).ownsRow w0.B elem n (.slice (some ⟨C.w.heap.size, 0, none⟩) 1 1) 1 l :=
    ⟨by omega, .inr ⟨C.w.heap.size, 1, l.toArray, rfl, (Nat.le_trans w0.hB M.below.size), heap_alloc_new C.w _, Nat.le_refl _, hbig, by simp; omega, List.take_of_length_le (by simp; omega)⟩⟩
  have hN := M.new_row (d := d) (ent := { ver := C.gen, elem, sz := n, es := [cs], data := cs.all PV.isD, new := true, dead := false }) hf rfl rfl (Below.alloc' C.w _) hown (by simp [big])
    (fun b hb => by simp [Value.ownBlock] at hb; omega) (fun i cs' hi => by
      match i with
      | 0 =>
        simp at hi; subst hi
        refine ⟨hn, hone, fun j p hj => ?_⟩
        obtain ⟨u, hu⟩ := hlt j p hj
        refine ⟨u, by simpa using hu, .inl ⟨hv j u p hu hj, fun hd => ?_⟩⟩
        dsimp only at hd
        rw [List.all_eq_true] at hd
        exact (hv j u p hu hj).isD (hd p (List.mem_of_getElem? hj))
      | i + 1 => simp at hi)
  intro K hK
  unfold Oper.wp
  rw [hrun]
  refine hK _ _ _ hN.1 hN.2 ?_
  have := pown_mk (C := { C with w := C.w.alloc (.cells l.toArray elem), mem := (d, { ver := C.gen, elem, sz := n, es := [cs], data := cs.all PV.isD, new := true, dead := false }) :: C.mem, hd := upd C.hd d (.slice (some ⟨C.w.heap.size, 0, none⟩) 1 1) })
    (nm := d) (ver := C.gen) (i := 0) (j := 0) (e := { ver := C.gen, elem, sz := n, es := [cs], data := cs.all PV.isD, new := true, dead := false }) (ad := ⟨C.w.heap.size, 0, none⟩) (n := 1) (c := 1)
    (.inr ⟨rfl, _, look_same _ _ _, rfl⟩) (live_some.2 ⟨look_same _ _ _, rfl, rfl⟩) (upd_same _ _ _) (not_bx2 (by decide))
  simpa [Addr.add] using this
theorem zeroT_some {t : TypeId} {z : List PV} (h : zeroT P t = some z) : ∃ i zv, P.info? t = some i ∧ i.zero = some zv ∧ compCells zv.cells.toList = some z := by
  unfold zeroT at h
  split at h
  · rename_i i hi
    split at h
    · rename_i zv hz
      exact ⟨i, zv, hi, hz, h⟩
    · cases h
  · cases h
theorem new_bx {d elem : Nat} {l : List Value} (M : MemInv w0 C) (_ : o.dst = some d) (hf : freshF (look C.mem) d = true) (hl : l.length = 2)
    (hv : ∀ (j : Nat) (u : Value) (q : PV), l[j]? = some u → [PV.pnil, PV.nils][j]? = some q → DV C.w (imm C.mem C.hd C.I0) u q)
    (hrun : (execOp a.eval o).run P C.w = .ok (.value (.pointer (some ⟨C.w.heap.size, 0, none⟩))) (C.w.alloc (.cells l.toArray elem))) :
    Goal P o a Q w0 C (.pown d C.gen 0 0) [(d, { ver := C.gen, elem, sz := 2, es := [[.pown d C.gen BX BX, .nils]], data := false, new := true, dead := false }), (d, { ver := C.gen, elem, sz := 2, es := [[.pnil, .nils]], data := true, new := true, dead := false })] := by
  obtain ⟨u0, u1, rfl⟩ : ∃ u0 u1, l = [u0, u1] := by
    match l, hl with
    | [u0, u1], _ => exact ⟨u0, u1, rfl⟩
  have h0 := hv 0 u0 _ rfl rfl
  have h1 := hv 1 u1 _ rfl rfl
  have hu0 : u0 = .pointer none := by cases h0; rfl
  have hown : (C.w.alloc (.cells [u0, u1].toArray elem)).ownsRow w0.B elem 2 (.slice (some ⟨C.w.heap.size, 0, none⟩) 1 1) 1 [u0, u1] :=
    ⟨rfl, .inr ⟨C.w.heap.size, 1, [u0, u1].toArray, rfl, (Nat.le_trans w0.hB M.below.size), heap_alloc_new C.w _, Nat.le_refl _, by decide, rfl, rfl⟩⟩
  have hN := M.new_row (d := d) (ent := { ver := C.gen, elem, sz := 2, es := [[.pnil, .nils]], data := true, new := true, dead := false }) hf rfl rfl (Below.alloc' C.w _) hown (by simp [big])
    (fun b hb => by simp [Value.ownBlock] at hb; omega) (fun i cs' hi => by
      match i with
      | 0 =>
        simp at hi; subst hi
        refine ⟨rfl, by simp [PV.one], fun j p hj => ?_⟩
        match j, hj with
        | 0, hj => cases hj; exact ⟨u0, rfl, .inl ⟨.data _ _ h0, fun _ => h0⟩⟩
        | 1, hj => cases hj; exact ⟨u1, rfl, .inl ⟨.data _ _ h1, fun _ => h1⟩⟩
        | j + 2, hj => simp at hj
      | i + 1 => simp at hi)
  have hlv := live_some (mem := (d, { ver := C.gen, elem, sz := 2, es := [[.pnil, .nils]], data := true, new := true, dead := false }) :: C.mem) (nm := d) (ver := C.gen) (e := { ver := C.gen, elem, sz := 2, es := [[.pnil, .nils]], data := true, new := true, dead := false }) |>.2 ⟨look_same _ _ _, rfl, rfl⟩
  have hT := hN.1.turn_row (nm := d) (ver := C.gen) (e' := { ver := C.gen, elem, sz := 2, es := [[.pown d C.gen BX BX, .nils]], data := false, new := true, dead := false }) (w' := C.w.alloc (.cells [u0, u1].toArray elem)) (xs := [u0, u1]) hlv rfl rfl rfl rfl
    ⟨rfl, rfl, rfl, Nat.le_refl _, fun _ _ _ => rfl⟩ (by
      show World.ownsRow _ _ _ _ (upd C.hd d _ d) _ _
      rw [upd_same]; exact hown) (by simp [big]) (fun i cs' hi => by
      match i with
      | 0 =>
        simp at hi; subst hi
        refine ⟨rfl, by simp [PV.one], fun j p hj => ?_⟩
        match j, hj with
        | 0, hj =>
          cases hj
          refine ⟨u0, rfl, .pown _ _ _ _ _ (by rw [hu0]; rfl) (.inr ⟨rfl, _, look_same _ _ _, rfl⟩) fun e he => ?_, fun h => by cases h⟩
          have he' := (live_some.1 he).1
          rw [show look ((d, _) :: C.mem) d = some _ from look_same _ _ _] at he'
          injection he' with he'; subst he'
          show pownHdr (upd C.hd d _ d) _ _ _ _
          rw [upd_same]
          simp only [pownHdr, and_self, if_true, true_and]
          exact .inl hu0
        | 1, hj =>
          cases hj
          exact ⟨u1, rfl, .data _ _ (hN.2.dv h1), fun h => by cases h⟩
        | j + 2, hj => simp at hj
      | i + 1 => simp at hi)
  intro K hK
  unfold Oper.wp
  rw [hrun]
  refine hK _ _ _ hT.1 ⟨Nat.le_trans hN.2.size hT.2.size, fun n v h => hT.2.use_ n v (hN.2.use_ n v h), fun n v e' hu he => ?_, fun b h => hT.2.reach_ b (hN.2.reach_ b h), fun b hb hi => ?_⟩ ?_
  · obtain ⟨e1, k1, k2, k3, k4⟩ := hT.2.live_ n v e' (hN.2.use_ n v hu) he
    obtain ⟨e2, q1, q2, q3, q4⟩ := hN.2.live_ n v e1 hu k1
    exact ⟨e2, q1, q2.trans k2, q3.trans k3, k4.trans q4⟩
  · obtain ⟨k1, k2⟩ := hN.2.free_ b hb hi
    obtain ⟨q1, q2⟩ := hT.2.free_ b (Nat.lt_of_lt_of_le hb hN.2.size) k1
    exact ⟨q1, q2.trans k2⟩
  have := pown_mk (C := { C with w := C.w.alloc (.cells [u0, u1].toArray elem), mem := (d, { ver := C.gen, elem, sz := 2, es := [[.pown d C.gen BX BX, .nils]], data := false, new := true, dead := false }) :: (d, { ver := C.gen, elem, sz := 2, es := [[.pnil, .nils]], data := true, new := true, dead := false }) :: C.mem, hd := upd C.hd d (.slice (some ⟨C.w.heap.size, 0, none⟩) 1 1) })
    (nm := d) (ver := C.gen) (i := 0) (j := 0) (e := { ver := C.gen, elem, sz := 2, es := [[.pown d C.gen BX BX, .nils]], data := false, new := true, dead := false }) (ad := ⟨C.w.heap.size, 0, none⟩) (n := 1) (c := 1)
    (.inr ⟨rfl, _, look_same _ _ _, rfl⟩) (live_some.2 ⟨look_same _ _ _, rfl, rfl⟩) (upd_same _ _ _) (not_bx2 (by decide))
  simpa [Addr.add] using this
theorem bxUp_nil {d g el n : Nat} {z : List PV} (h : z ≠ [.pnil, .nils]) : bxUp d g el n z = [] := by
  unfold bxUp
  split
  · exact absurd rfl h
  · rfl
theorem sound_alloc {t : TypeId} {n : Nat} {z : List PV} (M : MemInv w0 C) (ho : o.op = .alloc t) (hz : zeroT P t = some z)
    (ha : lxs slots [] = some xs) (hact : (LOp.alloc t n z).act Γ o.dst C.gen xs (look C.mem) = some (r, up)) : Goal P o a Q w0 C r up := by
  simp [lxs] at ha; subst ha
  simp only [LOp.act] at hact
  split at hact
  case h_2 => cases hact
  rename_i d hd
  split at hact
  case isFalse => cases hact
  case isTrue hc =>
  simp only [Option.some.injEq, Prod.mk.injEq] at hact
  obtain ⟨rfl, rfl⟩ := hact
  obtain ⟨i, zv, h1, h2, h3⟩ := zeroT_some hz
  obtain ⟨e1, e2, e3⟩ := compCells_sound h3 C.w (imm C.mem C.hd C.I0)
  have hzr : (zeroValue t).run P C.w = .ok zv C.w := by simp [zeroValue, typeInfo, h1, h2]
  have hr : (execOp a.eval o).run P C.w = .ok (.value (.pointer (some ⟨C.w.heap.size, 0, none⟩))) (C.w.alloc (.cells zv.cells.toList.toArray t)) := by
    simp only [execOp, ho, Instr.alloc, Sem.run_bind, hzr, Result.andThen_ok]
    simp [newVar, newRow]
  by_cases hb : z = [.pnil, .nils]
  · subst hb
    have h2n : n = 2 := hc.2.symm
    subst h2n
    exact new_bx M hd hc.1 e1 e3 hr
  · rw [bxUp_nil hb, List.nil_append]
    exact new_box M hd hc.1 hc.2 e1 e2 (fun j u q hj hq => .data _ _ (e3 j u q hj hq)) hr (by decide)
theorem sound_box {t : TypeId} {n : Nat} {x : Operand} {l : LX} (hs : SlotsOk C N slots a) (M : MemInv w0 C) (ho : o.op = .box t x) (hx : compX x = some l)
    (ha : lxs slots [l] = some xs) (hact : (LOp.box t n l).act Γ o.dst C.gen xs (look C.mem) = some (r, up)) : Goal P o a Q w0 C r up := by
  obtain ⟨p, rfl, hp⟩ := lxs_1 ha
  have hr := x_sound M hs hx hp
  simp only [LOp.act] at hact
  split at hact
  case h_2 => cases hact
  rename_i d hd
  split at hact
  case isFalse => cases hact
  case isTrue hc =>
  simp only [Option.some.injEq, Prod.mk.injEq] at hact
  obtain ⟨rfl, rfl⟩ := hact
  obtain ⟨h1, h2, h3⟩ := hc
  rw [List.all_eq_true] at h3
  obtain ⟨vl, hvc, hvl, hvr, hvo⟩ := val_cells hr h3
  refine new_box M hd h1 h2 hvl h3 hvr ?_ (by decide)
  simp [execOp, ho, Instr.box, newVar, newRow, hvc]
end
end Go.PW
