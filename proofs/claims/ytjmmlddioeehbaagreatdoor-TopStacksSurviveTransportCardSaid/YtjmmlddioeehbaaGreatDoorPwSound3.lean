/-
  PwSound3: operations that look at the memory.
-/
import Derived.Test.YtjmmlddioeehbaaGreatDoorPwSound2
namespace Go.PW
open Go.RowKit
section
variable {P : Program} {o : Oper} {a : Act} {Q : Exit → Act → World → Prop} {w0 : Base} {C : Ctx}
variable {N : Nat} {slots : List (Nat × PV)} {Γ : List (Nat × Fact P)} {xs : List PV} {r : PV} {up : List (Nat × Ent)}
theorem RV.pim_inv {v : Value} {cs : List PV} (h : RV C v (.pim cs)) : ∃ (ad : Addr) (f : Nat → Value), v = .pointer (some ad) ∧ imm C.mem C.hd C.I0 ad.block ∧ ad.block < C.w.heap.size ∧ (∀ p ∈ cs, p.one = true) ∧
    (∀ (j : Nat) (p : PV), cs[j]? = some p → C.w.cell? (ad.add j) = some (f j)) ∧ ∀ (j : Nat) (p : PV), cs[j]? = some p → DV C.w (imm C.mem C.hd C.I0) (f j) p := by
  cases h with | data _ _ h => cases h with | pim ad _ f h1 h2 h3 h4 h5 => exact ⟨ad, f, rfl, h1, h2, h3, h4, h5⟩
theorem RV.list_inv {v : Value} {sz : Nat} {es : List (List PV)} (h : RV C v (.list sz es)) : DV C.w (imm C.mem C.hd C.I0) v (.list sz es) := by
  cases h with | data _ _ h => exact h
theorem RV.own_inv {v : Value} {nm ver : Nat} (h : RV C v (.own nm ver)) : usable C.mem C.gen nm ver ∧ v.oneCell' = true ∧ ∀ e, live C.mem nm ver = some e → v = C.hd nm := by
  cases h with
  | data _ _ h => cases h
  | own _ _ _ h1 hu h => exact ⟨hu, h1, h⟩
theorem RV.sub_inv {v : Value} {nm ver lo hi : Nat} (h : RV C v (.sub nm ver lo hi)) : usable C.mem C.gen nm ver ∧ v.oneCell' = true ∧ ∀ e, live C.mem nm ver = some e → subHdr (C.hd nm) e.sz e.es.length lo hi v := by
  cases h with
  | data _ _ h => cases h
  | sub _ _ _ _ _ h1 hu h => exact ⟨hu, h1, h⟩
theorem RV.pown_inv {v : Value} {nm ver i j : Nat} (h : RV C v (.pown nm ver i j)) : usable C.mem C.gen nm ver ∧ v.oneCell' = true ∧ ∀ e, live C.mem nm ver = some e → pownHdr (C.hd nm) e.sz i j v := by
  cases h with
  | data _ _ h => cases h
  | pown _ _ _ _ _ h1 hu h => exact ⟨hu, h1, h⟩
theorem pown_addr {v : Value} {nm ver i j : Nat} {e : Ent} (h : RV C v (.pown nm ver i j)) (hl : live C.mem nm ver = some e) (hb : ¬ (i = BX ∧ j = BX)) :
    ∃ ad n c, C.hd nm = .slice (some ad) n c ∧ v = .pointer (some (ad.add (i * e.sz + j))) := by
  have := h.pown_inv.2.2 e hl
  unfold pownHdr at this
  split at this
  · rename_i ad n c hh
    rw [if_neg hb] at this
    exact ⟨ad, n, c, hh, this⟩
  · exact this.elim
theorem not_bx {i j n : Nat} (h : i < n) (hn : n ≤ big) : ¬ (i = BX ∧ j = BX) := fun q => by
  have := q.1
  unfold BX at this; unfold big at hn; omega
theorem not_bx2 {i j : Nat} (h : Nat.blt j BX = true) : ¬ (i = BX ∧ j = BX) := fun q => by
  rw [q.2] at h
  revert h; decide
theorem not_bx3 {i j : Nat} (h : j < BX) : ¬ (i = BX ∧ j = BX) := fun q => by omega
theorem blt_add {j k : Nat} (h : Nat.blt (j + k) BX = true) : Nat.blt j BX = true := by
  rw [Nat.blt_eq] at h ⊢; omega
theorem pown_mk {nm ver i j : Nat} {e : Ent} {ad : Addr} {n c : Nat} (hu : usable C.mem C.gen nm ver) (hl : live C.mem nm ver = some e) (hh : C.hd nm = .slice (some ad) n c) (hb : ¬ (i = BX ∧ j = BX)) :
    RV C (.pointer (some (ad.add (i * e.sz + j)))) (.pown nm ver i j) := by
  refine .pown nm ver i j _ rfl hu fun e' he' => ?_
  rw [hl] at he'; injection he' with he'; subst he'
  simp only [pownHdr, hh, if_neg hb]
theorem compIdx_slice {t : TypeId} {n : Nat} (h : compIdx P t = some (none, n)) : ∃ e, P.underlying t = some (.slice e) ∧ sizeT P e = some n := by
  unfold compIdx at h
  split at h
  · rename_i e hu
    simp only [Option.map_eq_some_iff, Prod.mk.injEq, true_and] at h
    obtain ⟨n', h1, rfl⟩ := h
    exact ⟨e, hu, h1⟩
  · split at h
    · cases h
    · simp at h
  · cases h
theorem compIdx_array {t : TypeId} {l n : Nat} (h : compIdx P t = some (some l, n)) : ∃ e, P.underlying t = some (.array l e) ∧ sizeT P e = some n ∧ 1 < l := by
  unfold compIdx at h
  split at h
  · simp at h
  · rename_i l' e hu
    split at h
    · cases h
    · rename_i hl
      simp only [Option.map_eq_some_iff, Prod.mk.injEq, Option.some.injEq] at h
      obtain ⟨n', h1, h2, rfl⟩ := h
      subst h2
      exact ⟨e, hu, h1, by omega⟩
  · cases h
theorem live_of_isSome {nm ver : Nat} (h : (liveF (look C.mem) nm ver).isSome = true) : ∃ e, live C.mem nm ver = some e := by
  obtain ⟨e, he⟩ := Option.isSome_iff_exists.1 h
  exact ⟨e, he⟩
theorem sound_nilCheck {x : Operand} {l : LX} (hs : SlotsOk C N slots a) (M : MemInv w0 C) (ho : o.op = .nilCheck x)
    (hx : compX x = some l) (ha : lxs slots [l] = some xs) (hact : (LOp.nilCheck l).act Γ o.dst C.gen xs (look C.mem) = some (r, up)) : Goal P o a Q w0 C r up := by
  obtain ⟨p, rfl, hp⟩ := lxs_1 ha
  have hr := x_sound M hs hx hp
  have hrun : ∀ ad, a.eval x = .pointer (some ad) → (execOp a.eval o).run P C.w = .ok (.value (a.eval x)) C.w := by intro ad had; simp [execOp, ho, had]
  cases p <;> simp [LOp.act] at hact
  · obtain ⟨rfl, rfl⟩ := hact
    obtain ⟨ad, f, e1, _⟩ := hr.pim_inv
    exact Goal.pure M (hrun ad e1) hr
  · obtain ⟨⟨hl, hbx⟩, rfl, rfl⟩ := hact
    obtain ⟨e, he⟩ := live_of_isSome hl
    obtain ⟨ad, n, c, h1, h2⟩ := pown_addr hr he (not_bx3 hbx)
    exact Goal.pure M (hrun _ h2) hr
theorem sound_fieldAddr {t : TypeId} {x : Operand} {i off n : Nat} {ag : Bool} {l : LX} (hs : SlotsOk C N slots a) (M : MemInv w0 C) (ho : o.op = .fieldAddr t x i) (hf : compField P t i = some (off, n, ag)) (hn : 0 < n)
    (hx : compX x = some l) (ha : lxs slots [l] = some xs) (hact : (LOp.fieldAddr off l).act Γ o.dst C.gen xs (look C.mem) = some (r, up)) : Goal P o a Q w0 C r up := by
  obtain ⟨p, rfl, hp⟩ := lxs_1 ha
  have hr := x_sound M hs hx hp
  obtain ⟨fs, f, hu, hfi, hoff, hsz, hag⟩ := compField_some hf
  have hrun : ∀ ad, a.eval x = .pointer (some ad) → (execOp a.eval o).run P C.w = .ok (.value (.pointer (some (ad.add off)))) C.w := by
    intro ad had
    simp [execOp, ho, had, Instr.fieldAt, run_underlying hu, hfi, Instr.sureAddr, fieldPlace, sizeT_run hsz, Nat.pos_iff_ne_zero.1 hn, hoff]
  cases p <;> simp [LOp.act] at hact
  · obtain ⟨rfl, rfl⟩ := hact
    rename_i cs
    obtain ⟨ad, f, e1, h1, h2, h3, h4, h5⟩ := hr.pim_inv
    refine Goal.pure M (hrun ad e1) (.data _ _ (.pim (ad.add off) (cs.drop off) (fun j => f (off + j)) (by rw [block_add]; exact h1) (by rw [block_add]; exact h2) (fun p hp => h3 p (List.mem_of_mem_drop hp)) ?_ ?_))
    · intro j p hj
      rw [List.getElem?_drop] at hj
      rw [add_add]; exact h4 _ p hj
    · intro j p hj
      rw [List.getElem?_drop] at hj
      exact h5 _ p hj
  · obtain ⟨⟨hl, hbx⟩, rfl, rfl⟩ := hact
    rename_i nm ver i' j
    obtain ⟨e, he⟩ := live_of_isSome hl
    obtain ⟨ad, n, c, h1, h2⟩ := pown_addr hr he (not_bx3 (by omega))
    refine Goal.pure M (hrun _ h2) ?_
    rw [add_add, Nat.add_assoc]
    exact pown_mk hr.pown_inv.1 he h1 (not_bx3 hbx)
theorem sound_idxA {t : TypeId} {x i : Operand} {n0 n : Nat} {l m : LX} (hs : SlotsOk C N slots a) (M : MemInv w0 C) (ho : o.op = .indexAddr t x i) (hc : compIdx P t = some (some n0, n))
    (hx : compX x = some l) (hi : compX i = some m) (ha : lxs slots [l, m] = some xs) (hact : (LOp.idxA n0 n l m).act Γ o.dst C.gen xs (look C.mem) = some (r, up)) : Goal P o a Q w0 C r up := by
  obtain ⟨p, q, rfl, hp, hq⟩ := lxs_2 ha
  have h1 := x_sound M hs hx hp
  have h2 := x_sound M hs hi hq
  obtain ⟨e, hu, hsz, hl1⟩ := compIdx_array hc
  have hrun : ∀ ad k z, a.eval x = .pointer (some ad) → a.eval i = .int k z → 0 ≤ z → z.toNat < n0 → (execOp a.eval o).run P C.w = .ok (.value (.pointer (some (ad.add (z.toNat * n))))) C.w := by
    intro ad k z had hz h0 hlt
    have h3 : 0 ≤ z ∧ z < (n0 : Int) := ⟨h0, by omega⟩
    simp [execOp, ho, had, hz, Instr.indexAt, asIntOf, run_underlying hu, Instr.sureAddr, h3, sizeT_run hsz]
  cases p <;> (try simp only [reduceCtorEq, LOp.act] at hact)
  · cases q <;> (try simp only [reduceCtorEq] at hact)
    rename_i cs k z
    split at hact
    case isFalse => cases hact
    case isTrue h0 =>
    simp at hact
    obtain ⟨rfl, rfl⟩ := hact
    obtain ⟨ad, f, e1, g1, g2, g3, g4, g5⟩ := h1.pim_inv
    refine Goal.pure M (hrun ad k z e1 h2.int_inv h0.1 h0.2) (.data _ _ (.pim (ad.add (z.toNat * n)) _ (fun j => f (z.toNat * n + j)) (by rw [block_add]; exact g1) (by rw [block_add]; exact g2) (fun p hp => g3 p (List.mem_of_mem_drop hp)) ?_ ?_))
    · intro j p hj
      rw [List.getElem?_drop] at hj
      rw [add_add]; exact g4 _ p hj
    · intro j p hj
      rw [List.getElem?_drop] at hj
      exact g5 _ p hj
  · cases q <;> (try simp only [reduceCtorEq] at hact)
    rename_i nm ver i' j k z
    split at hact
    case isFalse => cases hact
    case isTrue h0 =>
    simp at hact
    obtain ⟨rfl, rfl⟩ := hact
    obtain ⟨e, he⟩ := live_of_isSome h0.2.2.1
    obtain ⟨ad, n', c, g1, g2⟩ := pown_addr h1 he (not_bx2 (blt_add h0.2.2.2))
    refine Goal.pure M (hrun _ k z g2 h2.int_inv h0.1 h0.2.1) ?_
    rw [add_add, Nat.add_assoc]
    exact pown_mk h1.pown_inv.1 he g1 (not_bx2 h0.2.2.2)
theorem row_hdr {nm ver : Nat} {e : Ent} (M : MemInv w0 C) (he : live C.mem nm ver = some e) (h0 : 0 < e.es.length) :
    ∃ g cap, C.hd nm = .slice (some ⟨g, 0, none⟩) e.es.length cap ∧ e.es.length ≤ cap := by
  obtain ⟨xs, ho, _⟩ := M.rows nm ver e he
  rcases ho.2 with ⟨_, h⟩ | ⟨g, cap, cur, hv, _, _, hc, _⟩
  · omega
  · exact ⟨g, cap, hv, hc⟩
theorem sound_idx {t : TypeId} {x i : Operand} {n : Nat} {l m : LX} (hs : SlotsOk C N slots a) (M : MemInv w0 C) (ho : o.op = .indexAddr t x i) (hc : compIdx P t = some (none, n))
    (hx : compX x = some l) (hi : compX i = some m) (ha : lxs slots [l, m] = some xs) (hact : (LOp.idx n l m).act Γ o.dst C.gen xs (look C.mem) = some (r, up)) : Goal P o a Q w0 C r up := by
  obtain ⟨p, q, rfl, hp, hq⟩ := lxs_2 ha
  have h1 := x_sound M hs hx hp
  have h2 := x_sound M hs hi hq
  obtain ⟨e, hu, hsz⟩ := compIdx_slice hc
  have hrun : ∀ (ad : Addr) (len c : Nat) k (z : Int), a.eval x = .slice (some ad) len c → a.eval i = .int k z → 0 ≤ z → z.toNat < len → (execOp a.eval o).run P C.w = .ok (.value (.pointer (some (ad.add (z.toNat * n))))) C.w := by
    intro ad len c k z had hz h0 hlt
    have h3 : 0 ≤ z ∧ z < (len : Int) := ⟨h0, by omega⟩
    simp [execOp, ho, had, hz, Instr.indexAt, asIntOf, run_underlying hu, h3, sizeT_run hsz]
  cases p <;> (try simp only [reduceCtorEq, LOp.act] at hact)
  · cases q <;> (try simp only [reduceCtorEq] at hact)
    rename_i sz' es k z
    split at hact
    case isFalse => cases hact
    case isTrue h0 =>
    obtain ⟨hz0, rfl⟩ := h0
    split at hact
    case h_2 => cases hact
    rename_i cs hcs
    simp at hact
    obtain ⟨rfl, rfl⟩ := hact
    have hd := h1.list_inv
    generalize hv : a.eval x = v at hd
    cases hd with
    | list0 => simp at hcs
    | list ad c _ _ f hc hb hI hlt hsz' hcell hval =>
      have hlen := (List.getElem?_eq_some_iff.1 hcs).1
      refine Goal.pure M (hrun ad _ c k z hv h2.int_inv hz0 hlen) (.data _ _ (.pim _ cs (f z.toNat) (by rw [block_add]; exact hI) (by rw [block_add]; exact hlt) (hsz' _ _ hcs).2 ?_ ?_))
      · intro j p hj
        rw [add_add]; exact hcell _ _ j p hcs hj
      · intro j p hj
        exact hval _ _ j p hcs hj
  · cases q <;> (try simp only [reduceCtorEq] at hact)
    rename_i nm ver k z
    split at hact
    case h_2 => cases hact
    rename_i e' he
    split at hact
    case isFalse => cases hact
    case isTrue h0 =>
    simp at hact
    obtain ⟨rfl, rfl⟩ := hact
    obtain ⟨hz0, hlt, rfl⟩ := h0
    obtain ⟨g, cap, hh, _⟩ := row_hdr M he (by omega)
    have hv := (h1.own_inv).2.2 e' he
    rw [hh] at hv
    refine Goal.pure M (hrun _ _ cap k z hv h2.int_inv hz0 hlt) ?_
    have := pown_mk (i := z.toNat) (j := 0) h1.own_inv.1 he hh (not_bx2 (by decide))
    rwa [Nat.add_zero] at this
  · cases q <;> (try simp only [reduceCtorEq] at hact)
    rename_i nm ver lo hi' k z
    split at hact
    case h_2 => cases hact
    rename_i e' he
    split at hact
    case isFalse => cases hact
    case isTrue h0 =>
    simp at hact
    obtain ⟨rfl, rfl⟩ := hact
    obtain ⟨hz0, hlt, rfl⟩ := h0
    have hv := (h1.sub_inv).2.2 e' he
    have h0 : 0 < e'.es.length ∧ hi' ≤ e'.es.length := by
      unfold subHdr at hv
      split at hv
      · omega
      · exact hv.elim
    obtain ⟨g, cap, hh, hcap⟩ := row_hdr M he h0.1
    simp only [subHdr, hh] at hv
    obtain ⟨-, -, hv⟩ := hv
    rw [if_neg (by omega)] at hv
    refine Goal.pure M (hrun _ _ _ k z hv h2.int_inv hz0 (by omega)) ?_
    have := pown_mk (i := lo + z.toNat) (j := 0) h1.sub_inv.1 he hh (not_bx2 (by decide))
    rw [add_add]
    rwa [Nat.add_zero, Nat.add_mul] at this
end
end Go.PW
