/-
  PwSound7: literal slices, function values, make.
-/
import Derived.Test.YtpcmhhbocifbcaaGreatDoorPwSound6
namespace Go.PW
open Go.RowKit
section
variable {P : Program} {o : Oper} {a : Act} {Q : Exit → Act → World → Prop} {w0 : Base} {C : Ctx}
variable {N : Nat} {slots : List (Nat × PV)} {Γ : List (Nat × Fact P)} {xs : List PV} {r : PV} {up : List (Nat × Ent)}
def RowsPw (C : Ctx) (sz : Nat) (cells : Array Value) (es : List (List PV)) : Prop :=
  cells.size = es.length * sz ∧ ∀ (i : Nat) (cs : List PV), es[i]? = some cs → cs.length = sz ∧ (∀ p ∈ cs, p.one = true) ∧
    ∀ (j : Nat) (p : PV), cs[j]? = some p → ∃ v, cells[i * sz + j]? = some v ∧ RV C v p
theorem RowsPw.put {sz : Nat} {cells : Array Value} {es : List (List PV)} {i : Nat} {p : PV} {vl : List Value} (h : RowsPw C sz cells es) (hi : i < es.length) (hlen : p.cells.length = sz) (hone : ∀ q ∈ p.cells, q.one = true) (hl : vl.length = p.cells.length)
    (hv : ∀ (j : Nat) (u : Value) (q : PV), vl[j]? = some u → p.cells[j]? = some q → RV C u q) :
    RowsPw C sz ((vl.zipIdx 0).foldl (fun cs x => cs.setIfInBounds (i * sz + x.2) x.1) cells) (es.set i p.cells) := by
  obtain ⟨h1, h2⟩ := h
  refine ⟨by rw [set_all_size, List.length_set, h1], fun i' cs hi' => ?_⟩
  rw [List.getElem?_set] at hi'
  split at hi'
  · rename_i hii
    subst hii
    injection hi' with hi'; subst hi'
    refine ⟨hlen, hone, fun j q hj => ?_⟩
    have hjl := (List.getElem?_eq_some_iff.1 hj).1
    have hjv : j < vl.length := by omega
    refine ⟨vl[j], ?_, hv j _ q (List.getElem?_eq_getElem hjv) hj⟩
    have hb := index_lt (j := j + 1) hi (show j + 1 ≤ sz by omega)
    rw [set_all, if_pos ⟨by omega, by omega, by omega⟩, show i * sz + j - (i * sz + 0) = j by omega]
    exact List.getElem?_eq_getElem hjv
  · rename_i hii
    obtain ⟨k1, k2, k3⟩ := h2 i' cs hi'
    refine ⟨k1, k2, fun j q hj => ?_⟩
    obtain ⟨u, m1, m2⟩ := k3 j q hj
    refine ⟨u, ?_, m2⟩
    have hjl := (List.getElem?_eq_some_iff.1 hj).1
    rw [set_all, if_neg ?_]
    · exact m1
    · rintro ⟨g1, g2, _⟩
      exact ne_index (sz := sz) (i := i') (j := j) (i' := i) (j' := i' * sz + j - i * sz) (by omega) (by omega) (Ne.symm hii) (by omega)
theorem fillRows_sound {sz : Nat} : ∀ (ps : List (Nat × Value)) (ls : List (Nat × PV)) (cells : Array Value) (es es' : List (List PV)), ps.length = ls.length →
    (∀ (k : Nat) (i : Nat) (v : Value) (i' : Nat) (p : PV), ps[k]? = some (i, v) → ls[k]? = some (i', p) → i = i' ∧ RV C v p) →
    RowsPw C sz cells es → fillRows sz es ls = some es' → ∃ cells', Instr.fill (fun i => some (i * sz, sz)) cells ps = some cells' ∧ RowsPw C sz cells' es' ∧ es'.length = es.length
  | [], ls, cells, es, es', hl, _, hp, hf => by
    cases ls with
    | nil => simp [fillRows] at hf; subst hf; exact ⟨cells, rfl, hp, rfl⟩
    | cons => simp at hl
  | (i, v) :: ps, ls, cells, es, es', hl, hrel, hp, hf => by
    cases ls with
    | nil => simp at hl
    | cons x ls =>
      obtain ⟨i', p⟩ := x
      unfold fillRows at hf
      split at hf
      case isFalse => cases hf
      case isTrue hc =>
      obtain ⟨c1, c2, c3⟩ := hc
      obtain ⟨hii, hr⟩ := hrel 0 i v i' p rfl rfl
      subst hii
      obtain ⟨vl, hvc, hvl, hvr, hvo⟩ := val_cells hr (val_ok c3)
      have hb := index_lt (j := sz) c2 (Nat.le_refl sz)
      rw [fill_cons (off := i * sz) (n := sz) rfl hvc (by omega) (by rw [hp.1]; exact hb)]
      obtain ⟨cells', g1, g2, g3⟩ := fillRows_sound ps ls _ _ _ (by simpa using hl) (fun k i v i' p h1 h2 => hrel (k + 1) i v i' p (by simpa using h1) (by simpa using h2)) (hp.put c2 c1 (val_ok c3) hvl hvr) hf
      exact ⟨cells', g1, g2, by rw [g3, List.length_set]⟩
theorem madeCells_pw {sz n : Nat} {zv : Value} {z : List PV} (hz : compCells zv.cells.toList = some z) (hs : zv.cells.size = sz) : RowsPw C sz (madeCells zv.cells (n * sz)) (List.replicate n z) := by
  obtain ⟨e1, e2, e3⟩ := compCells_sound hz C.w (imm C.mem C.hd C.I0)
  have hzl : z.length = sz := by rw [← e1]; simpa using hs
  refine ⟨by rw [size_madeCells, List.length_replicate], fun i cs hi => ?_⟩
  rw [List.getElem?_replicate] at hi
  split at hi
  case isFalse => cases hi
  case isTrue hin =>
  injection hi with hi; subst hi
  refine ⟨hzl, e2, fun j p hj => ?_⟩
  have hjl := (List.getElem?_eq_some_iff.1 hj).1
  have hb := index_lt (j := j + 1) hin (show j + 1 ≤ sz by omega)
  have hm : (i * sz + j) % sz = j := by rw [Nat.mul_comm, Nat.mul_add_mod]; exact Nat.mod_eq_of_lt (by omega)
  have hjz : j < zv.cells.size := by omega
  refine ⟨zv.cells[j], ?_, .data _ _ (e3 j _ p (by simp [hjz]) hj)⟩
  unfold madeCells
  rw [Array.getElem?_map, Array.getElem?_range, if_pos (by omega)]
  simp only [Option.map_some, hs, hm]
  exact congrArg some (getElem!_pos zv.cells j hjz)
theorem new_row_goal {d elem sz : Nat} {es : List (List PV)} {cells : Array Value} {len cap : Nat} {dt : Bool} (M : MemInv w0 C) (hf : freshF (look C.mem) d = true) (hpw : RowsPw C sz cells es) (hlen : len = es.length) (hcap : cap = es.length)
    (hbig : es.length ≤ big) (hdt : dt = true → ∀ cs ∈ es, ∀ p ∈ cs, p.isD = true)
    (hrun : (execOp a.eval o).run P C.w = .ok (.value (.slice (some ⟨C.w.heap.size, 0, none⟩) len cap)) (C.w.alloc (.cells cells elem))) :
    Goal P o a Q w0 C (.own d C.gen) [(d, { ver := C.gen, elem, sz, es, data := dt, new := true, dead := false })] := by
  subst hlen
  have hmax : es.length ≤ maxLen := by unfold big at hbig; unfold maxLen; omega
  have hown : (C.w.alloc (.cells cells elem)).ownsRow w0.B elem sz (.slice (some ⟨C.w.heap.size, 0, none⟩) es.length cap) es.length cells.toList :=
    ⟨by simpa using hpw.1, .inr ⟨C.w.heap.size, cap, cells, rfl, (Nat.le_trans w0.hB M.below.size), heap_alloc_new C.w _, by omega, by omega, by rw [hcap]; exact hpw.1, List.take_of_length_le (by have := hpw.1; simp; omega)⟩⟩
  have hN := M.new_row (d := d) (ent := { ver := C.gen, elem, sz, es, data := dt, new := true, dead := false }) hf rfl rfl (Below.alloc' C.w _) hown hbig
    (fun b hb => by simp [Value.ownBlock] at hb; omega) (fun i cs hi => by
      obtain ⟨k1, k2, k3⟩ := hpw.2 i cs hi
      refine ⟨k1, k2, fun j p hj => ?_⟩
      obtain ⟨u, m1, m2⟩ := k3 j p hj
      exact ⟨u, by simpa using m1, .inl ⟨m2, fun hd => m2.isD (hdt hd cs (List.mem_of_getElem? hi) p (List.mem_of_getElem? hj))⟩⟩)
  intro K hK
  unfold Oper.wp
  rw [hrun]
  refine hK _ _ _ hN.1 hN.2 (.own d C.gen _ rfl (.inr ⟨rfl, _, look_same _ _ _, rfl⟩) fun e he => ?_)
  show _ = upd C.hd d _ d
  rw [upd_same]
theorem compRow_some {t : TypeId} {e : TypeId} {sz by_ : Nat} {z : List PV} (h : compRow P t = some (e, sz, by_, z)) :
    ∃ i zv, P.underlying t = some (.slice e) ∧ P.info? e = some i ∧ i.zero = some zv ∧ zv.cells.size = sz ∧ 0 < sz ∧ i.size = sz ∧ i.bytes = by_ ∧ 0 < by_ ∧ compCells zv.cells.toList = some z := by
  unfold compRow at h
  split at h
  · rename_i e' hu
    split at h
    · rename_i i hi
      split at h
      · rename_i zv hz
        split at h
        · rename_i hc
          simp only [Option.map_eq_some_iff, Prod.mk.injEq] at h
          obtain ⟨z', h1, rfl, rfl, rfl, rfl⟩ := h
          exact ⟨i, zv, hu, hi, hz, hc.1, hc.2.1, rfl, rfl, hc.2.2, h1⟩
        · cases h
      · cases h
    · cases h
  · cases h
theorem compElems_sound : ∀ {ps : List (Nat × Operand)} {ls : List (Nat × LX)}, compElems ps = some ls → ps.length = ls.length ∧
    ∀ (k i : Nat) (x : Operand) (i' : Nat) (l : LX), ps[k]? = some (i, x) → ls[k]? = some (i', l) → i = i' ∧ compX x = some l
  | [], ls, h => by simp [compElems] at h; subst h; simp
  | (i, x) :: ps, ls, h => by
    unfold compElems at h
    split at h
    · rename_i l qs h1 h2
      injection h with h; subst h
      obtain ⟨e1, e2⟩ := compElems_sound h2
      refine ⟨by simp [e1], fun k i' x' i2 l' hk hl => ?_⟩
      match k with
      | 0 =>
        simp at hk hl
        obtain ⟨rfl, rfl⟩ := hk
        obtain ⟨rfl, rfl⟩ := hl
        exact ⟨rfl, h1⟩
      | k + 1 => exact e2 k i' x' i2 l' (by simpa using hk) (by simpa using hl)
    · cases h
theorem sound_mkSlice {t e : TypeId} {sz by_ n0 : Nat} {z : List PV} {parts : Array (Nat × Operand)} {ls : List (Nat × LX)} (hs : SlotsOk C N slots a) (M : MemInv w0 C) (ho : o.op = .buildSlice t n0 parts) (hr : compRow P t = some (e, sz, by_, z))
    (hc : compElems parts.toList = some ls) (hsmall : n0 * sz ≤ 2 ^ 24) (ha : lxs slots (ls.map (·.2)) = some xs)
    (hact : (LOp.mkSlice e sz n0 z ls).act Γ o.dst C.gen xs (look C.mem) = some (r, up)) : Goal P o a Q w0 C r up := by
  simp only [LOp.act] at hact
  split at hact
  case h_2 => cases hact
  rename_i d hd
  split at hact
  case isFalse => cases hact
  case isTrue hcond =>
  obtain ⟨hlen, hf⟩ := hcond
  split at hact
  case h_2 => cases hact
  rename_i es hfr
  split at hact
  case isFalse => cases hact
  case isTrue hone =>
  simp only [Option.some.injEq, Prod.mk.injEq] at hact
  obtain ⟨rfl, rfl⟩ := hact
  obtain ⟨i, zv, hu, hi, hz, hzs, hpos, hsz, hby, _, hzc⟩ := compRow_some hr
  obtain ⟨e1, e2⟩ := compElems_sound hc
  obtain ⟨g1, g2⟩ := lxs_get ha
  obtain ⟨cells', hfill, hpw, hel⟩ := fillRows_sound (C := C) (sz := sz) (parts.toList.map fun x => (x.1, a.eval x.2)) _ (madeCells zv.cells (n0 * sz)) _ es (by simp at e1 hlen ⊢; omega)
    (fun k i v i' p hk hl => by
      rw [List.getElem?_map, Option.map_eq_some_iff] at hk hl
      obtain ⟨⟨i1, x⟩, hk, he⟩ := hk
      obtain ⟨⟨⟨i2, l⟩, p'⟩, hl, he'⟩ := hl
      simp at he he'
      obtain ⟨rfl, rfl⟩ := he
      obtain ⟨rfl, rfl⟩ := he'
      rw [List.getElem?_zip_eq_some] at hl
      obtain ⟨hl1, hl2⟩ := hl
      obtain ⟨k1, k2⟩ := e2 k i1 x i2 l hk hl1
      exact ⟨k1, x_sound M hs k2 (g2 k l p' (by simp [hl1]) hl2)⟩) (madeCells_pw hzc hzs) hfr
  rw [List.length_replicate] at hel
  have hbl : es.length ≤ big := by
    have : n0 ≤ n0 * sz := Nat.le_mul_of_pos_right _ hpos
    unfold big; omega
  refine new_row_goal (len := n0) (cap := n0) M hf hpw hel.symm hel.symm hbl (fun hdt cs hcs p hp => ?_) ?_
  · rw [List.all_eq_true] at hdt
    have := hdt cs hcs
    rw [List.all_eq_true] at this
    exact this p hp
  · have hsr : (sizeOf e).run P C.w = .ok sz C.w := by simp [sizeOf, typeInfo, hi, hsz]
    have hzr : (zeroValue e).run P C.w = .ok zv C.w := by simp [zeroValue, typeInfo, hi, hz]
    have hfill' : Instr.fill (fun i => some (i * sz, sz)) (Array.map (fun x => zv.cells[x % zv.cells.size]!) (Array.range (n0 * sz))) (parts.map fun (x : Nat × Operand) => (x.1, a.eval x.2)).toList = some cells' := by
      rw [Array.toList_map]; exact hfill
    have hb : (Instr.buildSlice t n0 (parts.map fun (x : Nat × Operand) => (x.1, a.eval x.2))).run P C.w = .ok (.slice (some ⟨C.w.heap.size, 0, none⟩) n0 n0) (C.w.alloc (.cells cells' e)) := by
      unfold Instr.buildSlice
      simp only [Sem.run_bind, run_underlying hu, Result.andThen_ok, hsr]
      rw [if_neg (by omega)]
      by_cases hne : n0 * sz = 0
      · rw [if_pos hne]
        simp only [Sem.run_bind, Sem.run_pure, Result.andThen_ok]
        rw [hne] at hfill' ⊢
        have e0 : ∀ f : Nat → Value, Array.map f (Array.range 0) = #[] := fun f => by simp
        rw [e0] at hfill'
        simp only [e0]
        split
        · rename_i cells hce
          rw [hfill'] at hce; injection hce with hce; subst hce
          simp [newRow]
        · rename_i hce
          exact absurd hfill' (hce _)
      rw [if_neg hne]
      simp only [Sem.run_bind, Sem.run_pure, hzr, Result.andThen_ok]
      split
      · rename_i cells hce
        rw [hfill'] at hce; injection hce with hce; subst hce
        simp [newRow]
      · rename_i hce
        exact absurd hfill' (hce _)
    simp only [execOp, ho]
    simp only [Sem.run_bind]
    exact (congrArg (fun r => Result.andThen r _) hb).trans rfl
theorem sound_make {t e : TypeId} {sz by_ : Nat} {z : List PV} {x y : Operand} {l : LX} (hs : SlotsOk C N slots a) (M : MemInv w0 C) (ho : o.op = .makeSlice t x y) (hxy : a.eval y = a.eval x) (hr : compRow P t = some (e, sz, by_, z))
    (hx : compX x = some l) (ha : lxs slots [l] = some xs) (hact : (LOp.make e sz by_ z l).act Γ o.dst C.gen xs (look C.mem) = some (r, up)) : Goal P o a Q w0 C r up := by
  obtain ⟨p, rfl, hp⟩ := lxs_1 ha
  have hv := x_sound M hs hx hp
  cases p <;> (try simp only [reduceCtorEq, LOp.act] at hact)
  rename_i k n
  cases k <;> (try simp only [reduceCtorEq] at hact)
  split at hact
  case h_2 => cases hact
  rename_i d hd
  split at hact
  case isFalse => cases hact
  case isTrue hc =>
  obtain ⟨hf, hn0, hbig⟩ := hc
  simp only [Option.some.injEq, Prod.mk.injEq] at hact
  obtain ⟨rfl, rfl⟩ := hact
  obtain ⟨i, zv, hu, hi, hz, hzs, hpos, hsz, hby, hb0, hzc⟩ := compRow_some hr
  have hle : n.toNat ≤ n.toNat * by_ := Nat.le_mul_of_pos_right _ hb0
  have hbb : n.toNat ≤ big := by omega
  have hnn : (n.toNat : Int) = n := by omega
  have e1 := hv.int_inv
  have hmk := run_make (P := P) C.w t e i zv hu hi hz .i64 .i64 n n hn0 (Int.le_refl _) (by
    rw [hby]
    have : (by_ : Int) * n = ((n.toNat * by_ : Nat) : Int) := by rw [Int.natCast_mul, hnn, Int.mul_comm]
    rw [this]; unfold big at hbig; omega) (by unfold big at hbb; omega)
  rw [hsz] at hmk
  refine new_row_goal (es := List.replicate n.toNat z) (cells := madeCells zv.cells (n.toNat * sz)) (len := n.toNat) (cap := n.toNat) M hf (madeCells_pw hzc hzs) (by simp) (by simp) (by simpa using hbb) (fun hdt cs hcs p hp => ?_) ?_
  · rw [List.all_eq_true] at hdt
    have := List.eq_of_mem_replicate hcs
    subst this
    exact hdt p hp
  · simp only [execOp, ho, e1, hxy, Sem.run_bind, hmk, Result.andThen_ok, Sem.run_pure]
theorem compXs_sound (M : MemInv w0 C) (hs : SlotsOk C N slots a) : ∀ {os : List Operand} {ls : List LX} {ps : List PV}, compXs os = some ls → lxs slots ls = some ps →
    os.length = ps.length ∧ ls.length = ps.length ∧ ∀ (j : Nat) (x : Operand) (p : PV), os[j]? = some x → ps[j]? = some p → RV C (a.eval x) p
  | [], ls, ps, h, hl => by simp [compXs] at h; subst h; simp [lxs] at hl; subst hl; simp
  | x :: os, ls, ps, h, hl => by
    unfold compXs at h
    split at h
    · rename_i l ls' h1 h2
      injection h with h; subst h
      obtain ⟨p, qs, rfl, g1, g2⟩ := lxs_cons hl
      obtain ⟨e1, e2, e3⟩ := compXs_sound M hs h2 g2
      refine ⟨by simp [e1], by simp [e2], fun j y q hj hq => ?_⟩
      match j with
      | 0 => simp at hj hq; subst hj hq; exact x_sound M hs h1 g1
      | j + 1 => exact e3 j y q (by simpa using hj) (by simpa using hq)
    · cases h
theorem lxs_append {slots : List (Nat × PV)} : ∀ {ls ms : List LX} {ps : List PV}, lxs slots (ls ++ ms) = some ps → lxs slots ls = some (ps.take ls.length) ∧ lxs slots ms = some (ps.drop ls.length)
  | [], ms, ps, h => by simpa [lxs] using h
  | l :: ls, ms, ps, h => by
    obtain ⟨p, qs, rfl, h1, h2⟩ := lxs_cons (by simpa using h)
    obtain ⟨g1, g2⟩ := lxs_append h2
    refine ⟨?_, by simpa using g2⟩
    simp only [List.length_cons, List.take_succ_cons, lxs, h1, g1]
theorem sound_mkfn {f : FuncId} {first caps : Array Operand} {ls ms : List LX} (hs : SlotsOk C N slots a) (M : MemInv w0 C) (ho : o.op = .makeFunc (.func f) first caps) (h1 : compXs first.toList = some ls) (h2 : compXs caps.toList = some ms)
    (ha : lxs slots (ls ++ ms) = some xs) (hact : (LOp.mkfn f ls ms).act Γ o.dst C.gen xs (look C.mem) = some (r, up)) : Goal P o a Q w0 C r up := by
  simp only [LOp.act, Option.some.injEq, Prod.mk.injEq] at hact
  obtain ⟨rfl, rfl⟩ := hact
  obtain ⟨g1, g2⟩ := lxs_append ha
  obtain ⟨a1, a2, a3⟩ := compXs_sound M hs h1 g1
  obtain ⟨b1, b2, b3⟩ := compXs_sound M hs h2 g2
  have hl : ∀ (n : Nat), (xs.take n).length = (xs.take n).length := fun _ => rfl
  refine Goal.pure M (v := .func (.func f) (first.map a.eval) (caps.map a.eval)) (by simp [execOp, ho, Instr.makeFunc]) (.fn f _ _ _ _ (by simpa using a1) (by simpa using b1) (fun j v p hj hp => ?_) fun j v p hj hp => ?_)
  · rw [Array.getElem?_map, Option.map_eq_some_iff] at hj
    obtain ⟨x, hx, rfl⟩ := hj
    exact a3 j x p (by simpa using hx) hp
  · rw [Array.getElem?_map, Option.map_eq_some_iff] at hj
    obtain ⟨x, hx, rfl⟩ := hj
    exact b3 j x p (by simpa using hx) hp
end
end Go.PW
