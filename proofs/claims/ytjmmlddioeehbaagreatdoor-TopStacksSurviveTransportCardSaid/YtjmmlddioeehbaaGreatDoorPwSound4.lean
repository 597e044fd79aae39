/-
  PwSound4: len, load, slices of slices and strings.
-/
import Derived.Test.YtjmmlddioeehbaaGreatDoorPwSound3
import Derived.Laws.Slices
namespace Go.PW
open Go.RowKit
section
variable {P : Program} {o : Oper} {a : Act} {Q : Exit → Act → World → Prop} {w0 : Base} {C : Ctx}
variable {N : Nat} {slots : List (Nat × PV)} {Γ : List (Nat × Fact P)} {xs : List PV} {r : PV} {up : List (Nat × Ent)}
theorem row_len {nm ver : Nat} {e : Ent} (M : MemInv w0 C) (he : live C.mem nm ver = some e) : ∃ ad c, C.hd nm = .slice ad e.es.length c ∧ e.es.length ≤ c := by
  obtain ⟨xs, ho, _⟩ := M.rows nm ver e he
  rcases ho.2 with ⟨h, h0⟩ | ⟨g, cap, cur, hv, _, _, hc, _⟩
  · exact ⟨none, 0, by rw [h, h0], by omega⟩
  · exact ⟨_, cap, hv, hc⟩
theorem sound_len {t : TypeId} {x : Operand} {l : LX} {c : Call} (hs : SlotsOk C N slots a) (M : MemInv w0 C) (ho : o.op = .call c) (hc : c.callee = .builtin .len) (hca : c.args = #[x]) (hct : c.argTypes = #[t]) (e : TypeId) (hu : P.underlying t = some (.slice e))
    (hx : compX x = some l) (ha : lxs slots [l] = some xs) (hact : (LOp.len l).act Γ o.dst C.gen xs (look C.mem) = some (r, up)) : Goal P o a Q w0 C r up := by
  obtain ⟨p, rfl, hp⟩ := lxs_1 ha
  have hr := x_sound M hs hx hp
  have hrun : ∀ ad n c', a.eval x = .slice ad n c' → (execOp a.eval o).run P C.w = .ok (.value (.int .i64 n)) C.w := by
    intro ad n c' hv
    have hl : (Builtin.len_ #[t] o.type #[.slice ad n c']).run P C.w = .ok (goInt n) C.w := by simp [Builtin.len_, run_underlying hu]
    simp only [execOp, ho, resolve, hc, hca, hct, invoke, builtin, hv, Sem.run_bind, Sem.run_pure, Result.andThen_ok, List.map_toArray, List.map_cons, List.map_nil, hl]
    rfl
  cases p <;> (try simp only [LOp.act, asList, Option.map_none, reduceCtorEq, Option.map_some, Option.some.injEq, Prod.mk.injEq, Option.map_eq_some_iff] at hact)
  · obtain ⟨rfl, rfl⟩ := hact
    exact Goal.pure M (hrun _ _ _ hr.nils_inv) (RV.int _ _)
  · obtain ⟨rfl, rfl⟩ := hact
    rename_i sz es
    have hd := hr.list_inv
    generalize hv : a.eval x = v at hd
    cases hd with
    | list0 => exact Goal.pure M (hrun _ _ _ hv) (RV.int _ _)
    | list => exact Goal.pure M (hrun _ _ _ hv) (RV.int _ _)
  · rename_i nm ver
    obtain ⟨q, ⟨e', he, rfl⟩, rfl, rfl⟩ := hact
    obtain ⟨ad, c', hh, _⟩ := row_len M he
    have hv := hr.own_inv.2.2 e' he
    exact Goal.pure M (hrun _ _ _ (hv.trans hh)) (RV.int _ _)
  · rename_i nm ver lo hi
    obtain ⟨q, ⟨e', he, rfl⟩, rfl, rfl⟩ := hact
    obtain ⟨ad, c', hh, hcap⟩ := row_len M he
    have hv := hr.sub_inv.2.2 e' he
    simp only [subHdr, hh] at hv
    obtain ⟨h1, h2, hv⟩ := hv
    have hlo : ((e'.es.take hi).drop lo).length = hi - lo := by simp; omega
    refine Goal.pure M (hrun _ _ _ hv) ?_
    rw [hlo]; exact RV.int _ _
theorem load_sound {t : TypeId} {n : Nat} {ag : Bool} {x : Operand} {ad : Addr} {cs : List PV} {f : Nat → Value} {r' : PV} (M : MemInv w0 C) (ho : o.op = .load t x) (hsz : sizeT P t = some n) (hag : isAggT P t = some ag)
    (hv : a.eval x = .pointer (some ad)) (hone : ∀ p ∈ cs, p.one = true) (hcell : ∀ (j : Nat) (p : PV), cs[j]? = some p → C.w.cell? (ad.add j) = some (f j))
    (hval : ∀ (j : Nat) (p : PV), cs[j]? = some p → RV C (f j) p) (hrd : rd n ag cs = some r') : Goal P o a Q w0 C r' [] := by
  unfold rd at hrd
  cases ag
  · simp only [Bool.false_eq_true, if_false, List.head?_eq_getElem?] at hrd
    have hc := hcell 0 r' hrd
    have h0 : ad.add 0 = ad := by simp [Addr.add]
    rw [h0] at hc
    refine Goal.pure M (v := f 0) ?_ (hval 0 r' hrd)
    simp [execOp, ho, hv, Instr.loadAt, Instr.sureAddr, loadVar, isAggT_run hag, hc]
  · simp only [if_true] at hrd
    split at hrd
    case isFalse => cases hrd
    case isTrue hn =>
    injection hrd with hrd; subst hrd
    have hl := run_loadCells (P := P) C.w ad n f fun j hj => hcell j _ (List.getElem?_eq_getElem (show j < cs.length by omega))
    refine Goal.pure M (v := .agg ((List.range n).map f).toArray) ?_ (.mk_agg (by simp; omega) (fun p hp => hone p (List.mem_of_mem_take hp)) fun j v p h1 h2 => ?_)
    · simp [execOp, ho, hv, Instr.loadAt, Instr.sureAddr, loadVar, isAggT_run hag, sizeT_run hsz, hl]
    · rw [List.getElem?_take] at h2
      split at h2
      · rename_i hj
        simp [hj] at h1
        subst h1
        exact hval j p h2
      · cases h2
theorem row_cells {nm ver i : Nat} {e : Ent} {cs : List PV} (M : MemInv w0 C) (he : live C.mem nm ver = some e) (hi : e.es[i]? = some cs) :
    ∃ (g cap : Nat) (f : Nat → Value), C.hd nm = .slice (some ⟨g, 0, none⟩) e.es.length cap ∧ cs.length = e.sz ∧ (∀ p ∈ cs, p.one = true) ∧
      (∀ (j : Nat) (p : PV), cs[j]? = some p → C.w.cell? ((⟨g, 0, none⟩ : Addr).add (i * e.sz + j)) = some (f j)) ∧
      (∀ (j : Nat) (p : PV), cs[j]? = some p → RV C (f j) p) ∧ (e.data = true → ∀ (j : Nat) (p : PV), cs[j]? = some p → DV C.w (imm C.mem C.hd C.I0) (f j) p) := by
  obtain ⟨xs, ho, hb, hc⟩ := M.rows nm ver e he
  obtain ⟨h1, h2, h3⟩ := hc i cs hi
  have hlt := (List.getElem?_eq_some_iff.1 hi).1
  obtain ⟨g, cap, hh, _⟩ := row_hdr M he (by omega)
  refine ⟨g, cap, fun j => xs.getD (i * e.sz + j) undef, hh, h1, h2, fun j p hj => ?_, fun j p hj => ?_, fun hd j p hj => ?_⟩
  · obtain ⟨v, k1, k2, k3⟩ := h3 j p hj
    rw [ho.cells (g := g) (by rw [hh]; rfl) _ v k1]
    simp [List.getD, k1]
  · obtain ⟨v, k1, k2, k3⟩ := h3 j p hj
    simpa [List.getD, k1] using k2
  · obtain ⟨v, k1, k2, k3⟩ := h3 j p hj
    simpa [List.getD, k1] using k3 hd
theorem sound_load {t : TypeId} {x : Operand} {n : Nat} {ag : Bool} {l : LX} (hs : SlotsOk C N slots a) (M : MemInv w0 C) (ho : o.op = .load t x) (hsz : sizeT P t = some n) (hag : isAggT P t = some ag)
    (hx : compX x = some l) (ha : lxs slots [l] = some xs) (hact : (LOp.load n ag l).act Γ o.dst C.gen xs (look C.mem) = some (r, up)) : Goal P o a Q w0 C r up := by
  obtain ⟨p, rfl, hp⟩ := lxs_1 ha
  have hr := x_sound M hs hx hp
  cases p <;> (try simp only [reduceCtorEq, LOp.act] at hact)
  · rename_i cs
    simp only [Option.map_eq_some_iff, Prod.mk.injEq] at hact
    obtain ⟨r', h1, rfl, rfl⟩ := hact
    obtain ⟨ad, f, e1, g1, g2, g3, g4, g5⟩ := hr.pim_inv
    exact load_sound M ho hsz hag e1 g3 g4 (fun j p hj => .data _ _ (g5 j p hj)) h1
  · rename_i nm ver i j
    split at hact
    case h_2 => cases hact
    rename_i e he
    split at hact
    case h_2 => cases hact
    rename_i cs hcs
    simp only [Option.map_eq_some_iff, Prod.mk.injEq] at hact
    obtain ⟨r', h1, rfl, rfl⟩ := hact
    obtain ⟨g, cap, f, hh, k1, k2, k3, k4, _⟩ := row_cells M he hcs
    obtain ⟨ad, n', c, e1, e2⟩ := pown_addr hr he (by obtain ⟨_, _, hbig, _⟩ := M.rows _ _ _ he; exact not_bx (List.getElem?_eq_some_iff.1 hcs).1 hbig)
    rw [hh] at e1
    injection e1 with e1; injection e1 with e1; subst e1
    refine load_sound (f := fun k => f (j + k)) M ho hsz hag e2 (fun p hp => k2 p (List.mem_of_mem_drop hp)) (fun k p hk => ?_) (fun k p hk => ?_) h1
    · rw [List.getElem?_drop] at hk
      rw [add_add, Nat.add_assoc]; exact k3 _ p hk
    · rw [List.getElem?_drop] at hk
      exact k4 _ p hk
theorem compOpt_cases {x : Option Operand} {l : Option LX} (h : compOpt x = some l) : (x = none ∧ l = none) ∨ ∃ y m, x = some y ∧ l = some m ∧ compX y = some m := by
  cases x with
  | none => simp [compOpt] at h; exact .inl ⟨rfl, h.symm⟩
  | some y =>
    simp only [compOpt, Option.map_eq_some_iff] at h
    obtain ⟨m, h1, rfl⟩ := h
    exact .inr ⟨y, m, rfl, rfl, h1⟩
theorem intIx_inv {v : Value} {p : PV} {n : Nat} (h : RV C v p) (hi : intIx p = some n) : ∃ k, v = .int k (n : Int) := by
  cases p <;> simp [intIx] at hi
  rename_i k z
  obtain ⟨h0, rfl⟩ := hi
  exact ⟨k, by rw [h.int_inv]; congr 1; omega⟩
theorem sliceBound_run {k : IntKind} {i y : Nat} (h : i ≤ y) (code : BoundsCode) (w : World) : (Instr.sliceBound (.int k i) y code).run P w = .ok i w := by
  have h1 : (0 : Int) ≤ (i : Int) ∧ (i : Int) ≤ (y : Int) := ⟨by omega, by omega⟩
  simp [Instr.sliceBound, asIntOf, h1]
theorem slice_args {lo hi : Option Operand} {l h : Option LX} {ps : List PV} (M : MemInv w0 C) (hs : SlotsOk C N slots a) (hl : compOpt lo = some l) (hh : compOpt hi = some h) (ha : lxs slots (l.toList ++ h.toList) = some ps) :
    ∃ (pl ph : Option PV), ps = pl.toList ++ ph.toList ∧ (pl.isSome = l.isSome ∧ ph.isSome = h.isSome) ∧ (l.isSome = lo.isSome ∧ h.isSome = hi.isSome) ∧
      (∀ p, pl = some p → ∃ y, lo = some y ∧ RV C (a.eval y) p) ∧ (∀ p, ph = some p → ∃ y, hi = some y ∧ RV C (a.eval y) p) := by
  rcases compOpt_cases hl with ⟨rfl, rfl⟩ | ⟨y, m, rfl, rfl, h1⟩ <;> rcases compOpt_cases hh with ⟨rfl, rfl⟩ | ⟨y', m', rfl, rfl, h2⟩
  · simp [lxs] at ha; subst ha
    exact ⟨none, none, by simp, by simp, by simp, by simp, by simp⟩
  · obtain ⟨p, rfl, hp⟩ := lxs_1 (by simpa using ha)
    exact ⟨none, some p, by simp, by simp, by simp, by simp, fun q hq => by injection hq with hq; subst hq; exact ⟨y', rfl, x_sound M hs h2 hp⟩⟩
  · obtain ⟨p, rfl, hp⟩ := lxs_1 (by simpa using ha)
    exact ⟨some p, none, by simp, by simp, by simp, fun q hq => by injection hq with hq; subst hq; exact ⟨y, rfl, x_sound M hs h1 hp⟩, by simp⟩
  · obtain ⟨p, q, rfl, hp, hq⟩ := lxs_2 (by simpa using ha)
    exact ⟨some p, some q, by simp, by simp, by simp, fun q' hq' => by injection hq' with hq'; subst hq'; exact ⟨y, rfl, x_sound M hs h1 hp⟩,
      fun q' hq' => by injection hq' with hq'; subst hq'; exact ⟨y', rfl, x_sound M hs h2 hq⟩⟩
theorem bounds_run {lo hi : Option Operand} {pl ph : Option PV} (isSlice : Bool) (len cap : Nat)
    (hpl : ∀ p, pl = some p → ∃ y, lo = some y ∧ RV C (a.eval y) p) (hph : ∀ p, ph = some p → ∃ y, hi = some y ∧ RV C (a.eval y) p) (i1 : pl.isSome = lo.isSome) (i2 : ph.isSome = hi.isSome)
    {l h : Nat} (hl : optIx 0 pl = some l) (hh : optIx len ph = some h) (h1 : l ≤ h) (h2 : h ≤ cap) (w : World) :
    (Instr.sliceBounds isSlice len cap (lo.map a.eval) (hi.map a.eval) none).run P w = .ok (l, h, cap) w := by
  have hhi : ∀ (code : BoundsCode), (match hi.map a.eval with | some v => Instr.sliceBound v cap code | none => (Pure.pure len : Sem Nat)).run P w = .ok h w := by
    intro code
    cases ph with
    | none =>
      cases hi with
      | none => injection hh with hh; subst hh; rfl
      | some y => simp at i2
    | some p =>
      obtain ⟨y, rfl, hr⟩ := hph p rfl
      obtain ⟨k, hk⟩ := intIx_inv hr hh
      simp only [Option.map_some, hk]
      exact sliceBound_run h2 code w
  have hlo : ∀ (code : BoundsCode), (match lo.map a.eval with | some v => Instr.sliceBound v h code | none => (Pure.pure 0 : Sem Nat)).run P w = .ok l w := by
    intro code
    cases pl with
    | none =>
      cases lo with
      | none => injection hl with hl; subst hl; rfl
      | some y => simp at i1
    | some p =>
      obtain ⟨y, rfl, hr⟩ := hpl p rfl
      obtain ⟨k, hk⟩ := intIx_inv hr hl
      simp only [Option.map_some, hk]
      exact sliceBound_run h1 code w
  unfold Instr.sliceBounds
  cases hi with
  | none =>
    have g1 := hhi .index
    cases lo with
    | none =>
      have g2 := hlo .index
      simp at g1 g2
      simp [g1, g2]
    | some y =>
      have g2 := hlo .sliceB
      simp at g1 g2
      simp [g1, g2]
  | some z =>
    have g1 := hhi (if isSlice then .sliceAcap else .sliceAlen)
    cases lo with
    | none =>
      have g2 := hlo .index
      simp at g1 g2
      simp [g1, g2]
    | some y =>
      have g2 := hlo .sliceB
      simp at g1 g2
      simp [g1, g2]
theorem sliceIx_some {lo hi : Bool} {pl ph : Option PV} {d l h : Nat} (i1 : pl.isSome = lo) (i2 : ph.isSome = hi) (hx : sliceIx lo hi (pl.toList ++ ph.toList) d = some (l, h)) :
    optIx 0 pl = some l ∧ optIx d ph = some h := by
  subst i1 i2
  cases pl with
  | none =>
    cases ph with
    | none => simp [sliceIx] at hx; obtain ⟨rfl, rfl⟩ := hx; exact ⟨rfl, rfl⟩
    | some q =>
      simp only [sliceIx, Option.isSome_none, Option.isSome_some, Option.toList_none, Option.toList_some, List.nil_append, Option.map_eq_some_iff, Prod.mk.injEq] at hx
      obtain ⟨h', h1, rfl, rfl⟩ := hx
      exact ⟨rfl, h1⟩
  | some p =>
    cases ph with
    | none =>
      simp only [sliceIx, Option.isSome_none, Option.isSome_some, Option.toList_none, Option.toList_some, List.append_nil, Option.map_eq_some_iff, Prod.mk.injEq] at hx
      obtain ⟨h', h1, rfl, rfl⟩ := hx
      exact ⟨h1, rfl⟩
    | some q =>
      simp only [sliceIx, Option.isSome_some, Option.toList_some, List.cons_append, List.nil_append] at hx
      split at hx
      · rename_i l' h' h1 h2
        simp at hx; obtain ⟨rfl, rfl⟩ := hx
        exact ⟨h1, h2⟩
      · cases hx
theorem sound_sslice {t ty : TypeId} {x : Operand} {lo hi : Option Operand} {lx' : LX} {l h : Option LX} (_ : ty = ty) (hs : SlotsOk C N slots a) (M : MemInv w0 C) (ho : o.op = .slice t x lo hi none) (hu : P.underlying t = some .string)
    (hx : compX x = some lx') (hl : compOpt lo = some l) (hh : compOpt hi = some h) (ha : lxs slots (lx' :: (l.toList ++ h.toList)) = some xs) (hact : (LOp.sslice lx' l h).act Γ o.dst C.gen xs (look C.mem) = some (r, up)) : Goal P o a Q w0 C r up := by
  obtain ⟨p, qs, rfl, hp, hq⟩ := lxs_cons ha
  have hr := x_sound M hs hx hp
  obtain ⟨pl, ph, rfl, ⟨i1, i2⟩, ⟨j1, j2⟩, hpl, hph⟩ := slice_args M hs hl hh hq
  cases p <;> (try simp only [reduceCtorEq, LOp.act] at hact)
  rename_i s
  split at hact
  case h_2 => cases hact
  rename_i l' h' hix
  split at hact
  case isFalse => cases hact
  case isTrue hb =>
  simp at hact
  obtain ⟨rfl, rfl⟩ := hact
  obtain ⟨k1, k2⟩ := sliceIx_some i1 i2 hix
  obtain ⟨e1, e2⟩ := hr.str_inv
  have hz : (⟨s.toArray⟩ : ByteArray).size = s.length := by simp [ByteArray.size]
  have hbr := bounds_run (P := P) false s.length s.length hpl hph (i1.trans j1) (i2.trans j2) k1 k2 hb.1 hb.2 C.w
  have hex : (⟨s.toArray⟩ : ByteArray).extract l' h' = ⟨((s.take h').drop l').toArray⟩ := by
    rw [ByteArray.extract_mk, List.drop_take]
  refine Goal.pure M (v := .string ⟨((s.take h').drop l').toArray⟩) ?_ (RV.str _ (by simp; omega))
  have hsl : (Instr.sliceAt t (.string ⟨s.toArray⟩) (lo.map a.eval) (hi.map a.eval) none).run P C.w = .ok (.string ⟨((s.take h').drop l').toArray⟩) C.w := by
    simp only [Instr.sliceAt, Instr.slice, Sem.run_bind, run_underlying hu, Result.andThen_ok, hz]
    simp [hbr, hex]
  simp only [execOp, ho, e1, Option.map_none, Sem.run_bind, hsl, Result.andThen_ok, Sem.run_pure]
theorem sound_slice {t e : TypeId} {n : Nat} {x : Operand} {lo hi : Option Operand} {lx' : LX} {l h : Option LX} (hs : SlotsOk C N slots a) (M : MemInv w0 C) (ho : o.op = .slice t x lo hi none) (hu : P.underlying t = some (.slice e)) (hsz : sizeT P e = some n)
    (hx : compX x = some lx') (hl : compOpt lo = some l) (hh : compOpt hi = some h) (ha : lxs slots (lx' :: (l.toList ++ h.toList)) = some xs) (hact : (LOp.slice n lx' l h).act Γ o.dst C.gen xs (look C.mem) = some (r, up)) : Goal P o a Q w0 C r up := by
  obtain ⟨p, qs, rfl, hp, hq⟩ := lxs_cons ha
  have hr := x_sound M hs hx hp
  obtain ⟨pl, ph, rfl, ⟨i1, i2⟩, ⟨j1, j2⟩, hpl, hph⟩ := slice_args M hs hl hh hq
  have hrun : ∀ (ad : Option Addr) (len cap l' h' : Nat), a.eval x = .slice ad len cap → sliceIx l.isSome h.isSome (pl.toList ++ ph.toList) len = some (l', h') → l' ≤ h' → h' ≤ cap →
      (execOp a.eval o).run P C.w = .ok (.value (.slice (if cap = l' then ad else ad.map (·.add (l' * n))) (h' - l') (cap - l'))) C.w := by
    intro ad len cap l' h' hv hix b1 b2
    obtain ⟨k1, k2⟩ := sliceIx_some i1 i2 hix
    have hbr := bounds_run (P := P) true len cap hpl hph (i1.trans j1) (i2.trans j2) k1 k2 b1 b2 C.w
    have hsl : (Instr.sliceAt t (.slice ad len cap) (lo.map a.eval) (hi.map a.eval) none).run P C.w = .ok (.slice (if cap = l' then ad else ad.map (·.add (l' * n))) (h' - l') (cap - l')) C.w := by
      simp only [Instr.sliceAt, Instr.slice, Sem.run_bind, run_underlying hu, Result.andThen_ok]
      simp [hbr, sizeT_run hsz]
    simp only [execOp, ho, hv, Option.map_none, Sem.run_bind, hsl, Result.andThen_ok, Sem.run_pure]
  cases p <;> (try simp only [reduceCtorEq, LOp.act] at hact)
  · split at hact
    case h_2 => cases hact
    rename_i l' h' hix
    split at hact
    case isFalse => cases hact
    case isTrue hb =>
    obtain ⟨rfl, rfl⟩ := hb
    simp at hact
    obtain ⟨rfl, rfl⟩ := hact
    refine Goal.pure M (hrun _ _ _ _ _ hr.nils_inv hix (Nat.le_refl _) (Nat.le_refl _)) ?_
    simpa using RV.data (C := C) _ _ .nils
  · rename_i sz' es
    split at hact
    case h_2 => cases hact
    rename_i l' h' hix
    split at hact
    case isFalse => cases hact
    case isTrue hb =>
    obtain ⟨rfl, hb1, hb2⟩ := hb
    simp at hact
    obtain ⟨rfl, rfl⟩ := hact
    have hd := hr.list_inv
    generalize hv : a.eval x = v at hd
    cases hd with
    | list0 ad c _ h0 =>
      simp at hb2
      have : l' = 0 := by omega
      subst this hb2
      refine Goal.pure M (hrun ad 0 c 0 0 hv (by simpa using hix) (Nat.le_refl _) (Nat.zero_le _)) ?_
      exact .data _ _ (by simpa using DV.list0if (f := fun x => x.add 0) (k := 0) (c := c) h0)
    | list ad c _ _ f hc hb' hI hlt hsz' hcell hval =>
      refine Goal.pure M (hrun _ _ _ _ _ hv hix hb1 (by omega)) (.data _ _ ?_)
      have hlen : ((es.take h').drop l').length = h' - l' := by simp; omega
      by_cases he : h' = l'
      · have : (es.take h').drop l' = [] := List.eq_nil_of_length_eq_zero (by omega)
        rw [this, he, Nat.sub_self]
        exact DV.list0if (f := fun x => x.add (l' * sz')) fun e => by cases e
      · rw [if_neg (by omega)]
        have hget : ∀ (i : Nat) (cs : List PV), ((es.take h').drop l')[i]? = some cs → es[l' + i]? = some cs := by
          intro i cs hi
          rw [List.getElem?_drop, List.getElem?_take] at hi
          split at hi
          · exact hi
          · cases hi
        have := DV.list (w := C.w) (I := imm C.mem C.hd C.I0) (ad.add (l' * sz')) (c - l') sz' ((es.take h').drop l') (fun i j => f (l' + i) j) (by omega) (by omega) (by rw [block_add]; exact hI) (by rw [block_add]; exact hlt)
          (fun i cs hi => hsz' _ _ (hget i cs hi)) (fun i cs j p hi hj => by rw [add_add, ← Nat.add_assoc, ← Nat.add_mul]; exact hcell _ cs j p (hget i cs hi) hj) (fun i cs j p hi hj => hval _ cs j p (hget i cs hi) hj)
        rw [hlen] at this
        exact this
  · rename_i nm ver
    split at hact
    case h_2 => cases hact
    rename_i e' he
    split at hact
    case h_2 => cases hact
    rename_i l' h' hix
    split at hact
    case isFalse => cases hact
    case isTrue hb =>
    obtain ⟨rfl, hb1, hb2⟩ := hb
    simp at hact
    obtain ⟨rfl, rfl⟩ := hact
    obtain ⟨ad, c, hh, hcap⟩ := row_len M he
    have hv := hr.own_inv.2.2 e' he
    refine Goal.pure M (hrun ad _ c _ _ (hv.trans hh) hix hb1 (by omega)) (.sub nm ver l' h' _ rfl hr.own_inv.1 fun e2 he2 => ?_)
    rw [live_eq] at he2
    rw [he] at he2; injection he2 with he2; subst he2
    simp only [subHdr, hh]
    exact ⟨hb1, hb2, trivial⟩
end
end Go.PW
