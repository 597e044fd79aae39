/-
  PwSound9: calls.
-/
import Derived.Test.YtjmmlddioeehbaaGreatDoorPwMut
namespace Go.PW
open Go.RowKit
theorem DV.flat0 {w w' : World} {I I' : Nat → Prop} {v : Value} {p : PV} (h : DV w I v p) (hp : p.flat0 = true) : DV w' I' v p := by
  cases p <;> first | (simp [PV.flat0] at hp; done) | skip
  · cases h; exact .int _ _
  · cases h; exact .bool _
  · cases h with | str _ h => exact .str _ h
  · cases h; exact .nils
  · cases h; exact .pnil
  · cases h; exact .fnil
  · cases h <;> constructor
  · cases h; exact .anyi _
theorem DV.flat1 {w w' : World} {I I' : Nat → Prop} {v : Value} {p : PV} (h : DV w I v p) (hp : p.flat1 = true) : DV w' I' v p := by
  cases p with
  | agg cs =>
    simp only [PV.flat1, List.all_eq_true] at hp
    cases h with
    | agg vs _ hl ho hv => exact .agg vs _ hl ho fun j u p h1 h2 => (hv j u p h1 h2).flat0 (hp p (List.mem_of_getElem? h2))
  | _ => exact h.flat0 hp
theorem DV.flat {w w' : World} {I I' : Nat → Prop} {v : Value} {p : PV} (h : DV w I v p) (hp : p.flat = true) : DV w' I' v p := by
  cases p with
  | tup cs =>
    simp only [PV.flat, List.all_eq_true] at hp
    cases h with
    | tup vs _ hl hv => exact .tup vs _ hl fun j u p h1 h2 => (hv j u p h1 h2).flat1 (hp p (List.mem_of_getElem? h2))
  | _ => exact h.flat1 hp
section
variable {P : Program} {o : Oper} {a : Act} {Q : Exit → Act → World → Prop} {w0 : Base} {C : Ctx}
variable {N : Nat} {slots : List (Nat × PV)} {Γ : List (Nat × Fact P)} {xs : List PV} {r : PV} {up : List (Nat × Ent)}
theorem RV.dataOk {v : Value} {p : PV} (h : RV C v p) (hp : p.dataOk = true) : DV C.w (imm C.mem C.hd C.I0) v p := h.dataOk' hp
theorem row_dv {nm ver : Nat} {e : Ent} (M : MemInv w0 C) (he : live C.mem nm ver = some e) (hd : e.data = true) : DV C.w (fun _ => True) (C.hd nm) (.list e.sz e.es) := by
  obtain ⟨ys, ho, hb, hc⟩ := M.rows nm ver e he
  rcases ho.2 with ⟨h1, h2⟩ | ⟨g, cap, cur, h1, hg, hh, hn, hm, hs, ht⟩
  · have : e.es = [] := List.eq_nil_of_length_eq_zero h2
    rw [h1, this]; exact .list0 _ _ _ fun _ => rfl
  · rw [h1]
    have hlt : g < C.w.heap.size := (Array.getElem?_eq_some_iff.1 hh).1
    refine .list ⟨g, 0, none⟩ cap e.sz e.es (fun i j => ys.getD (i * e.sz + j) undef) hn hb trivial hlt (fun i cs hi => ⟨(hc i cs hi).1, (hc i cs hi).2.1⟩) (fun i cs j p hi hj => ?_) fun i cs j p hi hj => ?_
    · obtain ⟨u, a1, a2, a3⟩ := (hc i cs hi).2.2 j p hj
      rw [ho.cells (g := g) (by rw [h1]; rfl) _ u a1]
      simp [List.getD, a1]
    · obtain ⟨u, a1, a2, a3⟩ := (hc i cs hi).2.2 j p hj
      simpa [List.getD, a1] using (a3 hd).mono (Nat.le_refl _) fun _ _ _ => ⟨trivial, rfl⟩
theorem sub_dv {w : World} {I : Nat → Prop} {hd v : Value} {sz lo hi n : Nat} {es : List (List PV)} (h : DV w I hd (.list sz es)) (hn : n = es.length) (hs : subHdr hd sz n lo hi v) : DV w I v (.list sz ((es.take hi).drop lo)) := by
  subst hn
  cases h with
  | list0 ad c _ h0 =>
    simp only [subHdr] at hs
    obtain ⟨h1, h2, rfl⟩ := hs
    simp at h2
    subst h2
    have : lo = 0 := by omega
    subst this
    simpa using DV.list0if (f := fun x => x.add 0) (k := 0) (c := c) h0
  | list ad c _ _ f hc hb' hI hlt hsz' hcell hval =>
    simp only [subHdr] at hs
    obtain ⟨h1, h2, rfl⟩ := hs
    have hlen : ((es.take hi).drop lo).length = hi - lo := by simp; omega
    by_cases he : hi = lo
    · have : (es.take hi).drop lo = [] := List.eq_nil_of_length_eq_zero (by omega)
      rw [this, he, Nat.sub_self]
      exact DV.list0if (f := fun x => x.add (lo * sz)) fun e => by cases e
    · rw [if_neg (by omega)]
      have hget : ∀ (i : Nat) (cs : List PV), ((es.take hi).drop lo)[i]? = some cs → es[lo + i]? = some cs := by
        intro i cs hi
        rw [List.getElem?_drop, List.getElem?_take] at hi
        split at hi
        · exact hi
        · cases hi
      have := DV.list (w := w) (I := I) (ad.add (lo * sz)) (c - lo) sz ((es.take hi).drop lo) (fun i j => f (lo + i) j) (by omega) (by omega) (by rw [block_add]; exact hI) (by rw [block_add]; exact hlt)
        (fun i cs hi => hsz' _ _ (hget i cs hi)) (fun i cs j p hi hj => by rw [add_add, ← Nat.add_assoc, ← Nat.add_mul]; exact hcell _ cs j p (hget i cs hi) hj) (fun i cs j p hi hj => hval _ cs j p (hget i cs hi) hj)
      rw [hlen] at this
      exact this
theorem argD_sound {v : Value} {p q : PV} (M : MemInv w0 C) (h : RV C v p) (ha : argD (look C.mem) p = some q) (hq : q.dataOk = true) :
    (p.isOwn = false → DV C.w (imm C.mem C.hd C.I0) v q) ∧ DV C.w (fun _ => True) v q := by
  have simple : argD (look C.mem) p = some p → p = q := fun h => by rw [ha] at h; injection h with h; exact h.symm
  cases p
  case own nm ver =>
    refine ⟨by simp [PV.isOwn], ?_⟩
    simp only [argD] at ha
    split at ha
    · rename_i e he
      split at ha
      · rename_i hd
        injection ha with ha; subst ha
        rw [h.own_inv.2.2 e he]; exact row_dv M he hd
      · cases ha
    · cases ha
  case sub nm ver lo hi =>
    refine ⟨by simp [PV.isOwn], ?_⟩
    simp only [argD] at ha
    split at ha
    · rename_i e he
      split at ha
      · rename_i hd
        injection ha with ha; subst ha
        exact sub_dv (row_dv M he hd) rfl (h.sub_inv.2.2 e he)
      · cases ha
    · cases ha
  all_goals
    have := simple rfl
    subst this
    have := h.dataOk hq
    exact ⟨fun _ => this, this.mono (Nat.le_refl _) fun _ _ _ => ⟨trivial, rfl⟩⟩
theorem argsD_get {f : Look} : ∀ {ps qs : List PV}, argsD f ps = some qs → ps.length = qs.length ∧ ∀ (j : Nat) (p q : PV), ps[j]? = some p → qs[j]? = some q → argD f p = some q
  | [], qs, h => by simp [argsD] at h; subst h; simp
  | p :: ps, qs, h => by
    unfold argsD at h
    split at h
    · rename_i q qs' h1 h2
      injection h with h; subst h
      obtain ⟨e1, e2⟩ := argsD_get h2
      refine ⟨by simp [e1], fun j p' q' hp hq => ?_⟩
      match j with
      | 0 => simp at hp hq; subst hp hq; exact h1
      | j + 1 => exact e2 j p' q' (by simpa using hp) (by simpa using hq)
    · cases h
theorem DVs_mk {w : World} {I : Nat → Prop} : ∀ {vs : List Value} {ps : List PV}, vs.length = ps.length → (∀ (j : Nat) (v : Value) (p : PV), vs[j]? = some v → ps[j]? = some p → DV w I v p) → DVs w I vs ps
  | [], [], _, _ => .nil
  | v :: vs, p :: ps, hl, h => .cons (h 0 v p rfl rfl) (DVs_mk (by simpa using hl) fun j v' p' h1 h2 => h (j + 1) v' p' (by simpa using h1) (by simpa using h2))
  | [], _ :: _, hl, _ => by simp at hl
  | _ :: _, [], hl, _ => by simp at hl
theorem callD_goal {f : FuncId} {vs : List Value} {args : List PV} {d? : Option Nat} (hd : d? = o.dst) (M : MemInv w0 C) (hl : vs.length = args.length) (hv : ∀ (j : Nat) (v : Value) (p : PV), vs[j]? = some v → args[j]? = some p → RV C v p)
    (hact : callD P Γ d? C.gen f args (look C.mem) = some (r, up))
    (hrun : (execOp a.eval o).run P C.w = .ok (.enter f vs.toArray) C.w) : Goal P o a Q w0 C r up := by
  unfold callD at hact
  split at hact
  case h_1 => cases hact
  rename_i d
  split at hact
  case h_1 => cases hact
  rename_i c hc
  have hpf := c.pf
  split at hact
  · rename_i u hu
    rw [hu] at hpf
    simp only at hpf
    split at hact
    case isFalse => cases hact
    case isTrue hcond =>
    obtain ⟨hf, ok⟩ := hcond
    simp only [Option.some.injEq, Prod.mk.injEq] at hact
    obtain ⟨rfl, rfl⟩ := hact
    intro K hK
    unfold Oper.wp
    rw [hrun, Oper.upon_enter, ← hf]
    refine (mut_after M hl hv ok hpf).mono ?_
    rintro e w' ⟨v, hd', rfl, M', L', h'⟩
    exact hK v w' hd' M' L' h'
  rename_i hu
  rw [hu] at hpf
  simp only at hpf
  split at hact
  case h_1 => cases hact
  rename_i qs hqs
  split at hact
  case isFalse => cases hact
  case isTrue hcond =>
  obtain ⟨hf, hlen, hle, hok⟩ := hcond
  obtain ⟨q1, q2⟩ := argsD_get hqs
  rw [List.all_eq_true] at hok
  -- the arguments are what the contract asks
  have hargs : ∀ (j : Nat) (v : Value) (p : PV), vs[j]? = some v → c.args[j]? = some p → (args.any PV.isOwn = false → DV C.w (imm C.mem C.hd C.I0) v p) ∧ DV C.w (fun _ => True) v p := by
    intro j v p hj hp
    have hj1 := (List.getElem?_eq_some_iff.1 hj).1
    have hp1 := (List.getElem?_eq_some_iff.1 hp).1
    have ha : args[j]? = some args[j] := List.getElem?_eq_getElem (by omega)
    have hq : qs[j]? = some qs[j] := List.getElem?_eq_getElem (by omega)
    obtain ⟨k1, k2⟩ := argD_sound M (hv j v _ hj ha) (q2 j _ _ ha hq) (hok _ (List.getElem_mem (by omega)))
    have hl' := hle j _ p hq hp
    refine ⟨fun h => (k1 ?_).le hl', k2.le hl'⟩
    rw [List.any_eq_false] at h
    simpa using h _ (List.getElem_mem (by omega))
  split at hact
  case isFalse => cases hact
  case isTrue hor =>
  simp only [Option.some.injEq, Prod.mk.injEq] at hact
  obtain ⟨rfl, rfl⟩ := hact
  intro K hK
  unfold Oper.wp
  rw [hrun, Oper.upon_enter, ← hf]
  rcases hor with hno | hflat
  · refine (hpf C.w vs _ (DVs_mk (by omega) fun j v p h1 h2 => (hargs j v p h1 h2).1 hno) M.glob).mono ?_
    rintro e w' ⟨v, rfl, hb, hres⟩
    have hG := M.grow hb
    refine hK v w' C.hd hG.1 hG.2 (.data _ _ (hres.mono (Nat.le_refl _) fun b _ hi => ⟨?_, rfl⟩))
    rcases hi with hi | hi
    · exact hi
    · exact M.imm_new hi
  · refine (hpf C.w vs _ (DVs_mk (by omega) fun j v p h1 h2 => (hargs j v p h1 h2).2) (M.glob.mono (Nat.le_refl _) fun _ _ _ => ⟨trivial, rfl⟩)).mono ?_
    rintro e w' ⟨v, rfl, hb, hres⟩
    have hG := M.grow hb
    exact hK v w' C.hd hG.1 hG.2 (.data _ _ (hres.flat hflat))
theorem bodied_run {f : FuncId} (h : bodied P f = true) (args : Array Value) (w : World) : (callFunc f args).run P w = .ok (.enter f args) w := by
  unfold bodied at h
  split at h
  · rename_i fn hf
    simp only [Bool.and_eq_true, bne_iff_ne, ne_eq, Option.isSome_iff_ne_none] at h
    obtain ⟨h1, h2⟩ := h
    unfold callFunc
    simp [hf, h2, h1]
  · cases h
theorem sound_call {f : FuncId} {ls : List LX} {c : Call} (hs : SlotsOk C N slots a) (M : MemInv w0 C) (ho : o.op = .call c) (hc : c.callee = .value (.func f)) (hb : bodied P f = true) (hca : compXs c.args.toList = some ls)
    (ha : lxs slots ls = some xs) (hact : (LOp.call f ls).act Γ o.dst C.gen xs (look C.mem) = some (r, up)) : Goal P o a Q w0 C r up := by
  simp only [LOp.act] at hact
  obtain ⟨e1, e2, e3⟩ := compXs_sound M hs hca ha
  refine callD_goal (vs := c.args.toList.map a.eval) rfl M (by simpa using e1) (fun j v p hj hp => ?_) hact ?_
  · rw [List.getElem?_map, Option.map_eq_some_iff] at hj
    obtain ⟨x, hx, rfl⟩ := hj
    exact e3 j x p hx hp
  · have hargs : #[] ++ (c.args.map a.eval) ++ #[] = (c.args.toList.map a.eval).toArray := by
      have h1 : #[] ++ (c.args.map a.eval) ++ #[] = c.args.map a.eval := by simp
      rw [h1]
      exact Array.ext' (by rw [Array.toList_map])
    have hres : (resolve a.eval c o.type).run P C.w = .ok { target := .fn (.func f) #[], args := #[] ++ c.args.map a.eval } C.w := by
      simp only [resolve, hc, Deferred.ofValue, Act.eval]
      rfl
    simp only [execOp, ho, Sem.run_bind, hres, Result.andThen_ok, invoke]
    rw [bodied_run hb, hargs]
theorem sound_callv {x : Operand} {l : LX} {ls : List LX} {c : Call} (hs : SlotsOk C N slots a) (M : MemInv w0 C) (ho : o.op = .call c) (hc : c.callee = .value x) (hx : compX x = some l) (hca : compXs c.args.toList = some ls)
    (ha : lxs slots (l :: ls) = some xs) (hact : (LOp.callv l ls).act Γ o.dst C.gen xs (look C.mem) = some (r, up)) : Goal P o a Q w0 C r up := by
  obtain ⟨p, ps, rfl, g1, g2⟩ := lxs_cons ha
  have hr := x_sound M hs hx g1
  cases p <;> (try simp only [reduceCtorEq, LOp.act] at hact)
  rename_i f first caps
  split at hact
  case isFalse => cases hact
  case isTrue hb =>
  obtain ⟨e1, e2, e3⟩ := compXs_sound M hs hca g2
  have hfn : ∃ vf vc : Array Value, a.eval x = .func (.func f) vf vc ∧ vf.size = first.length ∧ vc.size = caps.length ∧
      (∀ (j : Nat) (v : Value) (p : PV), vf[j]? = some v → first[j]? = some p → RV C v p) ∧ (∀ (j : Nat) (v : Value) (p : PV), vc[j]? = some v → caps[j]? = some p → RV C v p) := by
    generalize hv : a.eval x = v at hr
    cases hr with
    | data _ _ h => cases h with | fn _ vf vc _ _ h1 h2 h3 h4 => exact ⟨vf, vc, rfl, h1, h2, fun j v p a1 a2 => .data _ _ (h3 j v p a1 a2), fun j v p a1 a2 => .data _ _ (h4 j v p a1 a2)⟩
    | fn _ vf vc _ _ h1 h2 h3 h4 => exact ⟨vf, vc, rfl, h1, h2, h3, h4⟩
  obtain ⟨vf, vc, hv, h1, h2, h3, h4⟩ := hfn
  refine callD_goal (vs := vf.toList ++ c.args.toList.map a.eval ++ vc.toList) rfl M (by simp at e1 ⊢; omega) (fun j v p hj hp => ?_) hact ?_
  · by_cases k1 : j < first.length
    · rw [List.append_assoc, List.getElem?_append_left (by simpa using (show j < vf.size by omega))] at hj
      rw [List.append_assoc, List.getElem?_append_left k1] at hp
      exact h3 j v p (by simpa using hj) hp
    · by_cases k2 : j < first.length + ps.length
      · rw [List.append_assoc, List.getElem?_append_right (by simp; omega), List.getElem?_append_left (by simp at e1 ⊢; omega)] at hj
        rw [List.append_assoc, List.getElem?_append_right (by omega), List.getElem?_append_left (by omega)] at hp
        rw [List.getElem?_map, Option.map_eq_some_iff] at hj
        obtain ⟨y, hy, rfl⟩ := hj
        refine e3 (j - first.length) y p ?_ hp
        rw [← hy]; congr 1; simp [h1]
      · rw [List.getElem?_append_right (by simp at e1 ⊢; omega)] at hj
        rw [List.getElem?_append_right (by simp; omega)] at hp
        refine h4 (j - (first.length + ps.length)) v p ?_ (by rw [← hp]; congr 1; simp)
        rw [← Array.getElem?_toList, ← hj]; congr 1
        simp at e1 ⊢; omega
  · have hres : (resolve a.eval c o.type).run P C.w = .ok { target := .fn (.func f) vc, args := vf ++ c.args.map a.eval } C.w := by
      simp only [resolve, hc, Deferred.ofValue, hv]
      rfl
    simp only [execOp, ho, Sem.run_bind, hres, Result.andThen_ok, invoke]
    rw [bodied_run hb]
    congr 2
    simp
end
end Go.PW
