/-
  PwInl: a call that is walked on the spot.
-/
import Derived.Test.YthnneojommdhjaaPwDec
namespace Go.PW
open Go.RowKit
noncomputable section

theorem compBuiltin_call {P : Program} {b : Builtin} {ts : List TypeId} {as : List Operand} {f : FuncId} {ls : List LX} (h : compBuiltin P b ts as = some (.call f ls)) : False := by
  unfold compBuiltin at h
  split at h
  · split at h
    · simp [Option.map_eq_some_iff] at h
    · simp [Option.map_eq_some_iff] at h
    · cases h
  · split at h
    · split at h
      · obtain ⟨_, _, _, _, h⟩ := comp2_some h; cases h
      · cases h
    · cases h
  · obtain ⟨_, _, _, _, h⟩ := comp2_some h; cases h
  · obtain ⟨_, _, _, _, h⟩ := comp2_some h; cases h
  · cases h

theorem compK_call {P : Program} {op : Op} {f : FuncId} {as : List LX} (h : compK P op = some (.call f as)) : ∃ c, op = .call c ∧ c.callee = .value (.func f) ∧ bodied P f = true ∧ compXs c.args.toList = some as := by
  cases op with
  | call c =>
    simp only [compK] at h
    split at h
    · rename_i g hc
      split at h
      · rename_i hb
        simp only [Option.map_eq_some_iff, LOp.call.injEq] at h
        obtain ⟨ls, h1, h2, h3⟩ := h
        subst h2 h3
        exact ⟨c, rfl, hc, hb, h1⟩
      · cases h
    · split at h
      · simp at h
      · cases h
    · exact (compBuiltin_call h).elim
    · cases h
  | binOp op t x y u =>
    simp only [compK, compBin] at h
    split at h
    · obtain ⟨_, _, _, _, h⟩ := comp2_some h; cases h
    · split at h
      · split at h
        · obtain ⟨_, _, _, _, h⟩ := comp2_some h; cases h
        · split at h
          · obtain ⟨_, _, _, _, h⟩ := comp2_some h; cases h
          · cases h
      · split at h
        · obtain ⟨_, _, _, _, h⟩ := comp2_some h; cases h
        · split at h
          · obtain ⟨_, _, _, _, h⟩ := comp2_some h; cases h
          · cases h
      · cases h
  | indexAddr t x i =>
    simp only [compK] at h
    split at h
    · obtain ⟨_, _, _, _, h⟩ := comp2_some h; cases h
    · obtain ⟨_, _, _, _, h⟩ := comp2_some h; cases h
    · cases h
  | index t x i =>
    simp only [compK] at h
    split at h
    · obtain ⟨_, _, _, _, h⟩ := comp2_some h; cases h
    · cases h
  | build t parts =>
    simp only [compK] at h
    split at h
    · split at h
      · simp [Option.map_eq_some_iff] at h
      · cases h
    · cases h
  | slice t x lo hi mx =>
    cases mx with
    | some m => simp [compK] at h
    | none =>
      simp only [compK] at h
      split at h
      · split at h
        · simp at h
        · simp [Option.map_eq_some_iff] at h
        · cases h
      · cases h
  | makeFunc fv a b =>
    cases fv with
    | func f =>
      simp only [compK] at h
      split at h <;> simp at h
    | _ => simp [compK] at h
  | _ =>
    simp only [compK, reduceCtorEq] at h
    all_goals (first | (cases h; done) | (simp [Option.map_eq_some_iff] at h; done) | (split at h <;> first | (cases h; done) | (simp [Option.map_eq_some_iff] at h; done) | (split at h <;> first | (cases h; done) | (simp [Option.map_eq_some_iff] at h; done))))

section
variable {P : Program} {Γ : List (Nat × Fact P)} {N : Nat} {w0 : Base} {w : World} {I0 : Fri} {st st' : St} {a : Act} {hd : Nat → Value} {Q : Exit → Act → World → Prop}
theorem plain_pre {ops : Array Oper} {los : List LOper} (hc : compOpers P N ops.toList ops.toList = some los) {m : Nat} :
    ∀ (n k : Nat) (st : St) (a : Act) (w : World) (hd : Nat → Value), k + n + m = ops.size → Rep w0 I0 N st a w hd → steps Γ ((los.drop k).take n) st = some st' →
      (∀ a' w' hd', Rep w0 I0 N st' a' w' hd' → wpOps P ops Q (List.range' (k + n) m) a' w') → wpOps P ops Q (List.range' k (n + m)) a w
  | 0, k, st, a, w, hd, hk, R, hs, hQ => by
    simp [steps] at hs; subst hs
    simpa using hQ a w hd R
  | n + 1, k, st, a, w, hd, hk, R, hs, hQ => by
    obtain ⟨e1, e2⟩ := compOpers_get hc
    have hkl : k < los.length := by rw [← e1]; simp; omega
    rw [List.drop_eq_getElem_cons hkl, List.take_succ_cons] at hs
    unfold steps at hs
    split at hs
    case h_2 => cases hs
    rename_i st1 h1
    have hko : k < ops.size := by omega
    have ho : ops[k]? = some ops[k] := Array.getElem?_eq_getElem hko
    rw [show n + 1 + m = (n + m) + 1 by omega, List.range'_succ, wpOps_cons]
    unfold wpOp
    rw [ho]
    exact step_sound R (e2 k _ _ (by simp [hko]) (List.getElem?_eq_getElem hkl)) h1 fun a' w' hd' R' =>
      plain_pre hc n (k + 1) st1 a' w' hd' (by omega) R' hs fun a'' w'' hd'' R'' => by
        have := hQ a'' w'' hd'' R''
        rwa [show k + (n + 1) = k + 1 + n by omega] at this
end

attribute [local irreducible] gst
/-- the callee's state at its start: its arguments; the caller's slots are ghosts -/
def inSt (xs : List PV) (s : St) : St := { slots := (xs.zipIdx.map fun x => (x.2, x.1)) ++ s.slots.map fun x => (gst + x.1, x.2), mem := s.mem, gen := s.gen }
/-- the caller's state behind the call -/
def outSt (d : Nat) (p : PV) (ts : List Nat) (s : St) : St := { slots := (d, p) :: ts.filterMap fun t => (look s.slots (gst + t)).map fun q => (t, q), mem := s.mem, gen := s.gen }

theorem look_shift (l : List (Nat × PV)) (t : Nat) : look (l.map fun x => (gst + x.1, x.2)) t = if gst ≤ t then look l (t - gst) else none := by
  induction l with
  | nil => simp [look]
  | cons x l ih =>
    simp only [List.map_cons, look, ih]
    by_cases h : gst ≤ t
    · simp only [if_pos h]
      by_cases h2 : gst + x.1 = t
      · rw [if_pos h2, if_pos (by omega)]
      · rw [if_neg h2, if_neg (by omega)]
    · simp only [if_neg h]
      rw [if_neg (by omega)]

section
variable {P : Program} {N : Nat} {st : St}
/-- A CALL, WALKED ON THE SPOT, in a region in the text's order -/
theorem Ev.regCall {N' : Nat} {L' : LCode} {lrs : List LRes} {g : LReg} {i d : Nat} {f : FuncId} {as : List LX} {Q : Ex → St → Prop} (hm : P.follows .mixedOrders = true) (hdr : g.draw = false) (hi : g.los[i]? = some ⟨some d, none, .call f as⟩) (hfc : fnComp P f = some (N', L', lrs))
    (h : W P (g.los.take i) [] st fun _ s1 => ∃ xs, lxs s1.slots as = some xs ∧ xs.length ≤ N' ∧
      Ev P N' L' (inSt xs s1) fun e s2 => match e with | .exit _ => False | _ => ∃ s3, Wk s2 s3 ∧ ∃ qs, resRs s3 lrs = some qs ∧ W P (g.los.drop (i + 1)) [] (outSt d (resOne qs) (s1.slots.map (·.1)) s3) fun _ s => Q .normal s) :
    Ev P N (.reg g) st Q := by
  intro w0 I0 c a w hd hc R
  cases c <;> simp only [compCode, reduceCtorEq] at hc
  case region id ops draw =>
    simp only [Option.map_eq_some_iff] at hc
    obtain ⟨g', h1, h2⟩ := hc
    injection h2 with h2; subst h2
    unfold compRegion at h1
    split at h1
    case h_1 => cases h1
    rename_i los hlos
    cases draw
    case true =>
      simp only [if_true] at h1
      split at h1
      · injection h1 with h1; subst h1; cases hdr
      · cases h1
    case false =>
    simp only [Bool.false_eq_true, if_false, Option.some.injEq] at h1
    subst h1
    simp only at hi h
    obtain ⟨e1, e2⟩ := compOpers_get hlos
    have hil : i < los.length := (List.getElem?_eq_some_iff.1 hi).1
    have hsz : los.length = ops.size := by rw [← e1]; simp
    refine wp_region ?_
    rw [List.range_eq_range', show ops.size = i + (1 + (ops.size - i - 1)) by omega]
    obtain ⟨Γ, h⟩ := h
    split at h
    case h_2 => exact h.elim
    rename_i s1 ls hs1
    obtain ⟨xs, hxs, hxl, hev⟩ := h
    refine plain_pre (Γ := Γ) (m := 1 + (ops.size - i - 1)) hlos i 0 st a w hd (by omega) R (by simpa using stepsL_steps hs1) fun a1 w1 hd1 R1 => ?_
    rw [Nat.zero_add, Nat.add_comm 1, List.range'_succ, wpOps_cons]
    unfold wpOp
    have hio : i < ops.size := by omega
    have ho : ops[i]? = some ops[i] := Array.getElem?_eq_getElem hio
    rw [ho]
    simp only
    have hco := e2 i ops[i] _ (by simp [hio]) hi
    generalize hoo : ops[i] = o at hco
    unfold compOper at hco
    split at hco
    case h_2 => cases hco
    rename_i kk gg hk hg
    have hinv : o.dst = some d ∧ d < N ∧ gg = none ∧ kk = .call f as := by
      split at hco
      · rename_i d' hd'
        split at hco
        · rename_i hlt
          injection hco with hco; injection hco with h3 h4 h5
          injection h3 with h3; subst h3
          exact ⟨hd', hlt, h4, h5⟩
        · cases hco
      · injection hco with hco; injection hco with h3 _ _; cases h3
    obtain ⟨hdst, hdN, rfl, rfl⟩ := hinv
    have hgn : o.guard = none := by
      unfold compGuard at hg
      split at hg
      · assumption
      · split at hg
        · split at hg
          · split at hg
            · simp at hg
            · cases hg
          · cases hg
        · cases hg
    have hw : Region.wanted o (yielded ops a1.tmps) = true := by simp [Region.wanted, hgn]
    rw [if_pos hw]
    refine .inl ?_
    obtain ⟨cc, hop, hcal, hb, hca⟩ := compK_call hk
    obtain ⟨x1, x2, x3⟩ := compXs_sound R1.slot hca hxs
    have hargs : #[] ++ (cc.args.map a1.eval) ++ #[] = (cc.args.toList.map a1.eval).toArray := by
      have h1 : #[] ++ (cc.args.map a1.eval) ++ #[] = cc.args.map a1.eval := by simp
      rw [h1]
      exact Array.ext' (by rw [Array.toList_map])
    have hres : (resolve a1.eval cc o.type).run P w1 = .ok { target := .fn (.func f) #[], args := #[] ++ cc.args.map a1.eval } w1 := by
      simp only [resolve, hcal, Deferred.ofValue, Act.eval]
      rfl
    have hrun : (execOp a1.eval o).run P w1 = .ok (.enter f (cc.args.toList.map a1.eval).toArray) w1 := by
      simp only [execOp, hop, Sem.run_bind, hres, Result.andThen_ok, invoke]
      rw [bodied_run hb, hargs]
    unfold Oper.wp
    rw [hrun, Oper.upon_enter]
    obtain ⟨fn, c', hf, hbd, hc', hr', rfl, hG'⟩ := fnComp_some hfc
    let vs := cc.args.toList.map a1.eval
    let I1 : Fri := ⟨I0.I0, I0.fr, fun t => slotV { w := w1, mem := s1.mem, hd := hd1, gen := s1.gen, I0 := fun b => I0 b ∨ w0.w.heap.size ≤ b, gh := I0.gh } a1 (t - gst)⟩
    have L1 := Later.regh { w := w1, mem := s1.mem, hd := hd1, gen := s1.gen, I0 := fun b => I0 b ∨ w0.w.heap.size ≤ b, gh := I0.gh } I1.gh
    have R' : Rep w0 I1 fn.ntmps (inSt xs s1) { tmps := vs.toArray ++ Array.replicate (fn.ntmps - vs.toArray.size) undef, defers := [] } w1 hd1 := by
      have hvl : vs.length = xs.length := by simpa [vs] using x1
      refine ⟨R1.mem.regh _, rfl, by simp; omega, hG', fun t p ht => ?_, R1.frame⟩
      simp only [inSt] at ht
      rw [lk_app, zip_look] at ht
      cases ha : xs[t]? with
      | some q =>
        rw [ha] at ht
        simp only [Option.or] at ht
        injection ht with ht; subst ht
        have hlt := (List.getElem?_eq_some_iff.1 ha).1
        have hvt : vs[t]? = some vs[t] := List.getElem?_eq_getElem (by omega)
        refine ⟨.inl (by omega), ?_⟩
        rw [slotV_lt (by omega)]
        have : (vs.toArray ++ Array.replicate (fn.ntmps - vs.toArray.size) undef).getD t undef = vs[t] := by
          rw [Array.getD_eq_getD_getElem?, Array.getElem?_append_left (by simp; omega)]
          simp [hvt]
        simp only
        rw [this]
        have hv2 : cc.args.toList[t]? = some cc.args.toList[t] := List.getElem?_eq_getElem (by omega)
        have := x3 t _ _ hv2 ha
        simp only [vs, List.getElem_map]
        exact L1.rv this
      | none =>
        rw [ha] at ht
        simp only [Option.or] at ht
        rw [look_shift] at ht
        split at ht
        · rename_i hgt
          refine ⟨.inr hgt, ?_⟩
          rw [slotV_ge hgt]
          exact L1.rv (R1.slot _ _ ht).2
        · cases ht
    refine calls_of_wp hf hbd (wp_mono (hev w0 I1 c' _ w1 hd1 hc' R') ?_)
    intro e a2 w2 hp
    have fin : (∃ s2 hd2, Rep w0 I1 fn.ntmps s2 a2 w2 hd2 ∧ ∃ s3, Wk s2 s3 ∧ ∃ qs, resRs s3 lrs = some qs ∧ W P (los.drop (i + 1)) [] (outSt d (resOne qs) (s1.slots.map (·.1)) s3) fun _ s => Q .normal s) →
        a2.defers = [] ∧ ∃ v, (results fn a2.tmps).run P w2 = .ok v w2 ∧ wpOps P ops (postOf w0 I0 N Q) (List.range' (i + 1) (ops.size - i - 1)) (a1.put o.dst v) w2 := by
      rintro ⟨s2', hd2', R2', s2, hwk, qs, hq, hW⟩
      obtain ⟨hd2, R2⟩ := hwk _ _ _ _ _ _ R2'
      obtain ⟨v, k1, k2⟩ := resultsR_run R2 hr' hq
      refine ⟨R2.defers, v, k1, ?_⟩
      have L2 := Later.regh { w := w2, mem := s2.mem, hd := hd2, gen := s2.gen, I0 := fun b => I0 b ∨ w0.w.heap.size ≤ b, gh := I1.gh } I0.gh
      have R3 : Rep w0 I0 N (outSt d (resOne qs) (s1.slots.map (·.1)) s2) (a1.put o.dst v) w2 hd2 := by
        rw [hdst]
        refine ⟨R2.mem.regh _, R1.defers, by simpa [Act.put] using R1.size, R1.top, fun t p ht => ?_, R2.frame⟩
        simp only [outSt] at ht
        by_cases hdt : d = t
        · subst hdt
          rw [look_same] at ht
          injection ht with ht; subst ht
          refine ⟨.inl hdN, ?_⟩
          rw [slotV_lt (Nat.lt_of_lt_of_le hdN R1.top), getD_put (by rw [R1.size]; exact hdN), if_pos rfl]
          exact L2.rv k2
        · rw [look_ne _ _ hdt] at ht
          obtain ⟨hin, q, hq2, rfl⟩ := look_fm (fun t => look s2.slots (gst + t)) (fun q : PV => q) _ _ _ ht
          rw [List.mem_map] at hin
          obtain ⟨x, hx, hxt⟩ := hin
          obtain ⟨px, hpx⟩ := mem_lk (n := x.1) (e := x.2) hx
          rw [hxt] at hpx
          refine ⟨(R1.slot t px hpx).1, ?_⟩
          have h5 := L2.rv (R2.slot _ _ hq2).2
          rw [slotV_ge (Nat.le_add_right _ _)] at h5
          simp only [I1, Nat.add_sub_cancel_left] at h5
          show RV _ (slotV _ (a1.put (some d) v) t) _
          unfold slotV at h5 ⊢
          rw [getD_put (by rw [R1.size]; exact hdN), if_neg hdt]
          exact h5
      obtain ⟨Γ', hW⟩ := hW
      split at hW
      case h_2 => exact hW.elim
      rename_i s3 ls3 hs3
      refine plain_sound (Γ := Γ') hlos (st' := s3) (fun a' w' hd' R' => ⟨s3, hd', R', hW⟩) (ops.size - i - 1) (i + 1) _ _ _ hd2 (by omega) R3 (stepsL_steps hs3)
    cases e <;> simp only [postOf, bodyPost] at hp ⊢
    · exact fin hp
    · obtain ⟨_, _, _, h⟩ := hp; exact h
    · exact fin hp
  all_goals (first | (simp only [Option.map_eq_some_iff] at hc; obtain ⟨_, _, h⟩ := hc; cases h) | (split at hc <;> simp at hc) | (cases hc))
/-- all returns of a callee meet -/
theorem Ev.retJ {L : LCode} {γ : Type} (S : γ → St) (G : γ → Prop) {R : St → Prop} (h : Ev P N L st fun e s => match e with | .exit _ => False | _ => ∃ v, G v ∧ Wk s (S v)) (k : ∀ v, G v → R (S v)) :
    Ev P N L st fun e s => match e with | .exit _ => False | _ => ∃ s3, Wk s s3 ∧ R s3 := by
  refine h.mono fun e s hs => ?_
  cases e <;> simp only at hs ⊢
  · obtain ⟨v, h1, h2⟩ := hs; exact ⟨_, h2, k v h1⟩
  · obtain ⟨v, h1, h2⟩ := hs; exact ⟨_, h2, k v h1⟩
end
end
end Go.PW
