/-
  PwInl: a call that is walked on the spot.
-/
import Derived.Test.YtjmmlddioeehbaaGreatDoorPwDec
namespace Go.PW
open Go.RowKit
noncomputable section
theorem compBuiltin_call {P : Program} {b : Builtin} {ts : List TypeId} {as : List Operand} {f : FuncId} {ls : List LX} (h : compBuiltin P b ts as = some (.call f ls)) : False := by
  unfold compBuiltin at h
  split at h
  · split at h
    · simp [Option.map_eq_some_iff] at h
    · simp [Option.map_eq_some_iff] at h
    · cases h
  · split at h
    · split at h
      · obtain ⟨_, _, _, _, h⟩ := comp2_some h; cases h
      · cases h
    · cases h
  · split at h
    · split at h
      · obtain ⟨_, _, _, _, h⟩ := comp2_some h; cases h
      · cases h
    · cases h
  · split at h
    · simp at h
    · cases h
  · obtain ⟨_, _, _, _, h⟩ := comp2_some h; cases h
  · obtain ⟨_, _, _, _, h⟩ := comp2_some h; cases h
  · cases h
theorem compK_call {P : Program} {op : Op} {f : FuncId} {as : List LX} (h : compK P op = some (.call f as)) : ∃ c, op = .call c ∧ c.callee = .value (.func f) ∧ bodied P f = true ∧ compXs c.args.toList = some as := by
  cases op with
  | call c =>
    simp only [compK] at h
    split at h
    · rename_i g hc
      split at h
      · rename_i hb
        simp only [Option.map_eq_some_iff, LOp.call.injEq] at h
        obtain ⟨ls, h1, h2, h3⟩ := h
        subst h2 h3
        exact ⟨c, rfl, hc, hb, h1⟩
      · cases h
    · split at h
      · simp at h
      · cases h
    · exact (compBuiltin_call h).elim
    · cases h
  | binOp op t x y u =>
    simp only [compK] at h
    split at h
    · split at h <;> simp at h
    split at h
    · split at h <;> simp at h
    simp only [compBin] at h
    split at h
    · obtain ⟨_, _, _, _, h⟩ := comp2_some h; cases h
    · split at h
      · split at h
        · obtain ⟨_, _, _, _, h⟩ := comp2_some h; cases h
        · split at h
          · obtain ⟨_, _, _, _, h⟩ := comp2_some h; cases h
          · cases h
      · split at h
        · obtain ⟨_, _, _, _, h⟩ := comp2_some h; cases h
        · split at h
          · obtain ⟨_, _, _, _, h⟩ := comp2_some h; cases h
          · cases h
      · cases h
  | indexAddr t x i =>
    simp only [compK] at h
    split at h
    · obtain ⟨_, _, _, _, h⟩ := comp2_some h; cases h
    · obtain ⟨_, _, _, _, h⟩ := comp2_some h; cases h
    · cases h
  | index t x i =>
    simp only [compK] at h
    split at h
    · obtain ⟨_, _, _, _, h⟩ := comp2_some h; cases h
    · split at h
      · obtain ⟨_, _, _, _, h⟩ := comp2_some h; cases h
      · cases h
  | convert src dst x =>
    simp only [compK] at h
    split at h
    · simp at h
    · split at h <;> simp at h
  | build t parts =>
    simp only [compK] at h
    split at h
    · split at h
      · simp [Option.map_eq_some_iff] at h
      · cases h
    · split at h
      · simp [Option.map_eq_some_iff] at h
      · cases h
    · cases h
  | slice t x lo hi mx =>
    cases mx with
    | some m => simp [compK] at h
    | none =>
      simp only [compK] at h
      split at h
      · split at h
        · simp at h
        · simp [Option.map_eq_some_iff] at h
        · cases h
      · cases h
  | makeFunc fv a b =>
    cases fv with
    | func f =>
      simp only [compK] at h
      split at h <;> simp at h
    | _ => simp [compK] at h
  | _ =>
    simp only [compK, reduceCtorEq] at h
    all_goals (first | (cases h; done) | (simp [Option.map_eq_some_iff] at h; done) | (split at h <;> first | (cases h; done) | (simp [Option.map_eq_some_iff] at h; done) | (split at h <;> first | (cases h; done) | (simp [Option.map_eq_some_iff] at h; done))))
theorem compBuiltin_callv {P : Program} {b : Builtin} {ts : List TypeId} {as : List Operand} {x : LX} {ls : List LX} (h : compBuiltin P b ts as = some (.callv x ls)) : False := by
  unfold compBuiltin at h
  split at h
  · split at h
    · simp [Option.map_eq_some_iff] at h
    · simp [Option.map_eq_some_iff] at h
    · cases h
  · split at h
    · split at h
      · obtain ⟨_, _, _, _, h⟩ := comp2_some h; cases h
      · cases h
    · cases h
  · split at h
    · split at h
      · obtain ⟨_, _, _, _, h⟩ := comp2_some h; cases h
      · cases h
    · cases h
  · split at h
    · simp at h
    · cases h
  · obtain ⟨_, _, _, _, h⟩ := comp2_some h; cases h
  · obtain ⟨_, _, _, _, h⟩ := comp2_some h; cases h
  · cases h
theorem compK_callv {P : Program} {op : Op} {x : LX} {as : List LX} (h : compK P op = some (.callv x as)) : ∃ c y, op = .call c ∧ c.callee = .value y ∧ compX y = some x ∧ compXs c.args.toList = some as := by
  cases op with
  | call c =>
    simp only [compK] at h
    split at h
    · split at h
      · simp [Option.map_eq_some_iff] at h
      · cases h
    · rename_i y hc
      split at h
      · rename_i x' as' h1 h2
        simp only [Option.some.injEq, LOp.callv.injEq] at h
        obtain ⟨rfl, rfl⟩ := h
        exact ⟨c, _, rfl, hc, h1, h2⟩
      · cases h
    · exact (compBuiltin_callv h).elim
    · cases h
  | binOp op t x y u =>
    simp only [compK] at h
    split at h
    · split at h <;> simp at h
    split at h
    · split at h <;> simp at h
    simp only [compBin] at h
    split at h
    · obtain ⟨_, _, _, _, h⟩ := comp2_some h; cases h
    · split at h
      · split at h
        · obtain ⟨_, _, _, _, h⟩ := comp2_some h; cases h
        · split at h
          · obtain ⟨_, _, _, _, h⟩ := comp2_some h; cases h
          · cases h
      · split at h
        · obtain ⟨_, _, _, _, h⟩ := comp2_some h; cases h
        · split at h
          · obtain ⟨_, _, _, _, h⟩ := comp2_some h; cases h
          · cases h
      · cases h
  | indexAddr t x i =>
    simp only [compK] at h
    split at h
    · obtain ⟨_, _, _, _, h⟩ := comp2_some h; cases h
    · obtain ⟨_, _, _, _, h⟩ := comp2_some h; cases h
    · cases h
  | index t x i =>
    simp only [compK] at h
    split at h
    · obtain ⟨_, _, _, _, h⟩ := comp2_some h; cases h
    · split at h
      · obtain ⟨_, _, _, _, h⟩ := comp2_some h; cases h
      · cases h
  | convert src dst x =>
    simp only [compK] at h
    split at h
    · simp at h
    · split at h <;> simp at h
  | build t parts =>
    simp only [compK] at h
    split at h
    · split at h
      · simp [Option.map_eq_some_iff] at h
      · cases h
    · split at h
      · simp [Option.map_eq_some_iff] at h
      · cases h
    · cases h
  | slice t x lo hi mx =>
    cases mx with
    | some m => simp [compK] at h
    | none =>
      simp only [compK] at h
      split at h
      · split at h
        · simp at h
        · simp [Option.map_eq_some_iff] at h
        · cases h
      · cases h
  | makeFunc fv a b =>
    cases fv with
    | func f =>
      simp only [compK] at h
      split at h <;> simp at h
    | _ => simp [compK] at h
  | _ =>
    simp only [compK, reduceCtorEq] at h
    all_goals (first | (cases h; done) | (simp [Option.map_eq_some_iff] at h; done) | (split at h <;> first | (cases h; done) | (simp [Option.map_eq_some_iff] at h; done) | (split at h <;> first | (cases h; done) | (simp [Option.map_eq_some_iff] at h; done))))
inductive Enters (P : Program) (sl : List (Nat × PV)) : LOp → FuncId → List PV → Prop
  | call {f : FuncId} {as : List LX} {xs : List PV} (h : lxs sl as = some xs) : Enters P sl (.call f as) f xs
  | callv {f : FuncId} {fs cs ys : List PV} {x : LX} {as : List LX} (hb : bodied P f = true) (h : lxs sl (x :: as) = some (.fn f fs cs :: ys)) : Enters P sl (.callv x as) f (fs ++ ys ++ cs)
section
variable {P : Program} {N : Nat} {w0 : Base} {w : World} {I0 : Fri} {st : St} {a : Act} {hd : Nat → Value}
theorem enters_run {o : Oper} {k : LOp} {f : FuncId} {xs : List PV} (R : Rep w0 I0 N st a w hd) (hk : compK P o.op = some k) (E : Enters P st.slots k f xs) :
    ∃ vs : List Value, (execOp a.eval o).run P w = .ok (.enter f vs.toArray) w ∧ vs.length = xs.length ∧
      ∀ (t : Nat) (v : Value) (p : PV), vs[t]? = some v → xs[t]? = some p → RV { w := w, mem := st.mem, hd := hd, gen := st.gen, I0 := fun b => I0 b ∨ w0.w.heap.size ≤ b, gh := I0.gh } v p := by
  cases E with
  | call h =>
    obtain ⟨cc, hop, hcal, hb, hca⟩ := compK_call hk
    obtain ⟨x1, x2, x3⟩ := compXs_sound R.mem R.slot hca h
    refine ⟨cc.args.toList.map a.eval, ?_, by simpa using x1, fun t v p h1 h2 => ?_⟩
    · have hargs : #[] ++ (cc.args.map a.eval) ++ #[] = (cc.args.toList.map a.eval).toArray := by
        have h1 : #[] ++ (cc.args.map a.eval) ++ #[] = cc.args.map a.eval := by simp
        rw [h1]
        exact Array.ext' (by rw [Array.toList_map])
      have hres : (resolve a.eval cc o.type).run P w = .ok { target := .fn (.func f) #[], args := #[] ++ cc.args.map a.eval } w := by
        simp only [resolve, hcal, Deferred.ofValue, Act.eval]
        rfl
      simp only [execOp, hop, Sem.run_bind, hres, Result.andThen_ok, invoke]
      rw [bodied_run hb, hargs]
    · rw [List.getElem?_map, Option.map_eq_some_iff] at h1
      obtain ⟨x, hx, rfl⟩ := h1
      exact x3 t x p hx h2
  | callv hb h =>
    rename_i first caps ps x as
    obtain ⟨cc, y, hop, hcal, hy, hca⟩ := compK_callv hk
    obtain ⟨p, ps', he, g1, g2⟩ := lxs_cons h
    injection he with e1 e2
    subst e1 e2
    have hr := x_sound R.mem R.slot hy g1
    obtain ⟨e1, e2, e3⟩ := compXs_sound R.mem R.slot hca g2
    have hfn : ∃ vf vc : Array Value, a.eval y = .func (.func f) vf vc ∧ vf.size = first.length ∧ vc.size = caps.length ∧
        (∀ (j : Nat) (v : Value) (p : PV), vf[j]? = some v → first[j]? = some p → RV { w := w, mem := st.mem, hd := hd, gen := st.gen, I0 := fun b => I0.I0 b ∨ w0.w.heap.size ≤ b, gh := I0.gh } v p) ∧ (∀ (j : Nat) (v : Value) (p : PV), vc[j]? = some v → caps[j]? = some p → RV { w := w, mem := st.mem, hd := hd, gen := st.gen, I0 := fun b => I0.I0 b ∨ w0.w.heap.size ≤ b, gh := I0.gh } v p) := by
      generalize hv : a.eval y = v at hr
      cases hr with
      | data _ _ h => cases h with | fn _ vf vc _ _ h1 h2 h3 h4 => exact ⟨vf, vc, rfl, h1, h2, fun j v p a1 a2 => .data _ _ (h3 j v p a1 a2), fun j v p a1 a2 => .data _ _ (h4 j v p a1 a2)⟩
      | fn _ vf vc _ _ h1 h2 h3 h4 => exact ⟨vf, vc, rfl, h1, h2, h3, h4⟩
    obtain ⟨vf, vc, hv, h1, h2, h3, h4⟩ := hfn
    refine ⟨vf.toList ++ cc.args.toList.map a.eval ++ vc.toList, ?_, by simp at e1 ⊢; omega, fun j v p hj hp => ?_⟩
    · have hres : (resolve a.eval cc o.type).run P w = .ok { target := .fn (.func f) vc, args := vf ++ cc.args.map a.eval } w := by
        simp only [resolve, hcal, Deferred.ofValue, hv]
        rfl
      simp only [execOp, hop, Sem.run_bind, hres, Result.andThen_ok, invoke]
      rw [bodied_run hb]
      congr 2
      simp
    · by_cases k1 : j < first.length
      · rw [List.append_assoc, List.getElem?_append_left (by simpa using (show j < vf.size by omega))] at hj
        rw [List.append_assoc, List.getElem?_append_left k1] at hp
        exact h3 j v p (by simpa using hj) hp
      · by_cases k2 : j < first.length + ps.length
        · rw [List.append_assoc, List.getElem?_append_right (by simp; omega), List.getElem?_append_left (by simp at e1 ⊢; omega)] at hj
          rw [List.append_assoc, List.getElem?_append_right (by omega), List.getElem?_append_left (by omega)] at hp
          rw [List.getElem?_map, Option.map_eq_some_iff] at hj
          obtain ⟨y, hy, rfl⟩ := hj
          refine e3 (j - first.length) y p ?_ hp
          rw [← hy]; congr 1; simp [h1]
        · rw [List.getElem?_append_right (by simp at e1 ⊢; omega)] at hj
          rw [List.getElem?_append_right (by simp; omega)] at hp
          refine h4 (j - (first.length + ps.length)) v p ?_ (by rw [← hp]; congr 1; simp)
          rw [← Array.getElem?_toList, ← hj]; congr 1
          simp at e1 ⊢; omega
end
section
variable {P : Program} {Γ : List (Nat × Fact P)} {N : Nat} {w0 : Base} {w : World} {I0 : Fri} {st st' : St} {a : Act} {hd : Nat → Value} {Q : Exit → Act → World → Prop}
theorem plain_pre {ops : Array Oper} {los : List LOper} (hc : compOpers P N ops.toList ops.toList = some los) {m : Nat} :
    ∀ (n k : Nat) (st : St) (a : Act) (w : World) (hd : Nat → Value), k + n + m = ops.size → Rep w0 I0 N st a w hd → steps Γ ((los.drop k).take n) st = some st' →
      (∀ a' w' hd', Rep w0 I0 N st' a' w' hd' → wpOps P ops Q (List.range' (k + n) m) a' w') → wpOps P ops Q (List.range' k (n + m)) a w
  | 0, k, st, a, w, hd, hk, R, hs, hQ => by
    simp [steps] at hs; subst hs
    simpa using hQ a w hd R
  | n + 1, k, st, a, w, hd, hk, R, hs, hQ => by
    obtain ⟨e1, e2⟩ := compOpers_get hc
    have hkl : k < los.length := by rw [← e1]; simp; omega
    rw [List.drop_eq_getElem_cons hkl, List.take_succ_cons] at hs
    unfold steps at hs
    split at hs
    case h_2 => cases hs
    rename_i st1 h1
    have hko : k < ops.size := by omega
    have ho : ops[k]? = some ops[k] := Array.getElem?_eq_getElem hko
    rw [show n + 1 + m = (n + m) + 1 by omega, List.range'_succ, wpOps_cons]
    unfold wpOp
    rw [ho]
    exact step_sound R (e2 k _ _ (by simp [hko]) (List.getElem?_eq_getElem hkl)) h1 fun a' w' hd' R' =>
      plain_pre hc n (k + 1) st1 a' w' hd' (by omega) R' hs fun a'' w'' hd'' R'' => by
        have := hQ a'' w'' hd'' R''
        rwa [show k + (n + 1) = k + 1 + n by omega] at this
end
attribute [local irreducible] gst
def inSt (xs : List PV) (s : St) : St := { slots := (xs.zipIdx.map fun x => (x.2, x.1)) ++ s.slots.map fun x => (gst + x.1, x.2), mem := s.mem, gen := s.gen }
def outSt (d : Nat) (p : PV) (ts : List Nat) (s : St) : St := { slots := (d, p) :: ts.filterMap fun t => (look s.slots (gst + t)).map fun q => (t, q), mem := s.mem, gen := s.gen }
theorem look_shift (l : List (Nat × PV)) (t : Nat) : look (l.map fun x => (gst + x.1, x.2)) t = if gst ≤ t then look l (t - gst) else none := by
  induction l with
  | nil => simp [look]
  | cons x l ih =>
    simp only [List.map_cons, look, ih]
    by_cases h : gst ≤ t
    · simp only [if_pos h]
      by_cases h2 : gst + x.1 = t
      · rw [if_pos h2, if_pos (by omega)]
      · rw [if_neg h2, if_neg (by omega)]
    · simp only [if_neg h]
      rw [if_neg (by omega)]
section
variable {P : Program} {N : Nat} {st : St}
def gdOn (st : St) : Option (Nat × Bool) → Prop
  | none => True
  | some (t, b) => look st.slots t = some (.bool b)
def gdOff (st : St) : Option (Nat × Bool) → Prop
  | none => False
  | some (t, b) => look st.slots t = some (.bool (!b)) ∨ look st.slots t = some (.tup [])
theorem wanted_of {w0 : Base} {w : World} {I0 : Fri} {a : Act} {hd : Nat → Value} {ops : Array Oper} {o : Oper} {gd : Option (Nat × Bool)} (R : Rep w0 I0 N st a w hd) (hg : compGuard ops.toList o.guard = some gd) :
    (gdOn st gd → Region.wanted o (yielded ops a.tmps) = true) ∧ (gdOff st gd → Region.wanted o (yielded ops a.tmps) = false) := by
  unfold compGuard at hg
  split at hg
  · rename_i hgd
    injection hg with hg; subst hg
    exact ⟨fun _ => by simp [Region.wanted, hgd], fun h => h.elim⟩
  · rename_i j b hgd
    split at hg
    case h_2 => cases hg
    rename_i oj hoj
    split at hg
    case h_2 => cases hg
    rename_i d hdj
    split at hg
    case isFalse => cases hg
    rename_i hdg
    injection hg with hg; subst hg
    have hy : ∀ v, a.tmps.getD d undef = v → d < N → yielded ops a.tmps j = match v with | .bool b => some b | _ => none := by
      intro v hv hlt
      have h1 : ops[j]? = some oj := by simpa using hoj
      have h2 : a.tmps[d]? = some v := by
        rw [← hv]
        have : d < a.tmps.size := by rw [R.size]; exact hlt
        simp [this]
      simp [yielded, h1, hdj, h2]
      cases v <;> rfl
    refine ⟨fun h => ?_, fun h => ?_⟩
    · obtain ⟨hlt, hrv⟩ := R.slot.real h hdg
      have hyc := hy _ hrv.bool_inv hlt
      simp only at hyc
      simp [Region.wanted, hgd, hyc]
    · rcases h with h | h
      · obtain ⟨hlt, hrv⟩ := R.slot.real h hdg
        have hyc := hy _ hrv.bool_inv hlt
        simp only at hyc
        simp [Region.wanted, hgd, hyc]
      · obtain ⟨hlt, hrv⟩ := R.slot.real h hdg
        obtain ⟨vs, hv, _⟩ := hrv.tup_inv
        have hyc := hy _ hv hlt
        simp only at hyc
        simp [Region.wanted, hgd, hyc]
def Sq (P : Program) (N : Nat) (g : LReg) (i : Nat) (st : St) (Q : St → Prop) : Prop :=
  ∀ (w0 : Base) (I0 : Fri) (ops : Array Oper) (Q' : Exit → Act → World → Prop) (a : Act) (w : World) (hd : Nat → Value), compOpers P N ops.toList ops.toList = some g.los → Rep w0 I0 N st a w hd →
    (∀ s a' w' hd', Q s → Rep w0 I0 N s a' w' hd' → Q' .normal a' w') → wpOps P ops Q' (List.range' i (ops.size - i)) a w
theorem Ev.regS {g : LReg} {Q : Ex → St → Prop} (hdr : g.draw = false) (h : Sq P N g 0 st (fun s => Q .normal s)) : Ev P N (.reg g) st Q := by
  intro w0 I0 c a w hd hc R
  cases c <;> simp only [compCode, reduceCtorEq] at hc
  case region id ops draw =>
    simp only [Option.map_eq_some_iff] at hc
    obtain ⟨g', h1, h2⟩ := hc
    injection h2 with h2; subst h2
    unfold compRegion at h1
    split at h1
    case h_1 => cases h1
    rename_i los hlos
    cases draw
    case true =>
      simp only [if_true] at h1
      split at h1
      · injection h1 with h1; subst h1; cases hdr
      · cases h1
    case false =>
    simp only [Bool.false_eq_true, if_false, Option.some.injEq] at h1
    subst h1
    refine wp_region ?_
    rw [List.range_eq_range']
    exact h w0 I0 ops _ a w hd hlos R (fun s a' w' hd' q R' => ⟨s, hd', R', q⟩)
  all_goals (first | (simp only [Option.map_eq_some_iff] at hc; obtain ⟨_, _, h⟩ := hc; cases h) | (split at hc <;> simp at hc) | (cases hc))
theorem Sq.w {g : LReg} {i : Nat} {Q : St → Prop} (k : Nat) (hk : i + k ≤ g.los.length) (h : W P ((g.los.drop i).take k) [] st fun _ s => Sq P N g (i + k) s Q) : Sq P N g i st Q := by
  intro w0 I0 ops Q' a w hd hc R hQ
  obtain ⟨Γ, h⟩ := h
  split at h
  case h_2 => exact h.elim
  rename_i s1 ls hs1
  obtain ⟨e1, _⟩ := compOpers_get hc
  have hsz : g.los.length = ops.size := by rw [← e1]; simp
  rw [show ops.size - i = k + (ops.size - i - k) by omega]
  refine plain_pre (Γ := Γ) (m := ops.size - i - k) hc k i st a w hd (by omega) R (stepsL_steps hs1) fun a' w' hd' R' => ?_
  have := h w0 I0 ops Q' a' w' hd' hc R' hQ
  rwa [show ops.size - (i + k) = ops.size - i - k by omega] at this
theorem Sq.wEnd {g : LReg} {i : Nat} {Q : St → Prop} (hi : i ≤ g.los.length) (h : W P (g.los.drop i) [] st fun _ s => Q s) : Sq P N g i st Q := by
  intro w0 I0 ops Q' a w hd hc R hQ
  obtain ⟨Γ, h⟩ := h
  split at h
  case h_2 => exact h.elim
  rename_i s1 ls hs1
  obtain ⟨e1, _⟩ := compOpers_get hc
  have hsz : g.los.length = ops.size := by rw [← e1]; simp
  exact plain_sound (Γ := Γ) hc (w0 := w0) (I0 := I0) (st' := s1) (fun a' w' hd' R' => hQ _ _ _ _ h R') (ops.size - i) i _ _ _ hd (by omega) R (stepsL_steps hs1)
theorem Sq.weak {g : LReg} {i : Nat} {Q : St → Prop} {st' : St} (h : Sq P N g i st' Q) (hw : Wk st st') : Sq P N g i st Q := by
  intro w0 I0 ops Q' a w hd hc R hQ
  obtain ⟨hd', R'⟩ := hw _ _ _ _ _ _ R
  exact h w0 I0 ops Q' a w hd' hc R' hQ
theorem Sq.inl {N' : Nat} {L' : LCode} {lrs : List LRes} {g : LReg} {i d : Nat} {f : FuncId} {k0 : LOp} {gd : Option (Nat × Bool)} {Q : St → Prop} (hi : g.los[i]? = some ⟨some d, gd, k0⟩) (hfc : fnComp P f = some (N', L', lrs))
    (h : (gdOn st gd ∧ ∃ xs, Enters P st.slots k0 f xs ∧ xs.length ≤ N' ∧
      Ev P N' L' (inSt xs st) fun e s2 => match e with | .exit _ => False | _ => ∃ s3, Wk s2 s3 ∧ ∃ qs, resRs s3 lrs = some qs ∧ Sq P N g (i + 1) (outSt d (resOne qs) (st.slots.map (·.1)) s3) Q) ∨
      (gdOff st gd ∧ Sq P N g (i + 1) { st with slots := (d, .tup []) :: st.slots } Q)) : Sq P N g i st Q := by
  intro w0 I0 ops Q' a w hd hc R hQ
  obtain ⟨e1, e2⟩ := compOpers_get hc
  have hil : i < g.los.length := (List.getElem?_eq_some_iff.1 hi).1
  have hsz : g.los.length = ops.size := by rw [← e1]; simp
  rw [show ops.size - i = (ops.size - i - 1) + 1 by omega, List.range'_succ, wpOps_cons]
  unfold wpOp
  have hio : i < ops.size := by omega
  have ho : ops[i]? = some ops[i] := Array.getElem?_eq_getElem hio
  rw [ho]
  simp only
  have hco := e2 i ops[i] _ (by simp [hio]) hi
  generalize hoo : ops[i] = o at hco
  unfold compOper at hco
  split at hco
  case h_2 => cases hco
  rename_i gg hg
  obtain ⟨kk, hk0⟩ : ∃ k, k = (compK P o.op).getD .bad := ⟨_, rfl⟩
  rw [← hk0] at hco
  have hinv : o.dst = some d ∧ d < N ∧ gg = gd ∧ kk = k0 := by
    split at hco
    · rename_i d' hd'
      split at hco
      · rename_i hlt
        injection hco with hco; injection hco with h3 h4 h5
        injection h3 with h3; subst h3
        exact ⟨hd', hlt, h4, h5⟩
      · cases hco
    · injection hco with hco; injection hco with h3 _ _; cases h3
  obtain ⟨hdst, hdN, rfl, rfl⟩ := hinv
  obtain ⟨hon, hoff⟩ := wanted_of R hg
  rcases h with ⟨hg1, xs, E, hxl, hev⟩ | ⟨hg1, hW⟩
  case inr =>
    rw [if_neg (by simp [hoff hg1])]
    have R3 : Rep w0 I0 N { st with slots := (d, .tup []) :: st.slots } (a.put o.dst undef) w hd := by
      have := R.put (d := o.dst) (p := .tup []) (v := undef) (fun x hx => by rw [hdst] at hx; injection hx with hx; subst hx; exact hdN) R.mem (Later.refl _) (.data _ _ (.tup #[] [] rfl (by simp)))
      rw [hdst] at this ⊢
      exact this
    exact hW w0 I0 ops Q' _ _ _ hc R3 hQ
  rw [if_pos (hon hg1)]
  refine .inl ?_
  have hk : compK P o.op = some kk := by
    cases h : compK P o.op with
    | none => rw [h] at hk0; subst hk0; cases E
    | some k' => rw [h] at hk0; rw [hk0]; rfl
  obtain ⟨vs, hrun, hvl, x3⟩ := enters_run R hk E
  unfold Oper.wp
  rw [hrun, Oper.upon_enter]
  obtain ⟨fn, c', hf, hbd, hc', hr', rfl, hG'⟩ := fnComp_some hfc
  let I1 : Fri := ⟨I0.I0, I0.fr, fun t => slotV { w := w, mem := st.mem, hd := hd, gen := st.gen, I0 := fun b => I0 b ∨ w0.w.heap.size ≤ b, gh := I0.gh } a (t - gst)⟩
  have L1 := Later.regh { w := w, mem := st.mem, hd := hd, gen := st.gen, I0 := fun b => I0 b ∨ w0.w.heap.size ≤ b, gh := I0.gh } I1.gh
  have R' : Rep w0 I1 fn.ntmps (inSt xs st) { tmps := vs.toArray ++ Array.replicate (fn.ntmps - vs.toArray.size) undef, defers := [] } w hd := by
    refine ⟨R.mem.regh _, rfl, by simp; omega, hG', fun t p ht => ?_, R.frame⟩
    simp only [inSt] at ht
    rw [lk_app, zip_look] at ht
    cases ha : xs[t]? with
    | some q =>
      rw [ha] at ht
      simp only [Option.or] at ht
      injection ht with ht; subst ht
      have hlt := (List.getElem?_eq_some_iff.1 ha).1
      have hvt : vs[t]? = some vs[t] := List.getElem?_eq_getElem (by omega)
      refine ⟨.inl (by omega), ?_⟩
      rw [slotV_lt (by omega)]
      have : (vs.toArray ++ Array.replicate (fn.ntmps - vs.toArray.size) undef).getD t undef = vs[t] := by
        rw [Array.getD_eq_getD_getElem?, Array.getElem?_append_left (by simp; omega)]
        simp [hvt]
      simp only
      rw [this]
      exact L1.rv (x3 t _ _ hvt ha)
    | none =>
      rw [ha] at ht
      simp only [Option.or] at ht
      rw [look_shift] at ht
      split at ht
      · rename_i hgt
        refine ⟨.inr hgt, ?_⟩
        rw [slotV_ge hgt]
        exact L1.rv (R.slot _ _ ht).2
      · cases ht
  refine calls_of_wp hf hbd (wp_mono (hev w0 I1 c' _ w hd hc' R') ?_)
  intro e a2 w2 hp
  have fin : (∃ s2 hd2, Rep w0 I1 fn.ntmps s2 a2 w2 hd2 ∧ ∃ s3, Wk s2 s3 ∧ ∃ qs, resRs s3 lrs = some qs ∧ Sq P N g (i + 1) (outSt d (resOne qs) (st.slots.map (·.1)) s3) Q) →
      a2.defers = [] ∧ ∃ v, (results fn a2.tmps).run P w2 = .ok v w2 ∧ wpOps P ops Q' (List.range' (i + 1) (ops.size - i - 1)) (a.put o.dst v) w2 := by
    rintro ⟨s2', hd2', R2', s2, hwk, qs, hq, hW⟩
    obtain ⟨hd2, R2⟩ := hwk _ _ _ _ _ _ R2'
    obtain ⟨v, k1, k2⟩ := resultsR_run R2 hr' hq
    refine ⟨R2.defers, v, k1, ?_⟩
    have L2 := Later.regh { w := w2, mem := s2.mem, hd := hd2, gen := s2.gen, I0 := fun b => I0 b ∨ w0.w.heap.size ≤ b, gh := I1.gh } I0.gh
    have R3 : Rep w0 I0 N (outSt d (resOne qs) (st.slots.map (·.1)) s2) (a.put o.dst v) w2 hd2 := by
      rw [hdst]
      refine ⟨R2.mem.regh _, R.defers, by simpa [Act.put] using R.size, R.top, fun t p ht => ?_, R2.frame⟩
      simp only [outSt] at ht
      by_cases hdt : d = t
      · subst hdt
        rw [look_same] at ht
        injection ht with ht; subst ht
        refine ⟨.inl hdN, ?_⟩
        rw [slotV_lt (Nat.lt_of_lt_of_le hdN R.top), getD_put (by rw [R.size]; exact hdN), if_pos rfl]
        exact L2.rv k2
      · rw [look_ne _ _ hdt] at ht
        obtain ⟨hin, q, hq2, rfl⟩ := look_fm (fun t => look s2.slots (gst + t)) (fun q : PV => q) _ _ _ ht
        rw [List.mem_map] at hin
        obtain ⟨x, hx, hxt⟩ := hin
        obtain ⟨px, hpx⟩ := mem_lk (n := x.1) (e := x.2) hx
        rw [hxt] at hpx
        refine ⟨(R.slot t px hpx).1, ?_⟩
        have h5 := L2.rv (R2.slot _ _ hq2).2
        rw [slotV_ge (Nat.le_add_right _ _)] at h5
        simp only [I1, Nat.add_sub_cancel_left] at h5
        show RV _ (slotV _ (a.put (some d) v) t) _
        unfold slotV at h5 ⊢
        rw [getD_put (by rw [R.size]; exact hdN), if_neg hdt]
        exact h5
    exact hW w0 I0 ops Q' _ _ _ hc R3 hQ
  cases e <;> simp only [postOf, bodyPost] at hp ⊢
  · exact fin hp
  · obtain ⟨_, _, _, h⟩ := hp; exact h
  · exact fin hp
theorem Sq.call {N' : Nat} {L' : LCode} {lrs : List LRes} {g : LReg} {i d : Nat} {f : FuncId} {as : List LX} {Q : St → Prop} (hi : g.los[i]? = some ⟨some d, none, .call f as⟩) (hfc : fnComp P f = some (N', L', lrs))
    (h : ∃ xs, lxs st.slots as = some xs ∧ xs.length ≤ N' ∧
      Ev P N' L' (inSt xs st) fun e s2 => match e with | .exit _ => False | _ => ∃ s3, Wk s2 s3 ∧ ∃ qs, resRs s3 lrs = some qs ∧ Sq P N g (i + 1) (outSt d (resOne qs) (st.slots.map (·.1)) s3) Q) : Sq P N g i st Q :=
  Sq.inl hi hfc (.inl ⟨trivial, let ⟨xs, h1, h2, h3⟩ := h; ⟨xs, .call h1, h2, h3⟩⟩)
theorem Sq.callv {N' : Nat} {L' : LCode} {lrs : List LRes} {g : LReg} {i d : Nat} {f : FuncId} {x : LX} {as : List LX} {Q : St → Prop} (hi : g.los[i]? = some ⟨some d, none, .callv x as⟩) (hb : bodied P f = true) (hfc : fnComp P f = some (N', L', lrs))
    (h : ∃ fs ys cs, lxs st.slots (x :: as) = some (.fn f fs cs :: ys) ∧ (fs ++ ys ++ cs).length ≤ N' ∧
      Ev P N' L' (inSt (fs ++ ys ++ cs) st) fun e s2 => match e with | .exit _ => False | _ => ∃ s3, Wk s2 s3 ∧ ∃ qs, resRs s3 lrs = some qs ∧ Sq P N g (i + 1) (outSt d (resOne qs) (st.slots.map (·.1)) s3) Q) : Sq P N g i st Q :=
  Sq.inl hi hfc (.inl ⟨trivial, let ⟨fs, ys, cs, h1, h2, h3⟩ := h; ⟨fs ++ ys ++ cs, .callv hb h1, h2, h3⟩⟩)
theorem Sq.callG {N' : Nat} {L' : LCode} {lrs : List LRes} {g : LReg} {i d gt : Nat} {gb : Bool} {f : FuncId} {as : List LX} {Q : St → Prop} (hi : g.los[i]? = some ⟨some d, some (gt, gb), .call f as⟩) (hfc : fnComp P f = some (N', L', lrs))
    (hg : look st.slots gt = some (.bool gb)) (h : ∃ xs, lxs st.slots as = some xs ∧ xs.length ≤ N' ∧
      Ev P N' L' (inSt xs st) fun e s2 => match e with | .exit _ => False | _ => ∃ s3, Wk s2 s3 ∧ ∃ qs, resRs s3 lrs = some qs ∧ Sq P N g (i + 1) (outSt d (resOne qs) (st.slots.map (·.1)) s3) Q) : Sq P N g i st Q :=
  Sq.inl hi hfc (.inl ⟨hg, let ⟨xs, h1, h2, h3⟩ := h; ⟨xs, .call h1, h2, h3⟩⟩)
theorem Sq.callvG {N' : Nat} {L' : LCode} {lrs : List LRes} {g : LReg} {i d gt : Nat} {gb : Bool} {f : FuncId} {x : LX} {as : List LX} {Q : St → Prop} (hi : g.los[i]? = some ⟨some d, some (gt, gb), .callv x as⟩) (hb : bodied P f = true) (hfc : fnComp P f = some (N', L', lrs))
    (hg : look st.slots gt = some (.bool gb)) (h : ∃ fs ys cs, lxs st.slots (x :: as) = some (.fn f fs cs :: ys) ∧ (fs ++ ys ++ cs).length ≤ N' ∧
      Ev P N' L' (inSt (fs ++ ys ++ cs) st) fun e s2 => match e with | .exit _ => False | _ => ∃ s3, Wk s2 s3 ∧ ∃ qs, resRs s3 lrs = some qs ∧ Sq P N g (i + 1) (outSt d (resOne qs) (st.slots.map (·.1)) s3) Q) : Sq P N g i st Q :=
  Sq.inl hi hfc (.inl ⟨hg, let ⟨fs, ys, cs, h1, h2, h3⟩ := h; ⟨fs ++ ys ++ cs, .callv hb h1, h2, h3⟩⟩)
theorem Sq.off {g : LReg} {i d gt : Nat} {gb : Bool} {k0 : LOp} {Q : St → Prop} (hi : g.los[i]? = some ⟨some d, some (gt, gb), k0⟩) (hg : look st.slots gt = some (.bool (!gb)) ∨ look st.slots gt = some (.tup []))
    (h : Sq P N g (i + 1) { st with slots := (d, .tup []) :: st.slots } Q) : Sq P N g i st Q := by
  refine Sq.w 1 (by have := (List.getElem?_eq_some_iff.1 hi).1; omega) ?_
  have hil := (List.getElem?_eq_some_iff.1 hi).1
  have e : (g.los.drop i).take 1 = [⟨some d, some (gt, gb), k0⟩] := by
    rw [List.drop_eq_getElem_cons hil, List.take_succ_cons, List.take_zero]
    rw [List.getElem?_eq_getElem hil] at hi
    injection hi with hi
    rw [hi]
  rw [e]
  refine ⟨[], ?_⟩
  rcases hg with hg | hg <;> simp only [stepsL, stepL, core, hg, Option.map_some]
  · have : ((!gb) = gb) = False := by cases gb <;> simp
    simp only [this, if_false]
    exact h
  · exact h
theorem lookT {sl : List (Nat × PV)} {t : Nat} {e b : Bool} (h : look sl t = some (.bool e)) (c : e = b) : look sl t = some (.bool b) := by rw [h, c]
theorem Ev.retJ {L : LCode} {γ : Type} (S : γ → St) (G : γ → Prop) {R : St → Prop} (h : Ev P N L st fun e s => match e with | .exit _ => False | _ => ∃ v, G v ∧ Wk s (S v)) (k : ∀ v, G v → R (S v)) :
    Ev P N L st fun e s => match e with | .exit _ => False | _ => ∃ s3, Wk s s3 ∧ R s3 := by
  refine h.mono fun e s hs => ?_
  cases e <;> simp only at hs ⊢
  · obtain ⟨v, h1, h2⟩ := hs; exact ⟨_, h2, k v h1⟩
  · obtain ⟨v, h1, h2⟩ := hs; exact ⟨_, h2, k v h1⟩
end
end
end Go.PW
