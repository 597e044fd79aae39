/-
  PwFn: a whole function; state changes that cost nothing.
-/
import Derived.Test.YtjmmlddioeehbaaGreatDoorPwCode
namespace Go.PW
open Go.RowKit
noncomputable section
section
variable {P : Program} {N : Nat} {st : St} {a : Act} {w : World} {w0 : Base} {hd : Nat → Value} {I0 : Fri}
def resVal (a : Act) : ResultVar → Sem Value
  | .tmp t => Pure.pure (a.tmps.getD t undef)
  | .cell b t => do loadVar t (← asAddr (a.tmps.getD b undef))
theorem ress_sound {V : Value → PV → Prop} {f : LRes → Option PV} (R : ∀ (rv : ResultVar) (lr : LRes) (p : PV), compRes P [rv] = some [lr] → f lr = some p →
      ∃ v, (match rv with | .tmp t => (Pure.pure (a.tmps.getD t undef) : Sem Value) | .cell b t => do loadVar t (← asAddr (a.tmps.getD b undef))).run P w = .ok v w ∧ V v p) {fs : List LRes → Option (List PV)}
      (f0 : fs [] = some []) (f1 : ∀ r l, fs (r :: l) = match f r, fs l with | some p, some ps => some (p :: ps) | _, _ => none) :
    ∀ {rvs : List ResultVar} {lrs : List LRes} {qs : List PV}, compRes P rvs = some lrs → fs lrs = some qs →
    ∃ vs : List Value, (rvs.mapM (resVal a)).run P w = .ok vs w ∧ vs.length = qs.length ∧
      ∀ (j : Nat) (v : Value) (q : PV), vs[j]? = some v → qs[j]? = some q → V v q
  | [], lrs, qs, hc, hq => by
    simp [compRes] at hc; subst hc
    rw [f0] at hq
    simp at hq; subst hq
    exact ⟨[], by simp, rfl, by simp⟩
  | rv :: rvs, lrs, qs, hc, hq => by
    have hsplit : ∃ lr lrs', lrs = lr :: lrs' ∧ compRes P [rv] = some [lr] ∧ compRes P rvs = some lrs' := by
      cases rv with
      | tmp t =>
        simp only [compRes] at hc
        split at hc
        case isFalse => cases hc
        rename_i ht
        simp only [Option.map_eq_some_iff] at hc
        obtain ⟨l, h1, rfl⟩ := hc
        exact ⟨_, l, rfl, by simp [compRes, ht], h1⟩
      | cell b ty =>
        simp only [compRes] at hc
        split at hc
        case isFalse => cases hc
        rename_i ht
        split at hc
        · rename_i n ag l h1 h2 h3
          injection hc with hc; subst hc
          exact ⟨_, l, rfl, by simp [compRes, h1, h2, ht], h3⟩
        · cases hc
    obtain ⟨lr, lrs', rfl, hc1, hc2⟩ := hsplit
    rw [f1] at hq
    split at hq
    case h_2 => cases hq
    rename_i q qs' h1 h2
    injection hq with hq; subst hq
    obtain ⟨v, g1, g2⟩ := R _ _ _ hc1 h1
    obtain ⟨vs, g3, g4, g5⟩ := ress_sound R f0 f1 hc2 h2
    refine ⟨v :: vs, ?_, by simp [g4], fun j u p hj hp => ?_⟩
    · have g1' : (resVal a rv).run P w = .ok v w := by cases rv <;> exact g1
      simp only [List.mapM_cons, Sem.run_bind, g1', Result.andThen_ok, g3, Sem.run_pure]
    · match j with
      | 0 => simp at hj hp; subst hj hp; exact g2
      | j + 1 => exact g5 j u p (by simpa using hj) (by simpa using hp)
theorem results_one {V : Value → PV → Prop} {fn : Func} {qs : List PV} {vs : List Value} (h1 : (fn.results.toList.mapM (resVal a)).run P w = .ok vs w) (h2 : vs.length = qs.length)
    (h3 : ∀ (j : Nat) (v : Value) (q : PV), vs[j]? = some v → qs[j]? = some q → V v q) (ht : ∀ (vs : Array Value), vs.size = qs.length → (∀ (j : Nat) (v : Value) (q : PV), vs[j]? = some v → qs[j]? = some q → V v q) → V (.tuple vs) (.tup qs)) :
    ∃ v, (results fn a.tmps).run P w = .ok v w ∧ V v (resOne qs) := by
  have hm : (fn.results.mapM (resVal a)).run P w = .ok vs.toArray w := by
    rw [Array.mapM_eq_mapM_toList]
    simp only [Sem.run_map, h1, Result.andThen_ok]
  have hrs : results fn a.tmps = (do let vs ← fn.results.mapM (resVal a); Pure.pure (if h : vs.size = 1 then vs[0] else .tuple vs)) := by
    unfold results
    congr 1
  rw [hrs]
  simp only [Sem.run_bind]
  rw [hm]
  simp only [Result.andThen_ok, Sem.run_pure]
  by_cases hone : vs.length = 1
  · obtain ⟨v, rfl⟩ := List.length_eq_one_iff.1 hone
    obtain ⟨q, hqs⟩ := List.length_eq_one_iff.1 (h2.symm.trans hone)
    subst hqs
    exact ⟨v, by simp, h3 0 v q (by simp) (by simp)⟩
  · refine ⟨.tuple vs.toArray, by simp [hone], ?_⟩
    have hro : resOne qs = .tup qs := by
      unfold resOne
      split
      · simp at h2; exact absurd h2 hone
      · rfl
    rw [hro]
    exact ht vs.toArray (by simpa using h2) fun j v p hj hp => h3 j v p (by simpa using hj) hp
theorem results_run {fn : Func} {lrs : List LRes} {qs : List PV} (R : Rep w0 I0 N st a w hd) (hc : compRes P fn.results.toList = some lrs) (hq : resDs st lrs = some qs) :
    ∃ v, (results fn a.tmps).run P w = .ok v w ∧ DV w (fun b => I0 b ∨ w0.w.heap.size ≤ b) v (resOne qs) := by
  obtain ⟨vs, h1, h2, h3⟩ := ress_sound (f := resD st) (fs := resDs st) (fun _ _ _ h1 h2 => resD_sound R h1 h2) rfl (fun _ _ => rfl) hc hq
  exact results_one h1 h2 h3 fun vs h4 h5 => .tup vs qs h4 h5
theorem resultsR_run {fn : Func} {lrs : List LRes} {qs : List PV} (R : Rep w0 I0 N st a w hd) (hc : compRes P fn.results.toList = some lrs) (hq : resRs st lrs = some qs) :
    ∃ v, (results fn a.tmps).run P w = .ok v w ∧ RV { w, mem := st.mem, hd, gen := st.gen, I0 := fun b => I0 b ∨ w0.w.heap.size ≤ b, gh := I0.gh } v (resOne qs) := by
  obtain ⟨vs, h1, h2, h3⟩ := ress_sound (f := resR st) (fs := resRs st) (fun _ _ _ h1 h2 => resR_sound R h1 h2) rfl (fun _ _ => rfl) hc hq
  exact results_one h1 h2 h3 fun vs h4 h5 => .tup vs qs h4 h5
theorem initSt_look (args : List PV) (t : Nat) : look (initSt args).slots t = args[t]? := by
  have : ∀ (l : List PV) (k t : Nat), look ((l.zipIdx k).map fun x => (x.2, x.1)) t = if k ≤ t then l[t - k]? else none := by
    intro l
    induction l with
    | nil => intro k t; simp [look]
    | cons p l ih =>
      intro k t
      simp only [List.zipIdx_cons, List.map_cons, look]
      by_cases h : k = t
      · subst h; simp
      · rw [if_neg h, ih (k + 1) t]
        by_cases h2 : k ≤ t
        · rw [if_pos (by omega), if_pos h2]
          obtain ⟨m, hm⟩ : ∃ m, t - k = m + 1 := ⟨t - k - 1, by omega⟩
          rw [hm, List.getElem?_cons_succ]; congr 1; omega
        · rw [if_neg (by omega), if_neg h2]
  have := this args 0 t
  simpa [initSt] using this
theorem DVs_get {w : World} {I : Nat → Prop} : ∀ {vs : List Value} {ps : List PV}, DVs w I vs ps → vs.length = ps.length ∧ ∀ (j : Nat) (p : PV), ps[j]? = some p → ∃ v, vs[j]? = some v ∧ DV w I v p
  | _, _, .nil => ⟨rfl, by simp⟩
  | _, _, .cons h t => by
    obtain ⟨h1, h2⟩ := DVs_get t
    refine ⟨by simp [h1], fun j p hj => ?_⟩
    match j with
    | 0 => simp at hj; subst hj; exact ⟨_, rfl, h⟩
    | j + 1 => exact h2 j p (by simpa using hj)
def Base.start (w : World) : Base := ⟨w, w.heap.size, Nat.le_refl _⟩
theorem initRep {vs : List Value} {args : List PV} {I : Nat → Prop} (h : DVs w I vs args) (hgl : Glob w I) (hN : args.length ≤ N) (hG : N ≤ gst) :
    Rep (Base.start w) ⟨I, fun _ => none, fun _ => undef⟩ N (initSt args) { tmps := vs.toArray ++ Array.replicate (N - vs.toArray.size) undef, defers := [] } w (fun _ => undef) := by
  obtain ⟨h1, h2⟩ := DVs_get h
  refine ⟨⟨fun b hb => .inr hb, hgl.mono (Nat.le_refl _) fun b _ hi => ⟨⟨.inl hi, fun nm ver e he => by simp [initSt, live, look] at he⟩, rfl⟩, Below.refl _ _, fun nm e he => ?_, fun nm ver e he => ?_, fun nm nm' ver ver' e e' b _ he => ?_, fun nm ver e b he => ?_⟩, rfl, by simp; omega, hG, fun t p ht => ?_, fun b o e => by cases e⟩
  · simp [initSt, look] at he
  · simp [initSt, live, look] at he
  · simp [initSt, live, look] at he
  · simp [initSt, live, look] at he
  · rw [initSt_look] at ht
    have hlt := (List.getElem?_eq_some_iff.1 ht).1
    obtain ⟨v, hv, hd⟩ := h2 t p ht
    refine ⟨.inl (by omega), .data _ _ ?_⟩
    rw [slotV_lt (by omega)]
    have hvt : (vs.toArray ++ Array.replicate (N - vs.toArray.size) undef).getD t undef = v := by
      rw [Array.getD_eq_getD_getElem?, Array.getElem?_append_left (by simp; omega)]
      simp [hv]
    simp only
    rw [hvt]
    refine hd.mono (Nat.le_refl _) fun b _ hi => ⟨⟨.inl hi, fun nm ver e he => ?_⟩, rfl⟩
    simp [initSt, live, look] at he
def fnComp (P : Program) (f : FuncId) : Option (Nat × LCode × List LRes) :=
  match P.funcs[f]? with
  | some fn => match fn.body with
    | some c => match compCode P fn.ntmps c, compRes P fn.results.toList with
      | some L, some r => if fn.name != "runtime.NumGoroutine" ∧ fn.ntmps ≤ gst then some (fn.ntmps, L, r) else none
      | _, _ => none
    | none => none
  | none => none
theorem fnComp_some {f : FuncId} {L : LCode} {lrs : List LRes} (h : fnComp P f = some (N, L, lrs)) :
    ∃ fn c, P.funcs[f]? = some fn ∧ fn.body = some c ∧ compCode P fn.ntmps c = some L ∧ compRes P fn.results.toList = some lrs ∧ fn.ntmps = N ∧ fn.ntmps ≤ gst := by
  unfold fnComp at h
  split at h
  · rename_i fn hf
    split at h
    · rename_i c hc
      split at h
      · rename_i L' r h1 h2
        split at h
        · rename_i hn
          simp only [Option.some.injEq, Prod.mk.injEq] at h
          obtain ⟨h3, rfl, rfl⟩ := h
          exact ⟨fn, c, hf, hc, h1, h2, h3, hn.2⟩
        · cases h
      · cases h
    · cases h
  · cases h
theorem spec_of {f : FuncId} {L : LCode} {args : List PV} {res : PV} {lrs : List LRes} (hfc : fnComp P f = some (N, L, lrs))
    (hn : args.length ≤ N) (h : Ev P N L (initSt args) fun e st => match e with | .exit _ => False | _ => ∃ qs, resDs st lrs = some qs ∧ Le (resOne qs) res) : PSpec P f args res := by
  obtain ⟨fn, c, hf, hb, hc, hr, rfl, hG⟩ := fnComp_some hfc
  intro w vs I hvs hgl
  refine calls_of_wp hf hb (wp_mono (h (Base.start w) ⟨I, fun _ => none, fun _ => undef⟩ c _ w _ hc (initRep hvs hgl hn hG)) ?_)
  intro e a' w' hp
  have fin : (∃ st hd, Rep (Base.start w) ⟨I, fun _ => none, fun _ => undef⟩ fn.ntmps st a' w' hd ∧ ∃ qs, resDs st lrs = some qs ∧ Le (resOne qs) res) → a'.defers = [] ∧ ∃ v, (results fn a'.tmps).run P w' = .ok v w' ∧
      ∃ v', Ending.returned v = .returned v' ∧ Below w.heap.size w w' ∧ DV w' (fun b => I b ∨ w.heap.size ≤ b) v' res := by
    rintro ⟨st, hd, R, qs, hq, hle⟩
    obtain ⟨v, h1, h2⟩ := results_run R hr hq
    exact ⟨R.defers, v, h1, v, rfl, R.mem.below, h2.le hle⟩
  cases e <;> simp only [postOf, bodyPost] at hp ⊢
  · exact fin hp
  · obtain ⟨_, _, _, h⟩ := hp; exact h
  · exact fin hp
theorem RV.le {C : Ctx} {v : Value} {p q : PV} (h : RV C v p) (hl : Le p q) : RV C v q := by
  induction hl generalizing v with
  | refl p => exact h
  | nils sz =>
    cases h with
    | data _ _ h => exact .data _ _ (h.le (.nils sz))
  | nz sz =>
    cases h with
    | data _ _ h => exact .data _ _ (h.le (.nz sz))
  | agg ps qs hl h' ho ih =>
    obtain ⟨vs, rfl, hl', _, hv⟩ := h.agg_inv
    refine .agg vs qs (by omega) ho fun j v q hj hq => ?_
    have hlt : j < ps.length := by have := (List.getElem?_eq_some_iff.1 hq).1; omega
    exact ih j ps[j] q (List.getElem?_eq_getElem hlt) hq (hv j v ps[j] hj (List.getElem?_eq_getElem hlt))
  | tup ps qs hl h' ih =>
    obtain ⟨vs, rfl, hl', hv⟩ := h.tup_inv
    refine .tup vs qs (by omega) fun j v q hj hq => ?_
    have hlt : j < ps.length := by have := (List.getElem?_eq_some_iff.1 hq).1; omega
    exact ih j ps[j] q (List.getElem?_eq_getElem hlt) hq (hv j v ps[j] hj (List.getElem?_eq_getElem hlt))
  | list sz es es' hl hr ho h' ih =>
    cases h with
    | data _ _ h => exact .data _ _ (h.le (.list sz es es' hl hr ho h'))
theorem Later.regh (C : Ctx) (gh : Nat → Value) : Later C { C with gh } := ⟨Nat.le_refl _, fun _ _ h => h, fun _ _ e _ h => ⟨e, h, rfl, rfl, rfl⟩, fun _ h => h, fun _ _ h => ⟨h, rfl⟩⟩
theorem MemInv.regh {C : Ctx} (M : MemInv w0 C) (gh : Nat → Value) : MemInv w0 { C with gh } :=
  ⟨M.i0, (Later.regh C gh).globs M.glob, M.below, M.vers, fun nm ver e he => (M.rows nm ver e he).later (Later.regh C gh) rfl fun _ _ => rfl, M.apart, M.own0⟩
theorem zip_look (args : List PV) (t : Nat) : look (args.zipIdx.map fun x => (x.2, x.1)) t = args[t]? := initSt_look args t
end
theorem Wk.refl (st : St) : Wk st st := fun _ _ _ _ _ hd R => ⟨hd, R⟩
theorem Wk.trans {a b c : St} (h : Wk a b) (k : Wk b c) : Wk a c := fun w0 I0 N act w hd R => by
  obtain ⟨hd', R'⟩ := h _ _ _ _ _ _ R
  exact k _ _ _ _ _ _ R'
theorem Wk.le {st : St} {t : Nat} {p q : PV} (h : look st.slots t = some p) (hl : Le p q) : Wk st { st with slots := (t, q) :: st.slots } := by
  intro w0 I0 N a w hd R
  refine ⟨hd, ⟨R.mem, R.defers, R.size, R.top, fun t' p' ht => ?_, R.frame⟩⟩
  by_cases htt : t = t'
  · subst htt
    simp only [look_same, Option.some.injEq] at ht
    subst ht
    exact ⟨(R.slot t p h).1, (R.slot t p h).2.le hl⟩
  · simp only [look_ne _ _ htt] at ht
    exact R.slot t' p' ht
theorem Wk.ownNil {st : St} (t nm elem sz : Nat) (h : look st.slots t = some .nils) (hf : freshF (look st.mem) nm = true) (dt : Bool := true) :
    Wk st { slots := (t, .own nm st.gen) :: st.slots, mem := (nm, { ver := st.gen, elem, sz, es := [], data := dt, new := true, dead := false }) :: st.mem, gen := st.gen } := by
  intro w0 I0 N a w hd R
  have hN := R.mem.new_row (d := nm) (ent := { ver := st.gen, elem, sz, es := [], data := dt, new := true, dead := false }) (hdr := .slice none 0 0) (xs := []) hf rfl rfl (Below.refl _ _) (World.ownsRow_nil _ _ _ _) (by simp) (by simp [Value.ownBlock]) (by simp)
  refine ⟨_, ⟨hN.1, R.defers, R.size, R.top, fun t' p' ht => ?_, hN.2.frame R.frame⟩⟩
  by_cases htt : t = t'
  · subst htt
    simp only [look_same, Option.some.injEq] at ht
    subst ht
    have hv := (R.slot t _ h).2.nils_inv
    refine ⟨(R.slot t _ h).1, ?_⟩
    have hv' : slotV { w, mem := (nm, { ver := st.gen, elem, sz, es := [], data := dt, new := true, dead := false }) :: st.mem, hd := upd hd nm (.slice none 0 0), gen := st.gen, I0 := fun b => I0 b ∨ w0.w.heap.size ≤ b, gh := I0.gh } a t = .slice none 0 0 := hv
    refine .own nm st.gen _ (by rw [hv']; rfl) (.inr ⟨rfl, _, look_same _ _ _, rfl⟩) fun e he => ?_
    show _ = upd hd nm _ nm
    rw [upd_same]; exact hv'
  · simp only [look_ne _ _ htt] at ht
    exact ⟨(R.slot t' p' ht).1, hN.2.rv (R.slot t' p' ht).2⟩
theorem Wk.ownNilCell {st : St} (b ver j nm elem sz : Nat) {e : Ent} {cs cs' : List PV} (hl : liveF (look st.mem) b ver = some e) (he : e.es = [cs]) (h : cs[j]? = some .nils) (hs : cs.set j (.own nm st.gen) = cs') (hf : freshF (look st.mem) nm = true) (hb : (nm = b) = False) (dt : Bool := true) :
    Wk st { slots := st.slots, mem := (b, { e with es := [cs'], data := false }) :: (nm, { ver := st.gen, elem, sz, es := [], data := dt, new := true, dead := false }) :: st.mem, gen := st.gen } := by
  intro w0 I0 N a w hd R
  subst hs
  rw [← live_eq] at hl
  have hN := R.mem.new_row (d := nm) (ent := { ver := st.gen, elem, sz, es := [], data := dt, new := true, dead := false }) (hdr := .slice none 0 0) (xs := []) hf rfl rfl (Below.refl _ _) (World.ownsRow_nil _ _ _ _) (by simp) (by simp [Value.ownBlock]) (by simp)
  have hbn : nm ≠ b := fun h => by rw [hb] at h; exact h
  have hl2 : live ((nm, { ver := st.gen, elem, sz, es := [], data := dt, new := true, dead := false }) :: st.mem) b ver = some e := by
    obtain ⟨k1, k2⟩ := live_some.1 hl
    exact live_some.2 ⟨by rw [look_ne _ _ hbn]; exact k1, k2⟩
  obtain ⟨ys, o1, o2, o3⟩ := hN.1.rows b ver e hl2
  have hc0 := o3 0 cs (by rw [he]; rfl)
  have hT := hN.1.turn_row (nm := b) (ver := ver) (e := e) (e' := { e with es := [cs.set j (.own nm st.gen)], data := false }) (w' := w) (xs := ys) hl2 rfl rfl (by rw [he]; rfl) rfl
    ⟨rfl, rfl, rfl, Nat.le_refl _, fun _ _ _ => rfl⟩ (by rw [he] at o1; exact o1) (by simp [big]) (fun i cs2 hi => by
      cases i with
      | succ i => simp at hi
      | zero =>
        simp at hi; subst hi
        refine ⟨by simpa using hc0.1, fun p hp => ?_, fun k p hk => ?_⟩
        · rcases List.mem_or_eq_of_mem_set hp with hp | rfl
          · exact hc0.2.1 p hp
          · rfl
        · by_cases hkj : k = j
          · subst hkj
            have hlt : k < cs.length := (List.getElem?_eq_some_iff.1 h).1
            rw [List.getElem?_set_self hlt] at hk
            injection hk with hk; subst hk
            obtain ⟨u, a1, a2, _⟩ := hc0.2.2 k _ h
            refine ⟨u, a1, ?_, fun h => by cases h⟩
            have hu := a2.nils_inv
            subst hu
            refine .own nm st.gen _ rfl (.inr ⟨rfl, _, look_same _ _ _, rfl⟩) fun e _ => ?_
            show _ = upd hd nm _ nm
            rw [upd_same]
          · rw [List.getElem?_set_ne (Ne.symm hkj)] at hk
            obtain ⟨u, a1, a2, _⟩ := hc0.2.2 k p hk
            exact ⟨u, a1, a2, fun h => by cases h⟩)
  refine ⟨_, ⟨hT.1, R.defers, R.size, R.top, fun t p ht => ?_, hT.2.frame (hN.2.frame R.frame)⟩⟩
  exact ⟨(R.slot t p ht).1, hT.2.rv (hN.2.rv (R.slot t p ht).2)⟩
end
end Go.PW
