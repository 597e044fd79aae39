/-
 PwRegion: a region, plain or with its order drawn.
-/
import Derived.Test.YtlkknmhhefjmjaaGreatDoorPwOrder3
namespace Go.PW
open Go.RowKit
noncomputable section
def edgesOf (o : Oper) : List Nat := (o.after.toList.filter (Region.binds .any)).map (·.on)
def preds : List Oper → List (List Nat) → List (List Nat)
 | [], acc => acc
 | o :: r, acc => preds r (acc ++ [(edgesOf o ++ (edgesOf o).flatMap fun e => acc.getD e []).eraseDups])
def predsOk (ops : List Oper) (pre : List (List Nat)) : Bool :=
 (List.range ops.length).all fun i => match ops[i]? with
  | some o => (edgesOf o).all (fun e => decide (e < i)) && (pre.getD i []).all fun j => (edgesOf o).contains j || (edgesOf o).any fun e => (pre.getD e []).contains j
  | none => false
def slotsApart (x y : LOper) : Bool :=
 (match x.dst with | some d => !y.looks.contains d && y.dst != some d | none => true) && (match y.dst with | some d => !x.looks.contains d | none => true)
def loose (n : Nat) (pre : List (List Nat)) : List (Nat × Nat) := (List.range n).flatMap fun i => ((List.range i).filter fun j => !(pre.getD i []).contains j).map fun j => (j, i)
structure LReg where
 los : List LOper
 draw : Bool
 pairs : List (Nat × Nat)
def compRegion (P : Program) (N : Nat) (ops : List Oper) (draw : Bool) : Option LReg :=
 match compOpers P N ops ops with
 | none => none
 | some los => if draw then
   let pre := preds ops []
   let ps := loose ops.length pre
   if predsOk ops pre && ps.all (fun p => match los[p.1]?, los[p.2]? with | some x, some y => slotsApart x y | _, _ => false) then
    some ⟨los, true, ps.filter fun p => match los[p.1]?, los[p.2]? with | some x, some y => !x.op.pure && !y.op.pure | _, _ => true⟩
   else none
  else some ⟨los, false, []⟩
def disj (a b : List Nat) : Bool := a.all fun x => !b.contains x
abbrev Log := List Nat × List Nat
def apartLog (x y : Log) : Bool := disj x.2 y.1 && disj y.2 x.1 && disj x.2 y.2
def pairsOk (pairs : List (Nat × Nat)) (logs : List Log) : Bool := pairs.all fun p => match logs[p.1]?, logs[p.2]? with
 | some x, some y => apartLog x y
 | _, _ => false
def stepL {P : Program} (Γ : List (Nat × Fact P)) (o : LOper) (st : St) : Option (St × Log) :=
 (core Γ o (look st.slots) (look st.mem) st.gen).map fun r => ({ st with slots := put st.slots o.dst r.1, mem := r.2.1 ++ st.mem }, (r.2.2, r.2.1.map (·.1)))
def stepsL {P : Program} (Γ : List (Nat × Fact P)) : List LOper → St → Option (St × List Log)
 | [], st => some (st, [])
 | o :: r, st => match stepL Γ o st with
  | some (st', l) => match stepsL Γ r st' with
   | some (st'', ls) => some (st'', l :: ls)
   | none => none
  | none => none
def runReg {P : Program} (Γ : List (Nat × Fact P)) (g : LReg) (st : St) : Option St :=
 if g.draw then match stepsL Γ g.los st with
  | some (st', logs) => if pairsOk g.pairs logs then some st' else none
  | none => none
 else steps Γ g.los st
section
variable {P : Program} {Γ : List (Nat × Fact P)} {N : Nat} {w0 : Base} {w : World} {I0 : Fri} {st st' : St} {a : Act} {hd : Nat → Value} {Q : Exit → Act → World → Prop}
theorem compOpers_get {ops : List Oper} : ∀ {os : List Oper} {los : List LOper}, compOpers P N ops os = some los → os.length = los.length ∧ ∀ (i : Nat) (o : Oper) (lo : LOper), os[i]? = some o → los[i]? = some lo → compOper P N ops o = some lo
 | [], los, h => by simp [compOpers] at h; subst h; simp
 | o :: os, los, h => by
  unfold compOpers at h
  split at h
  ·rename_i p ps h1 h2
   injection h with h; subst h
   obtain ⟨e1, e2⟩ := compOpers_get h2
   refine ⟨by simp [e1], fun i o' lo' ho hl => ?_⟩
   match i with
   | 0 => simp at ho hl; subst ho hl; exact h1
   | i + 1 => exact e2 i o' lo' (by simpa using ho) (by simpa using hl)
  ·cases h
theorem plain_sound {ops : Array Oper} {los : List LOper} (hc : compOpers P N ops.toList ops.toList = some los) (hQ : ∀ a' w' hd', Rep w0 I0 N st' a' w' hd' → Q .normal a' w') :
  ∀ (n k : Nat) (st : St) (a : Act) (w : World) (hd : Nat → Value), k + n = ops.size → Rep w0 I0 N st a w hd → steps Γ (los.drop k) st = some st' → wpOps P ops Q (List.range' k n) a w
 | 0, k, st, a, w, hd, hk, R, hs => by
  obtain ⟨e1, _⟩ := compOpers_get hc
  have hl : los.length ≤ k := by rw [← e1]; simp; omega
  rw [List.drop_eq_nil_of_le hl] at hs
  simp [steps] at hs; subst hs
  simp only [List.range', wpOps]
  exact hQ a w hd R
 | n + 1, k, st, a, w, hd, hk, R, hs => by
  obtain ⟨e1, e2⟩ := compOpers_get hc
  have hkl : k < los.length := by rw [← e1]; simp; omega
  rw [List.drop_eq_getElem_cons hkl] at hs
  unfold steps at hs
  split at hs
  case h_2 => cases hs
  rename_i st1 h1
  have hko : k < ops.size := by omega
  have ho : ops[k]? = some ops[k] := Array.getElem?_eq_getElem hko
  rw [List.range'_succ, wpOps_cons]
  unfold wpOp
  rw [ho]
  exact step_sound R (e2 k _ _ (by simp [hko]) (List.getElem?_eq_getElem hkl)) h1 fun a' w' hd' R' => plain_sound hc hQ n (k + 1) st1 a' w' hd' (by omega) R' hs
theorem Rep.draw (R : Rep w0 I0 N st a w hd) : Rep w0 I0 N st a { w with drawn := w.drawn + 1 } hd := by
 have hb : Below w.heap.size w { w with drawn := w.drawn + 1 } := ⟨rfl, rfl, rfl, Nat.le_refl _, fun _ _ => rfl⟩
 have hG := R.mem.grow hb
 exact ⟨hG.1, R.defers, R.size, R.top, fun t p h => ⟨(R.slot t p h).1, hG.2.rv (R.slot t p h).2⟩, hG.2.frame R.frame⟩
theorem usable_eqv {mem mem' : List (Nat × Ent)} (h : look mem' = look mem) {gen nm ver : Nat} (hu : usable mem gen nm ver) : usable mem' gen nm ver := by
 rcases hu with hu | ⟨h1, e, h2, h3⟩
 ·exact .inl hu
 ·exact .inr ⟨h1, e, by rw [h]; exact h2, h3⟩
theorem live_eqv {mem mem' : List (Nat × Ent)} (h : look mem' = look mem) (nm ver : Nat) : live mem' nm ver = live mem nm ver := by
 simp only [live, h]
theorem Rep.eqv (R : Rep w0 I0 N st a w hd) (h1 : look st'.slots = look st.slots) (h2 : look st'.mem = look st.mem) (h3 : st'.gen = st.gen) : Rep w0 I0 N st' a w hd := by
 obtain ⟨s', m', g'⟩ := st'
 simp only at h1 h2 h3
 subst h3
 have L : Later { w, mem := st.mem, hd, gen := st.gen, I0 := fun b => I0 b ∨ w0.w.heap.size ≤ b, gh := I0.gh } { w, mem := m', hd, gen := st.gen, I0 := fun b => I0 b ∨ w0.w.heap.size ≤ b, gh := I0.gh } :=
  ⟨Nat.le_refl _, fun _ _ h => usable_eqv h2 h, fun nm ver e _ h => ⟨e, by rw [← live_eqv h2]; exact h, rfl, rfl, rfl⟩,
   fun _ h => h, fun b _ hi => ⟨fun nm ver e he => hi nm ver e (by rw [← live_eqv h2]; exact he), rfl⟩⟩
 have M := R.mem
 refine ⟨⟨M.i0, M.below, fun nm e he => M.vers nm e (by rw [← h2]; exact he), fun nm ver e he => ?_, fun nm nm' ver ver' e e' b hne he he' hb => ?_, fun nm ver e b he hb => M.own0 nm ver e b (by rw [← live_eqv h2]; exact he) hb⟩, R.defers, R.size, R.top, fun t p ht => ?_, L.frame R.frame⟩
 ·rw [live_eqv h2] at he
  have hr := M.rows nm ver e he
  exact hr.later L rfl fun _ _ => rfl
 ·rw [live_eqv h2] at he he'
  exact M.apart nm nm' ver ver' e e' b hne he he' hb
 ·simp only at ht
  rw [h1] at ht
  exact ⟨(R.slot t p ht).1, L.rv (R.slot t p ht).2⟩
theorem look_put (slots : List (Nat × PV)) (d : Option Nat) (p : PV) : look (put slots d p) = putF (look slots) d p := by
 cases d with
 | none => rfl
 | some d => funext n; simp [put, putF, look]
theorem look_append {α : Type} : ∀ (l r : List (Nat × α)) (n : Nat), look (l ++ r) n = match look l n with | some e => some e | none => look r n
 | [], r, n => rfl
 | (k, v) :: l, r, n => by
  simp only [List.cons_append, look]
  split
  ·rfl
  ·exact look_append l r n
theorem look_putM (up mem : List (Nat × Ent)) : look (up ++ mem) = putM (look mem) up := by
 funext n
 rw [look_append]; unfold putM; cases look up n <;> rfl
theorem stepsL_run (los : List LOper) : ∀ (r : List LOper) (k : Nat) (st st' : St) (logs : List Log), (∀ i, r[i]? = los[k + i]?) → stepsL Γ r st = some (st', logs) →
  logs.length = r.length ∧ st'.gen = st.gen ∧ ∃ outs : Nat → Out, RunAll Γ los outs st.gen (List.range' k r.length) (look st.slots) (look st.mem) ∧
   endS los outs (List.range' k r.length) (look st.slots) = look st'.slots ∧ endM outs (List.range' k r.length) (look st.mem) = look st'.mem ∧
   ∀ i, i < r.length → logs[i]? = some ((outs (k + i)).2.2, (outs (k + i)).2.1.map (·.1))
 | [], k, st, st', logs, _, h => by
  simp [stepsL] at h
  obtain ⟨rfl, rfl⟩ := h
  exact ⟨rfl, rfl, fun _ => (.top, [], []), trivial, rfl, rfl, fun i hi => by simp at hi⟩
 | o :: r, k, st, st', logs, hr, h => by
  unfold stepsL at h
  split at h
  case h_2 => cases h
  rename_i st1 l h1
  split at h
  case h_2 => cases h
  rename_i st2 ls h2
  simp only [Option.some.injEq, Prod.mk.injEq] at h
  obtain ⟨rfl, rfl⟩ := h
  unfold stepL at h1
  simp only [Option.map_eq_some_iff, Prod.mk.injEq] at h1
  obtain ⟨out, hc, rfl, rfl⟩ := h1
  obtain ⟨i1, i2, outs, i3, i4, i5, i6⟩ := stepsL_run los r (k + 1) _ _ _ (fun i => by have := hr (i + 1); simp at this; rw [this]; congr 1; omega) h2
  simp only at i2 i3 i4 i5
  rw [look_put] at i3 i4
  rw [look_putM] at i3 i5
  have hok : los[k]? = some o := by have := hr 0; simpa using this.symm
  -- the outcomes: this one's at k
  have hne : ∀ i ∈ List.range' (k + 1) r.length, i ≠ k := by intro i hi; rw [List.mem_range'_1] at hi; omega
  let outs' : Nat → Out := fun n => if n = k then out else outs n
  have hk' : outs' k = out := by simp [outs']
  have hn' : ∀ n, n ≠ k → outs' n = outs n := by intro n h; simp [outs', h]
  have runCongr : ∀ (L : List Nat) (sl : Slots) (m : Look), (∀ i ∈ L, i ≠ k) → RunAll Γ los outs st.gen L sl m → RunAll Γ los outs' st.gen L sl m := by
   intro L
   induction L with
   | nil => intros; trivial
   | cons i L ih =>
    intro sl m hL hrun
    obtain ⟨oi, g1, g2, g3⟩ := hrun
    have hi := hn' i (hL i (by simp))
    exact ⟨oi, g1, by rw [hi]; exact g2, by rw [hi]; exact ih _ _ (fun j hj => hL j (List.mem_cons_of_mem _ hj)) g3⟩
  have sCongr : ∀ (L : List Nat) (sl : Slots), (∀ i ∈ L, i ≠ k) → endS los outs' L sl = endS los outs L sl := by
   intro L
   induction L with
   | nil => intros; rfl
   | cons i L ih =>
    intro sl hL
    simp only [endS]
    rw [hn' i (hL i (by simp)), ih _ fun j hj => hL j (List.mem_cons_of_mem _ hj)]
  have mCongr : ∀ (L : List Nat) (m : Look), (∀ i ∈ L, i ≠ k) → endM outs' L m = endM outs L m := by
   intro L
   induction L with
   | nil => intros; rfl
   | cons i L ih =>
    intro m hL
    simp only [endM]
    rw [hn' i (hL i (by simp)), ih _ fun j hj => hL j (List.mem_cons_of_mem _ hj)]
  refine ⟨by simp [i1], i2, outs', ?_, ?_, ?_, ?_⟩
  ·rw [List.length_cons, List.range'_succ]
   exact ⟨o, hok, by rw [hk']; exact hc, by rw [hk']; exact runCongr _ _ _ hne i3⟩
  ·rw [List.length_cons, List.range'_succ]
   simp only [endS, hok, hk']
   rw [sCongr _ _ hne]; exact i4
  ·rw [List.length_cons, List.range'_succ]
   simp only [endM, hk']
   rw [mCongr _ _ hne]; exact i5
  ·intro i hi
   match i with
   | 0 => simp [hk']
   | i + 1 =>
    simp only [List.length_cons, Nat.add_lt_add_iff_right] at hi
    have := i6 i hi
    rw [show k + 1 + i = k + (i + 1) by omega] at this
    rw [List.getElem?_cons_succ, this, hn' (k + (i + 1)) (by omega)]
theorem predsOk_get {ops : List Oper} {pre : List (List Nat)} (h : predsOk ops pre = true) {i : Nat} {o : Oper} (ho : ops[i]? = some o) :
  (∀ e ∈ edgesOf o, e < i) ∧ ∀ j ∈ pre.getD i [], j ∈ edgesOf o ∨ ∃ e ∈ edgesOf o, j ∈ pre.getD e [] := by
 unfold predsOk at h
 rw [List.all_eq_true] at h
 have hi := (List.getElem?_eq_some_iff.1 ho).1
 have := h i (List.mem_range.2 hi)
 simp only [ho, Bool.and_eq_true, List.all_eq_true, decide_eq_true_eq, Bool.or_eq_true, List.contains_iff_mem, List.any_eq_true] at this
 exact this
theorem ready_edges {ops : Array Oper} {listed : Array Bool} {i : Nat} (h : i ∈ Region.ready .any ops listed) : listed.getD i true = false ∧ ∃ o, ops[i]? = some o ∧ ∀ e ∈ edgesOf o, listed.getD e false = true := by
 rw [mem_ready] at h
 obtain ⟨h1, o, h2, h3⟩ := h
 refine ⟨h1, o, h2, fun e he => ?_⟩
 unfold edgesOf at he
 rw [List.mem_map] at he
 obtain ⟨x, hx, rfl⟩ := he
 rw [List.mem_filter] at hx
 exact h3 x (by simpa using hx.1) hx.2
theorem pre_listed {ops : Array Oper} {pre : List (List Nat)} {listed : Array Bool} (hp : predsOk ops.toList pre = true)
  (hcl : ∀ (i : Nat) (o : Oper), ops[i]? = some o → listed.getD i false = true → ∀ e ∈ edgesOf o, listed.getD e false = true) :
  ∀ (n i : Nat) (o : Oper), i < n → ops[i]? = some o → (∀ e ∈ edgesOf o, listed.getD e false = true) → ∀ j ∈ pre.getD i [], listed.getD j false = true
 | 0, i, o, hi, _, _, _, _ => by omega
 | n + 1, i, o, hi, ho, hall, j, hj => by
  obtain ⟨h1, h2⟩ := predsOk_get hp (i := i) (o := o) (by simpa using ho)
  rcases h2 j hj with hj | ⟨e, he, hj⟩
  ·exact hall j hj
  ·have hei := h1 e he
   have hlt : e < ops.size := by have := (Array.getElem?_eq_some_iff.1 ho).1; omega
   have hoe : ops[e]? = some ops[e] := Array.getElem?_eq_getElem hlt
   exact pre_listed hp hcl n e _ (by omega) hoe (hcl e _ hoe (hall e he)) j hj
theorem disj_iff {a b : List Nat} (h : disj a b = true) : ∀ x ∈ a, x ∉ b := by
 unfold disj at h
 rw [List.all_eq_true] at h
 intro x hx hb
 have := h x hx
 simp [hb] at this
theorem any_order {ops : Array Oper} {los : List LOper} {pre : List (List Nat)} {outs : Nat → Out} {gen : Nat} {S' : Slots} {M' : Look} (hc : compOpers P N ops.toList ops.toList = some los) (hp : predsOk ops.toList pre = true)
  (hap : ∀ (i j : Nat) (oi oj : LOper), j < i → j ∉ pre.getD i [] → los[i]? = some oi → los[j]? = some oj → Apart oj oi (outs j) (outs i))
  (hQ : ∀ (st' : St) (a' : Act) (w' : World) (hd' : Nat → Value), Rep w0 I0 N st' a' w' hd' → look st'.slots = S' → look st'.mem = M' → st'.gen = gen → Q .normal a' w') :
  ∀ (fuel : Nat) (listed : Array Bool) (L : List Nat) (st : St) (a : Act) (w : World) (hd : Nat → Value), L = (List.range ops.size).filter (fun i => !listed.getD i true) → listed.size = ops.size → L.length ≤ fuel →
   (∀ (i : Nat) (o : Oper), ops[i]? = some o → listed.getD i false = true → ∀ e ∈ edgesOf o, listed.getD e false = true) →
   Rep w0 I0 N st a w hd → st.gen = gen → RunAll Γ los outs gen L (look st.slots) (look st.mem) → endS los outs L (look st.slots) = S' → endM outs L (look st.mem) = M' →
   wpAny P .any ops Q fuel listed a w := by
 obtain ⟨e1, e2⟩ := compOpers_get hc
 intro fuel
 induction fuel with
 | zero =>
  intro listed L st a w hd hL hsz hlen hcl R hg hrun hS hM
  have hnil : L = [] := List.eq_nil_of_length_eq_zero (by omega)
  refine ⟨?_, ?_⟩
  ·rw [List.eq_nil_iff_forall_not_mem]
   intro i hi
   obtain ⟨h1, o, h2, _⟩ := ready_edges hi
   have hlt := (Array.getElem?_eq_some_iff.1 h2).1
   have : i ∈ L := by rw [hL, List.mem_filter]; exact ⟨List.mem_range.2 hlt, by simp only [h1]; rfl⟩
   rw [hnil] at this
   cases this
  ·subst hnil
   exact hQ st a w hd R hS hM hg
 | succ fuel ih =>
  intro listed L st a w hd hL hsz hlen hcl R hg hrun hS hM
  have hmemL : ∀ i, i ∈ L ↔ i < ops.size ∧ listed.getD i true = false := by
   intro i
   rw [hL, List.mem_filter, List.mem_range]
   simp
  have hpw : L.Pairwise (· < ·) := by rw [hL]; exact List.Pairwise.filter _ List.pairwise_lt_range
  refine ⟨fun hready => ?_, fun i hi => ?_⟩
  ·cases hLc : L with
   | nil =>
    rw [hLc] at hS hM
    exact hQ st a w hd R hS hM hg
   | cons i L' =>
    exfalso
    have hi : i ∈ L := by rw [hLc]; simp
    obtain ⟨h1, h2⟩ := (hmemL i).1 hi
    have ho : ops[i]? = some ops[i] := Array.getElem?_eq_getElem h1
    have : i ∈ Region.ready .any ops listed := by
     rw [mem_ready]
     refine ⟨h2, _, ho, fun e he hb => ?_⟩
     have heo : e.on ∈ edgesOf ops[i] := by
      unfold edgesOf
      rw [List.mem_map]
      exact ⟨e, List.mem_filter.2 ⟨by simpa using he, hb⟩, rfl⟩
     have hlt := (predsOk_get hp (i := i) (o := ops[i]) (by simp [h1])).1 _ heo
     cases hl : listed.getD e.on false with
     | true => rfl
     | false =>
      exfalso
      have : e.on ∈ L := (hmemL _).2 ⟨by omega, by
       have hlt2 : e.on < listed.size := by omega
       simp only [Array.getD_eq_getD_getElem?, Array.getElem?_eq_getElem hlt2, Option.getD_some] at hl ⊢
       exact hl⟩
      rw [hLc] at this hpw
      rcases List.mem_cons.1 this with h | h
      ·omega
      ·have := (List.pairwise_cons.1 hpw).1 _ h; omega
    rw [hready] at this
    cases this
  ·obtain ⟨h1, o, ho, hall⟩ := ready_edges hi
   have hlt := (Array.getElem?_eq_some_iff.1 ho).1
   have hiL : i ∈ L := (hmemL i).2 ⟨hlt, h1⟩
   obtain ⟨L1, L2, hLs⟩ := List.append_of_mem hiL
   have hil : i < los.length := by rw [← e1]; simpa using hlt
   have hlo : los[i]? = some los[i] := List.getElem?_eq_getElem hil
   rw [hLs] at hpw
   obtain ⟨p1, p2, p3⟩ := List.pairwise_append.1 hpw
   have hpre := pre_listed hp hcl (i + 1) i o (by omega) ho hall
   -- nothing that is before i in the text, and is still to come, meets it
   have hA : ∀ j ∈ L1, ∀ oj, los[j]? = some oj → Apart oj los[i] (outs j) (outs i) := by
    intro j hj oj hoj
    have hji := p3 j hj i (by simp)
    refine hap i j _ oj hji (fun hjp => ?_) hlo hoj
    have hl := hpre j hjp
    have hjL : j ∈ L := by rw [hLs]; exact List.mem_append_left _ hj
    have hl2 := ((hmemL j).1 hjL).2
    have hlt2 : j < listed.size := by omega
    simp only [Array.getD_eq_getD_getElem?, Array.getElem?_eq_getElem hlt2, Option.getD_some] at hl hl2
    rw [hl] at hl2; cases hl2
   rw [hLs] at hrun hS hM
   obtain ⟨f1, f2, f3⟩ := to_front hlo L1 L2 _ _ hA hrun
   obtain ⟨oi, g1, g2, g3⟩ := f1
   rw [hlo] at g1; injection g1 with g1; subst g1
   rw [f2] at hS
   rw [f3] at hM
   simp only [endS, hlo] at hS
   simp only [endM] at hM
   have hstep : step Γ los[i] st = some { st with slots := put st.slots los[i].dst (outs i).1, mem := (outs i).2.1 ++ st.mem } := by
    rw [step_core, hg, g2]; rfl
   unfold wpOp
   rw [ho]
   refine step_sound R (e2 i o _ (by simpa using ho) hlo) hstep fun a' w' hd' R' => ?_
   refine ih (listed.setIfInBounds i true) (L1 ++ L2) _ a' w' hd' ?_ (by simpa using hsz) ?_ ?_ R' hg ?_ ?_ ?_
   · -- what is left
    have hnd : ∀ x ∈ L1 ++ L2, x ≠ i := by
     intro x hx
     rcases List.mem_append.1 hx with hx | hx
     ·have := p3 x hx i (by simp); omega
     ·have := (List.pairwise_cons.1 p2).1 x hx; omega
    have h4 : (List.range ops.size).filter (fun k => !(listed.setIfInBounds i true).getD k true) = ((List.range ops.size).filter (fun k => !listed.getD k true)).filter (fun k => k != i) := by
     rw [List.filter_filter]
     apply List.filter_congr
     intro k hk
     by_cases hki : i = k
     ·subst hki
      have : i < listed.size := by omega
      simp [this]
     ·rw [getD_set_ne true hki]
      have : (k != i) = true := by simp; omega
      simp [this]
    rw [h4, ← hL, hLs]
    rw [List.filter_append, List.filter_cons_of_neg (by simp)]
    have g1 : L1.filter (fun k => k != i) = L1 := List.filter_eq_self.2 fun x hx => by simpa using hnd x (List.mem_append_left _ hx)
    have g2 : L2.filter (fun k => k != i) = L2 := List.filter_eq_self.2 fun x hx => by simpa using hnd x (List.mem_append_right _ hx)
    rw [g1, g2]
   ·rw [hLs] at hlen
    simp at hlen ⊢; omega
   ·intro k ok hok hk e he
    by_cases hki : i = k
    ·subst hki
     rw [ho] at hok; injection hok with hok; subst hok
     exact getD_set_true (hall e he)
    ·rw [getD_set_ne false hki] at hk
     exact getD_set_true (hcl k ok hok hk e he)
   ·rw [look_put, look_putM]; exact g3
   ·rw [look_put]; exact hS
   ·rw [look_putM]; exact hM
theorem slotsApart_iff {x y : LOper} (h : slotsApart x y = true) : (∀ d, x.dst = some d → d ∉ y.looks) ∧ (∀ d, y.dst = some d → d ∉ x.looks) ∧ ∀ d, x.dst = some d → y.dst ≠ some d := by
 unfold slotsApart at h
 rw [Bool.and_eq_true] at h
 refine ⟨fun d hd => ?_, fun d hd => ?_, fun d hd => ?_⟩
 ·have := h.1; simp only [hd, Bool.and_eq_true] at this; simpa using this.1
 ·have := h.2; simp only [hd] at this; simpa using this
 ·have := h.1; simp only [hd, Bool.and_eq_true] at this; simpa using this.2
theorem core_pure {o : LOper} {sl : Slots} {m : Look} {gen : Nat} {out : Out} (ho : o.op.pure = true) (h : core Γ o sl m gen = some out) : out.2.1 = [] ∧ out.2.2 = [] := by
 have go : (match lxsF sl o.op.args with
   | none => none
   | some xs => (o.op.act Γ o.dst gen xs m).map fun (r : PV × List (Nat × Ent)) => (r.1, r.2, o.op.reads (foot Γ o.dst) o.dst xs)) = some out → out.2.1 = [] ∧ out.2.2 = [] := by
  intro hgo
  split at hgo
  ·cases hgo
  ·simp only [Option.map_eq_some_iff] at hgo
   obtain ⟨⟨p, up⟩, h1, rfl⟩ := hgo
   exact ⟨(act_pure ho h1).1, (act_pure ho h1).2 _⟩
 unfold core at h
 cases hg : o.guard with
 | none => simp only [hg] at h; exact go h
 | some gb =>
  obtain ⟨g, b⟩ := gb
  simp only [hg] at h
  cases hs : sl g with
  | none => simp [hs] at h
  | some q =>
   simp only [hs] at h
   cases q with
   | bool c =>
    simp only at h
    by_cases hcb : c = b
    ·rw [if_pos hcb] at h; exact go h
    ·rw [if_neg hcb] at h; injection h with h; subst h; exact ⟨rfl, rfl⟩
   | tup l =>
    cases l with
    | nil => simp at h; subst h; exact ⟨rfl, rfl⟩
    | cons => simp at h
   | _ => simp at h
theorem runAll_get {los : List LOper} {outs : Nat → Out} {gen : Nat} : ∀ {L : List Nat} {sl : Slots} {m : Look}, RunAll Γ los outs gen L sl m → ∀ i ∈ L, ∃ o sl' m', los[i]? = some o ∧ core Γ o sl' m' gen = some (outs i)
 | i :: L, sl, m, h, k, hk => by
  obtain ⟨o, h1, h2, h3⟩ := h
  rcases List.mem_cons.1 hk with rfl | hk
  ·exact ⟨o, sl, m, h1, h2⟩
  ·exact runAll_get h3 k hk
theorem region_sound {id : Nat} {ops : Array Oper} {draw : Bool} {g : LReg} (hm : P.follows .mixedOrders = true) (hc : compRegion P N ops.toList draw = some g) (hrun : runReg Γ g st = some st') (R : Rep w0 I0 N st a w hd)
  (hQ : ∀ a' w' hd', Rep w0 I0 N st' a' w' hd' → Q .normal a' w') : (Code.region id ops draw).wp P Q a w := by
 unfold compRegion at hc
 split at hc
 case h_1 => cases hc
 rename_i los hlos
 cases draw
 ·simp only [Bool.false_eq_true, if_false, Option.some.injEq] at hc
  subst hc
  simp only [runReg, Bool.false_eq_true, if_false] at hrun
  refine wp_region ?_
  have := plain_sound (Γ := Γ) hlos hQ ops.size 0 st a w hd (by omega) R (by simpa using hrun)
  rwa [← List.range_eq_range'] at this
 ·simp only [if_true] at hc
  split at hc
  case isFalse => cases hc
  case isTrue hchk =>
  injection hc with hc; subst hc
  simp only [Bool.and_eq_true, List.all_eq_true] at hchk
  obtain ⟨hpre, hsl⟩ := hchk
  simp only [runReg, if_true] at hrun
  split at hrun
  case h_2 => cases hrun
  rename_i st1 logs hst
  split at hrun
  case isFalse => cases hrun
  case isTrue hpo =>
  injection hrun with hrun; subst hrun
  obtain ⟨e1, e2⟩ := compOpers_get hlos
  have hlen : los.length = ops.size := by rw [← e1]; simp
  obtain ⟨i1, i2, outs, i3, i4, i5, i6⟩ := stepsL_run (Γ := Γ) los los 0 st st1 logs (fun i => by simp) hst
  rw [hlen, ← List.range_eq_range'] at i3 i4 i5
  unfold pairsOk at hpo
  rw [List.all_eq_true] at hpo
  refine wp_region_any hm ?_
  refine any_order (Γ := Γ) (outs := outs) (gen := st.gen) (S' := look st1.slots) (M' := look st1.mem) hlos hpre (fun i j oi oj hji hnp hi hj => ?_) (fun st2 a' w' hd' R' g1 g2 g3 => hQ a' w' hd' (R'.eqv g1.symm g2.symm (by rw [g3]; exact i2)))
   ops.size _ (List.range ops.size) st a _ hd ?_ (by simp) (by simp) ?_ R.draw rfl i3 i4 i5
  · -- the pair does not meet
   have hil := (List.getElem?_eq_some_iff.1 hi).1
   have hmem : (j, i) ∈ loose ops.toList.length (preds ops.toList []) := by
    unfold loose
    rw [List.mem_flatMap]
    refine ⟨i, List.mem_range.2 (by simp; omega), ?_⟩
    rw [List.mem_map]
    exact ⟨j, List.mem_filter.2 ⟨List.mem_range.2 hji, by simpa using hnp⟩, rfl⟩
   have hsa := hsl _ hmem
   simp only [hi, hj] at hsa
   obtain ⟨s1, s2, s3⟩ := slotsApart_iff hsa
   by_cases hpu : oj.op.pure = true ∨ oi.op.pure = true
   ·rcases hpu with hpu | hpu
    ·obtain ⟨o', sl', m', k1, k2⟩ := runAll_get i3 j (List.mem_range.2 (by omega))
     rw [hj] at k1; injection k1 with k1; subst k1
     obtain ⟨z1, z2⟩ := core_pure hpu k2
     exact ⟨s1, s2, s3, by rw [z1]; simp, by rw [z2]; simp, by rw [z1]; simp⟩
    ·obtain ⟨o', sl', m', k1, k2⟩ := runAll_get i3 i (List.mem_range.2 (by omega))
     rw [hi] at k1; injection k1 with k1; subst k1
     obtain ⟨z1, z2⟩ := core_pure hpu k2
     exact ⟨s1, s2, s3, by rw [z2]; simp, by rw [z1]; simp, by rw [z1]; simp⟩
   ·have h3 : oj.op.pure = false ∧ oi.op.pure = false := by
     cases h4 : oj.op.pure <;> cases h5 : oi.op.pure <;> simp_all
    have hin : (j, i) ∈ (loose ops.toList.length (preds ops.toList [])).filter fun p => match los[p.1]?, los[p.2]? with | some x, some y => !x.op.pure && !y.op.pure | _, _ => true := by
     rw [List.mem_filter]
     refine ⟨hmem, ?_⟩
     simp only [hi, hj, h3.1, h3.2]; rfl
    have hlg := hpo _ hin
    have l1 := i6 j (by omega)
    have l2 := i6 i hil
    rw [Nat.zero_add] at l1 l2
    simp only [l1, l2, apartLog, Bool.and_eq_true] at hlg
    obtain ⟨⟨d1, d2⟩, d3⟩ := hlg
    exact ⟨s1, s2, s3, fun e he => disj_iff d1 _ (List.mem_map.2 ⟨e, he, rfl⟩), fun e he => disj_iff d2 _ (List.mem_map.2 ⟨e, he, rfl⟩),
     fun e he e' he' heq => disj_iff d3 _ (List.mem_map.2 ⟨e, he, rfl⟩) (List.mem_map.2 ⟨e', he', heq.symm⟩)⟩
  ·symm
   apply List.filter_eq_self.2
   intro i hi
   have := List.mem_range.1 hi
   simp [this]
  ·intro i o ho hl
   exfalso
   have := (Array.getElem?_eq_some_iff.1 ho).1
   simp [this] at hl
end
end
end Go.PW
