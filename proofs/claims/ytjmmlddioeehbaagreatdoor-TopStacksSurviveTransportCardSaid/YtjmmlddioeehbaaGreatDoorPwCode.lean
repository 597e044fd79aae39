/-
  PwCode: code, state changes that cost nothing, a whole function.
-/
import Derived.Test.YtjmmlddioeehbaaGreatDoorPwRegion
namespace Go.PW
open Go.RowKit
noncomputable section
inductive LCode where
  | skip
  | reg (g : LReg)
  | seq (a b : LCode)
  | cond (c : LX) (a b : LCode)
  | block (id : Nat) (c : LCode)
  | loop (c : LCode)
  | exit (id : Nat)
  | ret
def compCode (P : Program) (N : Nat) : Code → Option LCode
  | .skip => some .skip
  | .region _ ops draw => (compRegion P N ops.toList draw).map .reg
  | .seq a b => match compCode P N a, compCode P N b with
    | some x, some y => some (.seq x y)
    | _, _ => none
  | .cond c a b => match compX c, compCode P N a, compCode P N b with
    | some l, some x, some y => some (.cond l x y)
    | _, _, _ => none
  | .block id c => (compCode P N c).map (.block id)
  | .loop c => (compCode P N c).map .loop
  | .exit id => some (.exit id)
  | .ret => some .ret
  | _ => none
inductive Ex where
  | normal
  | exit (id : Nat)
  | ret
def postOf (w0 : Base) (I0 : Fri) (N : Nat) (Q : Ex → St → Prop) : Exit → Act → World → Prop
  | .normal, a, w => ∃ st hd, Rep w0 I0 N st a w hd ∧ Q .normal st
  | .exit id, a, w => ∃ st hd, Rep w0 I0 N st a w hd ∧ Q (.exit id) st
  | .ret, a, w => ∃ st hd, Rep w0 I0 N st a w hd ∧ Q .ret st
  | _, _, _ => False
def Ev (P : Program) (N : Nat) (L : LCode) (st : St) (Q : Ex → St → Prop) : Prop :=
  ∀ (w0 : Base) (I0 : Fri) (c : Code) (a : Act) (w : World) (hd : Nat → Value), compCode P N c = some L → Rep w0 I0 N st a w hd → c.wp P (postOf w0 I0 N Q) a w
def Wk (st st' : St) : Prop := ∀ (w0 : Base) (I0 : Fri) (N : Nat) (a : Act) (w : World) (hd : Nat → Value), Rep w0 I0 N st a w hd → ∃ hd', Rep w0 I0 N st' a w hd'
def wpS (r : Option St) (K : St → Prop) : Prop := match r with
  | some s => K s
  | none => False
section
variable {P : Program} {N : Nat} {st st' : St} {Q Q' : Ex → St → Prop}
theorem Ev.weak {L : LCode} (h : Ev P N L st' Q) (hw : Wk st st') : Ev P N L st Q := by
  intro w0 I0 c a w hd hc R
  obtain ⟨hd', R'⟩ := hw _ _ _ _ _ _ R
  exact h w0 I0 c a w hd' hc R'
theorem postOf_mono {w0 : Base} {I0 : Fri} (h : ∀ e s, Q e s → Q' e s) : ∀ e a w, postOf w0 I0 N Q e a w → postOf w0 I0 N Q' e a w := by
  intro e a w hp
  cases e <;> simp only [postOf] at hp ⊢ <;> obtain ⟨s, hd, R, q⟩ := hp <;> exact ⟨s, hd, R, h _ _ q⟩
theorem Ev.mono {L : LCode} (h : Ev P N L st Q) (hq : ∀ e s, Q e s → Q' e s) : Ev P N L st Q' := fun w0 I0 c a w hd hc R => wp_mono (h w0 I0 c a w hd hc R) (postOf_mono hq)
theorem Ev.skip (h : Q .normal st) : Ev P N .skip st Q := by
  intro w0 I0 c a w hd hc R
  cases c <;> simp only [compCode, reduceCtorEq] at hc
  case skip => exact wp_skip ⟨st, hd, R, h⟩
  all_goals (first | (simp only [Option.map_eq_some_iff] at hc; obtain ⟨_, _, h⟩ := hc; cases h) | (split at hc <;> simp at hc) | (cases hc))
theorem Ev.exit {id : Nat} (h : Q (.exit id) st) : Ev P N (.exit id) st Q := by
  intro w0 I0 c a w hd hc R
  cases c <;> simp only [compCode, reduceCtorEq] at hc
  case exit id' => injection hc with hc; injection hc with hc; subst hc; exact wp_exit ⟨st, hd, R, h⟩
  all_goals (first | (simp only [Option.map_eq_some_iff] at hc; obtain ⟨_, _, h⟩ := hc; cases h) | (split at hc <;> simp at hc) | (cases hc))
theorem Ev.ret (h : Q .ret st) : Ev P N .ret st Q := by
  intro w0 I0 c a w hd hc R
  cases c <;> simp only [compCode, reduceCtorEq] at hc
  case ret => exact wp_ret ⟨st, hd, R, h⟩
  all_goals (first | (simp only [Option.map_eq_some_iff] at hc; obtain ⟨_, _, h⟩ := hc; cases h) | (split at hc <;> simp at hc) | (cases hc))
def Ex.then (next : St → Prop) (Q : Ex → St → Prop) : Ex → St → Prop
  | .normal, s => next s
  | e, s => Q e s
theorem Ev.seq {x y : LCode} (h : Ev P N x st (Ex.then (fun s => Ev P N y s Q) Q)) : Ev P N (.seq x y) st Q := by
  intro w0 I0 c a w hd hc R
  cases c <;> simp only [compCode, reduceCtorEq] at hc
  case seq c1 c2 =>
    split at hc
    · rename_i x' y' h1 h2
      injection hc with hc; injection hc with hx hy; subst hx hy
      refine wp_seq (wp_mono (h w0 I0 c1 a w hd h1 R) ?_)
      intro e a' w' hp
      cases e <;> simp only [postOf, Ex.then, Exit.then] at hp ⊢
      · obtain ⟨s, hd', R', he⟩ := hp
        exact he w0 I0 c2 a' w' hd' h2 R'
      all_goals exact hp
    · cases hc
  all_goals (first | (simp only [Option.map_eq_some_iff] at hc; obtain ⟨_, _, h⟩ := hc; cases h) | (split at hc <;> simp at hc) | (cases hc))
theorem Ev.cond {l : LX} {x y : LCode} {b : Bool} (hl : lx st.slots l = some (.bool b)) (ht : b = true → Ev P N x st Q) (hf : b = false → Ev P N y st Q) : Ev P N (.cond l x y) st Q := by
  intro w0 I0 c a w hd hc R
  cases c <;> simp only [compCode, reduceCtorEq] at hc
  case cond c0 c1 c2 =>
    split at hc
    · rename_i l' x' y' h0 h1 h2
      injection hc with hc; injection hc with h3 h4 h5; subst h3 h4 h5
      have hb := (x_sound R.mem R.slot h0 hl).bool_inv
      exact wp_cond_split hb (fun e => ht e w0 I0 c1 a w hd h1 R) (fun e => hf e w0 I0 c2 a w hd h2 R)
    · cases hc
  all_goals (first | (simp only [Option.map_eq_some_iff] at hc; obtain ⟨_, _, h⟩ := hc; cases h) | (split at hc <;> simp at hc) | (cases hc))
def Ex.inBlock (id : Nat) (Q : Ex → St → Prop) : Ex → St → Prop
  | .exit id', s => if id' = id then Q .normal s else Q (.exit id') s
  | e, s => Q e s
theorem Ev.block {id : Nat} {x : LCode} (h : Ev P N x st (Ex.inBlock id Q)) : Ev P N (.block id x) st Q := by
  intro w0 I0 c a w hd hc R
  cases c <;> simp only [compCode, reduceCtorEq] at hc
  case block id' c1 =>
    simp only [Option.map_eq_some_iff] at hc
    obtain ⟨x', h1, h2⟩ := hc
    injection h2 with h2 h3; subst h2 h3
    refine wp_block (wp_mono (h w0 I0 c1 a w hd h1 R) ?_)
    intro e a' w' hp
    cases e <;> simp only [postOf, Ex.inBlock, Exit.inBlock] at hp ⊢
    case exit k =>
      by_cases hk : k = id'
      · simp only [if_pos hk] at hp ⊢; exact hp
      · simp only [if_neg hk] at hp ⊢; exact hp
    all_goals exact hp
  all_goals (first | (simp only [Option.map_eq_some_iff] at hc; obtain ⟨_, _, h⟩ := hc; cases h) | (split at hc <;> simp at hc) | (cases hc))
theorem Ev.loop {x : LCode} {β : Type} (I : β → St → Prop) (μ : β → Nat) (g0 : β) (h0 : I g0 st) (round : ∀ g s, I g s → Ev P N x s (Ex.then (fun s' => ∃ g' s'', Wk s' s'' ∧ I g' s'' ∧ μ g' < μ g) Q)) : Ev P N (.loop x) st Q := by
  intro w0 I0 c a w hd hc R
  cases c <;> simp only [compCode, reduceCtorEq] at hc
  case loop c1 =>
    simp only [Option.map_eq_some_iff] at hc
    obtain ⟨x', h1, h2⟩ := hc
    injection h2 with h2; subst h2
    intro b k cs
    have key : ∀ n (g : β) (s : St) (a : Act) (w : World) (hd : Nat → Value), μ g = n → I g s → Rep w0 I0 N s a w hd →
        ∃ e a' w', postOf w0 I0 N Q e a' w' ∧ Arrives P (lone (b.at a (.code c1 :: .inLoop c1 :: k)) cs w) b k cs e a' w' := by
      intro n
      induction n using Nat.strongRecOn with
      | _ n ih =>
        intro g s a w hd hn hI R
        obtain ⟨e, a₁, w₁, hq, harr⟩ := round g s hI w0 I0 c1 a w hd h1 R b (.inLoop c1 :: k) cs
        cases e with
        | normal =>
          obtain ⟨s', hd', R', g', s'', hwk, hI', hlt⟩ := hq
          obtain ⟨hd'', R''⟩ := hwk _ _ _ _ _ _ R'
          obtain ⟨e₂, a₂, w₂, hq₂, harr₂⟩ := ih (μ g') (hn ▸ hlt) g' s'' a₁ w₁ hd'' rfl hI' R''
          exact ⟨e₂, a₂, w₂, hq₂, .of_steps (Steps.trans harr (.one step_inLoop)) harr₂⟩
        | exit id => exact ⟨.exit id, a₁, w₁, hq, .pass (x := .inLoop c1) rfl (fun _ _ => .inl (by simp)) harr⟩
        | goto l => exact hq.elim
        | ret => exact ⟨.ret, a₁, w₁, hq, .pass (x := .inLoop c1) rfl (fun _ _ => .inl (by simp)) harr⟩
        | panic ch => exact hq.elim
        | outgrown => exact hq.elim
    obtain ⟨e, a', w', hq, harr⟩ := key _ g0 st a w hd rfl h0 R
    exact ⟨e, a', w', hq, .of_steps (.one step_loop) harr⟩
  all_goals (first | (simp only [Option.map_eq_some_iff] at hc; obtain ⟨_, _, h⟩ := hc; cases h) | (split at hc <;> simp at hc) | (cases hc))
theorem Ev.reg {g : LReg} {Γ : List (Nat × Fact P)} (hm : P.follows .mixedOrders = true) (h : wpS (runReg Γ g st) (Q .normal)) : Ev P N (.reg g) st Q := by
  intro w0 I0 c a w hd hc R
  cases c <;> simp only [compCode, reduceCtorEq] at hc
  case region id ops draw =>
    simp only [Option.map_eq_some_iff] at hc
    obtain ⟨g', h1, h2⟩ := hc
    injection h2 with h2; subst h2
    unfold wpS at h
    split at h
    · rename_i s hs
      exact region_sound hm h1 hs R fun a' w' hd' R' => ⟨s, hd', R', h⟩
    · exact h.elim
  all_goals (first | (simp only [Option.map_eq_some_iff] at hc; obtain ⟨_, _, h⟩ := hc; cases h) | (split at hc <;> simp at hc) | (cases hc))
def initSt (args : List PV) : St := { slots := args.zipIdx.map fun x => (x.2, x.1), mem := [], gen := 2 }
inductive LRes where
  | t (n : Nat)
  | cell (a n : Nat) (ag : Bool)
def compRes (P : Program) : List ResultVar → Option (List LRes)
  | [] => some []
  | .tmp t :: r => if t < gst then (compRes P r).map (.t t :: ·) else none
  | .cell a ty :: r => if a < gst then match sizeT P ty, isAggT P ty, compRes P r with
    | some n, some ag, some l => some (.cell a n ag :: l)
    | _, _, _ => none
    else none
def resR (st : St) : LRes → Option PV
  | .t n => look st.slots n
  | .cell a n ag => match look st.slots a with
    | some (.pown nm ver i j) => match liveF (look st.mem) nm ver with
      | some e => match e.es[i]? with
        | some cs => rd n ag (cs.drop j)
        | none => none
      | none => none
    | some (.pim cs) => rd n ag cs
    | _ => none
def resD (st : St) (r : LRes) : Option PV := match resR st r with
  | some p => match argD (look st.mem) p with
    | some q => if q.dataOk then some q else none
    | none => none
  | none => none
def resRs (st : St) : List LRes → Option (List PV)
  | [] => some []
  | r :: l => match resR st r, resRs st l with
    | some p, some ps => some (p :: ps)
    | _, _ => none
def resDs (st : St) : List LRes → Option (List PV)
  | [] => some []
  | r :: l => match resD st r, resDs st l with
    | some p, some ps => some (p :: ps)
    | _, _ => none
def resOne : List PV → PV
  | [p] => p
  | ps => .tup ps
end
section
variable {P : Program} {N : Nat} {st : St} {a : Act} {w : World} {w0 : Base} {hd : Nat → Value} {I0 : Fri}
theorem argD_out {v : Value} {p q : PV} (R : Rep w0 I0 N st a w hd) (h : RV { w, mem := st.mem, hd, gen := st.gen, I0 := fun b => I0 b ∨ w0.w.heap.size ≤ b, gh := I0.gh } v p) (ha : argD (look st.mem) p = some q) (hq : q.dataOk = true) :
    DV w (fun b => I0 b ∨ w0.w.heap.size ≤ b) v q := by
  have M := R.mem
  have himm : ∀ {v : Value} {p : PV}, DV w (imm st.mem hd fun b => I0 b ∨ w0.w.heap.size ≤ b) v p → DV w (fun b => I0 b ∨ w0.w.heap.size ≤ b) v p := fun h => h.mono (Nat.le_refl _) fun b _ hi => ⟨hi.1, rfl⟩
  have row : ∀ nm ver e, live st.mem nm ver = some e → e.data = true → DV w (fun b => I0 b ∨ w0.w.heap.size ≤ b) (hd nm) (.list e.sz e.es) := by
    intro nm ver e he hdt
    obtain ⟨ys, ho, hb, hc⟩ := M.rows nm ver e he
    rcases ho.2 with ⟨h1, h2⟩ | ⟨g, cap, cur, h1, hg, hh, hn, hm, hs, ht⟩
    · have : e.es = [] := List.eq_nil_of_length_eq_zero h2
      simp only at h1
      rw [h1, this]; exact .list0 _ _ _ fun _ => rfl
    · simp only at h1 hh
      rw [h1]
      have hlt : g < w.heap.size := (Array.getElem?_eq_some_iff.1 hh).1
      refine .list ⟨g, 0, none⟩ cap e.sz e.es (fun i j => ys.getD (i * e.sz + j) undef) hn hb (M.own0 nm ver e g he (by simp only [h1]; rfl)) hlt (fun i cs hi => ⟨(hc i cs hi).1, (hc i cs hi).2.1⟩) (fun i cs j p hi hj => ?_) fun i cs j p hi hj => ?_
      · obtain ⟨u, a1, a2, a3⟩ := (hc i cs hi).2.2 j p hj
        have := ho.cells (g := g) (by simp only [h1]; rfl) _ u a1
        simp only at this
        rw [this]
        simp [List.getD, a1]
      · obtain ⟨u, a1, a2, a3⟩ := (hc i cs hi).2.2 j p hj
        have := himm (a3 hdt)
        simpa [List.getD, a1] using this
  have simple : argD (look st.mem) p = some p → DV w (fun b => I0 b ∨ w0.w.heap.size ≤ b) v q := by
    intro h'
    rw [ha] at h'; injection h' with h'; subst h'
    exact himm (h.dataOk hq)
  cases p
  case own nm ver =>
    simp only [argD] at ha
    split at ha
    · rename_i e he
      split at ha
      · rename_i hdt
        injection ha with ha; subst ha
        have := h.own_inv.2.2 e he
        rw [this]; exact row nm ver e he hdt
      · cases ha
    · cases ha
  case sub nm ver lo hi =>
    simp only [argD] at ha
    split at ha
    · rename_i e he
      split at ha
      · rename_i hdt
        injection ha with ha; subst ha
        exact sub_dv (row nm ver e he hdt) rfl (h.sub_inv.2.2 e he)
      · cases ha
    · cases ha
  all_goals exact simple rfl
theorem resR_sound {rv : ResultVar} {lr : LRes} {p : PV} (R : Rep w0 I0 N st a w hd) (hc : compRes P [rv] = some [lr]) (hq : resR st lr = some p) :
    ∃ v, (match rv with | .tmp t => (Pure.pure (a.tmps.getD t undef) : Sem Value) | .cell b t => do loadVar t (← asAddr (a.tmps.getD b undef))).run P w = .ok v w ∧ RV { w, mem := st.mem, hd, gen := st.gen, I0 := fun b => I0 b ∨ w0.w.heap.size ≤ b, gh := I0.gh } v p := by
  cases rv with
  | tmp t =>
    simp only [compRes, Option.map_some] at hc
    split at hc
    case isFalse => cases hc
    rename_i htg
    simp at hc; subst hc
    exact ⟨_, rfl, (R.slot.real hq htg).2⟩
  | cell b ty =>
    simp only [compRes] at hc
    split at hc
    case isFalse => cases hc
    rename_i htg
    split at hc
    case h_2 => cases hc
    rename_i n ag l h1 h2 h3
    simp at h3; subst h3
    simp at hc; subst hc
    simp only [resR] at hq
    split at hq
    case h_3 => cases hq
    case h_2 =>
      rename_i cs hp
      have hr := (R.slot.real hp htg).2
      obtain ⟨ad, f, e1, g1, g2, g3, g4, g5⟩ := hr.pim_inv
      unfold rd at hq
      cases ag
      · simp only [Bool.false_eq_true, if_false, List.head?_eq_getElem?] at hq
        refine ⟨f 0, ?_, .data _ _ (g5 0 p hq)⟩
        have hcell := g4 0 p hq
        have ha0 : ad.add 0 = ad := by unfold Addr.add; simp
        rw [ha0] at hcell
        simp [e1, asAddr, loadVar, isAggT_run h2, hcell]
      · simp only [if_true] at hq
        split at hq
        case isFalse => cases hq
        case isTrue hn =>
        injection hq with hq; subst hq
        by_cases hz : n = 0
        · subst hz
          refine ⟨.agg #[], ?_, .mk_agg (by simp) (by simp) (by simp)⟩
          simp [e1, asAddr, loadVar, isAggT_run h2, sizeT_run h1, loadCells, loadCellsFrom]
        · have hl := run_loadCells (P := P) w ad n f fun k hk => g4 k _ (List.getElem?_eq_getElem (show k < cs.length by omega))
          refine ⟨.agg ((List.range n).map fun k => f k).toArray, ?_, .mk_agg (by simp; omega) (fun p hp => g3 p (List.mem_of_mem_take hp)) fun k v p k1 k2 => ?_⟩
          · simp [e1, asAddr, loadVar, isAggT_run h2, sizeT_run h1, hl]
          · rw [List.getElem?_take] at k2
            split at k2
            · rename_i hk
              simp [hk] at k1
              subst k1
              exact .data _ _ (g5 k p k2)
            · cases k2
    rename_i nm ver i j hp
    split at hq
    case h_2 => cases hq
    rename_i e he
    split at hq
    case h_2 => cases hq
    rename_i cs hcs
    have hrd := hq
    have hr := (R.slot.real hp htg).2
    obtain ⟨g, cap, f, hh, k1, k2, k3, k4, _⟩ := row_cells R.mem he hcs
    obtain ⟨ad, n', c, e1, e2⟩ := pown_addr hr he (by obtain ⟨_, _, hbig, _⟩ := R.mem.rows _ _ _ he; exact not_bx (List.getElem?_eq_some_iff.1 hcs).1 hbig)
    rw [hh] at e1
    injection e1 with e1; injection e1 with e1; subst e1
    -- the load
    unfold rd at hrd
    cases ag
    · simp only [Bool.false_eq_true, if_false, List.head?_eq_getElem?, List.getElem?_drop] at hrd
      have hcell := k3 _ p hrd
      rw [← Nat.add_assoc, Nat.add_zero] at hcell
      refine ⟨f (j + 0), ?_, k4 _ p hrd⟩
      simp [e2, asAddr, loadVar, isAggT_run h2, hcell]
    · simp only [if_true] at hrd
      split at hrd
      case isFalse => cases hrd
      case isTrue hn =>
      injection hrd with hrd; subst hrd
      simp only [List.length_drop] at hn
      by_cases hz : n = 0
      · subst hz
        refine ⟨.agg #[], ?_, .mk_agg (by simp) (by simp) (by simp)⟩
        simp [e2, asAddr, loadVar, isAggT_run h2, sizeT_run h1, loadCells, loadCellsFrom]
      · have hl := run_loadCells (P := P) w ((⟨g, 0, none⟩ : Addr).add (i * e.sz + j)) n (fun k => f (j + k)) fun k hk => by
          rw [add_add, Nat.add_assoc]
          exact k3 _ _ (List.getElem?_eq_getElem (show j + k < cs.length by omega))
        refine ⟨.agg ((List.range n).map fun k => f (j + k)).toArray, ?_, .mk_agg (by simp; omega) (fun p hp => k2 p (List.mem_of_mem_drop (List.mem_of_mem_take hp))) fun k v p g1 g2 => ?_⟩
        · simp [e2, asAddr, loadVar, isAggT_run h2, sizeT_run h1, hl]
        · rw [getElem?_drop_take] at g2
          split at g2
          · rename_i hk
            simp [hk] at g1
            subst g1
            exact k4 _ p g2
          · cases g2
theorem resD_sound {rv : ResultVar} {lr : LRes} {q : PV} (R : Rep w0 I0 N st a w hd) (hc : compRes P [rv] = some [lr]) (hq : resD st lr = some q) :
    ∃ v, (match rv with | .tmp t => (Pure.pure (a.tmps.getD t undef) : Sem Value) | .cell b t => do loadVar t (← asAddr (a.tmps.getD b undef))).run P w = .ok v w ∧ DV w (fun b => I0 b ∨ w0.w.heap.size ≤ b) v q := by
  unfold resD at hq
  split at hq
  case h_2 => cases hq
  rename_i p hp
  split at hq
  case h_2 => cases hq
  rename_i q' ha
  split at hq
  case isFalse => cases hq
  case isTrue hok =>
  injection hq with hq; subst hq
  obtain ⟨v, h1, h2⟩ := resR_sound R hc hp
  exact ⟨v, h1, argD_out R h2 ha hok⟩
end
end
end Go.PW
