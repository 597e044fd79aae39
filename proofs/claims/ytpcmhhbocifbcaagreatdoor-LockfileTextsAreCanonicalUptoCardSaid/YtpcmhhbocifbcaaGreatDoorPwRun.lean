/-
  PwRun: one operation, whatever it is; its guard; the state of a call.
-/
import Derived.Test.YtpcmhhbocifbcaaGreatDoorPwNew
namespace Go.PW
open Go.RowKit
section
variable {P : Program} {o : Oper} {a : Act} {Q : Exit → Act → World → Prop} {w0 : Base} {C : Ctx}
variable {N : Nat} {slots : List (Nat × PV)} {Γ : List (Nat × Fact P)} {xs : List PV} {r : PV} {up : List (Nat × Ent)}
theorem comp2_some {x y : Operand} {k : LX → LX → LOp} {lo : LOp} (h : comp2 x y k = some lo) : ∃ l m, compX x = some l ∧ compX y = some m ∧ lo = k l m := by
  unfold comp2 at h
  split at h
  · rename_i l m h1 h2; injection h with h; exact ⟨l, m, h1, h2, h.symm⟩
  · cases h
theorem isBoolT_some {t : TypeId} (h : isBoolT P t = true) : P.underlying t = some .bool := by
  unfold isBoolT at h
  split at h
  · assumption
  · cases h
theorem isStrT_some {t : TypeId} (h : isStrT P t = true) : P.underlying t = some .string := by
  unfold isStrT at h
  split at h
  · assumption
  · cases h
theorem isSliceT_some {t : TypeId} (h : isSliceT P t = true) : ∃ e, P.underlying t = some (.slice e) := by
  unfold isSliceT at h
  split at h
  · exact ⟨_, by assumption⟩
  · cases h
theorem array1 {α : Type} {xs : Array α} {x : α} (h : xs.toList = [x]) : xs = #[x] := Array.ext' (by simpa using h)
theorem array2 {α : Type} {xs : Array α} {x y : α} (h : xs.toList = [x, y]) : xs = #[x, y] := Array.ext' (by simpa using h)
theorem op_sound {lo : LOp} (hc : compK P o.op = some lo) (hs : SlotsOk C N slots a) (M : MemInv w0 C) (ha : lxs slots lo.args = some xs)
    (hact : lo.act Γ o.dst C.gen xs (look C.mem) = some (r, up)) : Goal P o a Q w0 C r up := by
  cases ho : o.op with
  | move x =>
    rw [ho] at hc
    simp only [compK, Option.map_eq_some_iff] at hc
    obtain ⟨l, h1, rfl⟩ := hc
    exact sound_move hs M (.inl ho) h1 ha hact
  | assign x =>
    rw [ho] at hc
    simp only [compK, Option.map_eq_some_iff] at hc
    obtain ⟨l, h1, rfl⟩ := hc
    exact sound_move hs M (.inr ho) h1 ha hact
  | pick c x y =>
    rw [ho] at hc
    simp only [compK] at hc
    split at hc
    · rename_i h1 h2 h3
      injection hc with hc; subst hc
      exact sound_pick hs M ho h1 h2 h3 ha hact
    · cases hc
  | binOp op t x y u =>
    rw [ho] at hc
    simp only [compK] at hc
    split at hc
    · rename_i hsn
      simp only [Bool.and_eq_true] at hsn
      obtain ⟨e, hu⟩ := isSliceT_some hsn.1
      split at hc
      · simp only [Option.map_eq_some_iff] at hc
        obtain ⟨l, h1, rfl⟩ := hc
        exact sound_isnil (neg := false) hs M ho rfl hu hsn.2 h1 ha hact
      · simp only [Option.map_eq_some_iff] at hc
        obtain ⟨l, h1, rfl⟩ := hc
        exact sound_isnil (neg := true) hs M ho rfl hu hsn.2 h1 ha hact
      · cases hc
    split at hc
    · rename_i hsn
      simp only [Bool.and_eq_true] at hsn
      split at hc
      · simp only [Option.map_eq_some_iff] at hc
        obtain ⟨l, h1, rfl⟩ := hc
        exact sound_isnilI (neg := false) hs M ho rfl hsn.1 hsn.2 h1 ha hact
      · simp only [Option.map_eq_some_iff] at hc
        obtain ⟨l, h1, rfl⟩ := hc
        exact sound_isnilI (neg := true) hs M ho rfl hsn.1 hsn.2 h1 ha hact
      · cases hc
    simp only [compBin] at hc
    split at hc
    · obtain ⟨l, m, h1, h2, rfl⟩ := comp2_some hc
      exact sound_bin hs M ho h1 h2 ha hact
    · split at hc
      · split at hc
        · rename_i hb
          obtain ⟨l, m, h1, h2, rfl⟩ := comp2_some hc
          refine sound_eqb (neg := false) hs M ho rfl ?_ h1 h2 ha hact
          exact isBoolT_some hb
        · split at hc
          · rename_i ks hks
            obtain ⟨l, m, h1, h2, rfl⟩ := comp2_some hc
            exact sound_eqs (neg := false) hs M ho rfl hks h1 h2 ha hact
          · cases hc
      · split at hc
        · rename_i hb
          obtain ⟨l, m, h1, h2, rfl⟩ := comp2_some hc
          refine sound_eqb (neg := true) hs M ho rfl ?_ h1 h2 ha hact
          exact isBoolT_some hb
        · split at hc
          · rename_i ks hks
            obtain ⟨l, m, h1, h2, rfl⟩ := comp2_some hc
            exact sound_eqs (neg := true) hs M ho rfl hks h1 h2 ha hact
          · cases hc
      · cases hc
  | unOp op t x =>
    rw [ho] at hc
    simp only [compK] at hc
    split at hc
    · simp only [Option.map_eq_some_iff] at hc
      obtain ⟨l, h1, rfl⟩ := hc
      exact sound_un hs M ho h1 ha hact
    · simp only [Option.map_eq_some_iff] at hc
      obtain ⟨l, h1, rfl⟩ := hc
      exact sound_un hs M ho h1 ha hact
    · cases hc
  | convert src dst x =>
    rw [ho] at hc
    simp only [compK] at hc
    split at hc
    · rename_i e he
      simp only [Option.map_eq_some_iff] at hc
      obtain ⟨l, h1, rfl⟩ := hc
      exact sound_toBytes hs M ho he h1 ha hact
    split at hc
    · rename_i k' k h1 h2
      simp only [Option.map_eq_some_iff] at hc
      obtain ⟨l, h3, rfl⟩ := hc
      exact sound_conv hs M ho h1 h2 h3 ha hact
    · cases hc
  | field t x i =>
    rw [ho] at hc
    simp only [compK] at hc
    split at hc
    · rename_i off n ag l h1 h2
      injection hc with hc; subst hc
      exact sound_field hs M ho h1 h2 ha hact
    · cases hc
  | extract x i =>
    rw [ho] at hc
    simp only [compK, Option.map_eq_some_iff] at hc
    obtain ⟨l, h1, rfl⟩ := hc
    exact sound_extract hs M ho h1 ha hact
  | fieldAddr t x i =>
    rw [ho] at hc
    simp only [compK] at hc
    split at hc
    · rename_i off n ag l h1 h2
      split at hc
      · rename_i hn
        injection hc with hc; subst hc
        exact sound_fieldAddr hs M ho h1 hn h2 ha hact
      · cases hc
    · cases hc
  | indexAddr t x i =>
    rw [ho] at hc
    simp only [compK] at hc
    split at hc
    · rename_i n h1
      obtain ⟨l, m, h2, h3, rfl⟩ := comp2_some hc
      exact sound_idx hs M ho h1 h2 h3 ha hact
    · rename_i n0 n h1
      obtain ⟨l, m, h2, h3, rfl⟩ := comp2_some hc
      exact sound_idxA hs M ho h1 h2 h3 ha hact
    · cases hc
  | index t x i =>
    rw [ho] at hc
    simp only [compK] at hc
    split at hc
    · rename_i hb
      obtain ⟨l, m, h2, h3, rfl⟩ := comp2_some hc
      refine sound_sidx hs M ho ?_ h2 h3 ha hact
      exact isStrT_some hb
    · split at hc
      · rename_i n s ag hv
        obtain ⟨l, m, h2, h3, rfl⟩ := comp2_some hc
        exact sound_vidx hs M ho hv h2 h3 ha hact
      · cases hc
  | load t x =>
    rw [ho] at hc
    simp only [compK] at hc
    split at hc
    · rename_i h1 h2 h3
      injection hc with hc; subst hc
      exact sound_load hs M ho h1 h2 h3 ha hact
    · cases hc
  | store t x v =>
    rw [ho] at hc
    simp only [compK] at hc
    split at hc
    · rename_i h1 h2 h3
      injection hc with hc; subst hc
      exact sound_store hs M ho h1 h2 h3 ha hact
    · cases hc
  | alloc t =>
    rw [ho] at hc
    simp only [compK] at hc
    split at hc
    · rename_i n z h1 h2
      split at hc
      · injection hc with hc; subst hc
        exact sound_alloc M ho h2 ha hact
      · cases hc
    · cases hc
  | box t x =>
    rw [ho] at hc
    simp only [compK] at hc
    split at hc
    · rename_i h1 h2
      injection hc with hc; subst hc
      exact sound_box hs M ho h2 ha hact
    · cases hc
  | build t parts =>
    rw [ho] at hc
    simp only [compK] at hc
    split at hc
    · rename_i fs z h1 h2
      split at hc
      · rename_i h3
        simp only [Option.map_eq_some_iff] at hc
        obtain ⟨ls, h4, rfl⟩ := hc
        exact sound_build hs M ho h1 h2 h3 h4 ha hact
      · cases hc
    · rename_i n e z h1 h2
      split at hc
      · rename_i s h3
        simp only [Option.map_eq_some_iff] at hc
        obtain ⟨ls, h4, rfl⟩ := hc
        exact sound_buildA hs M ho h1 h2 h3 h4 ha hact
      · cases hc
    · cases hc
  | buildSlice t len parts =>
    rw [ho] at hc
    simp only [compK] at hc
    split at hc
    · rename_i e sz by_ z ps h1 h2
      split at hc
      · rename_i h3
        injection hc with hc; subst hc
        exact sound_mkSlice hs M ho h1 h2 h3 ha hact
      · cases hc
    · cases hc
  | makeSlice t l c =>
    rw [ho] at hc
    simp only [compK] at hc
    split at hc
    · rename_i hsame
      split at hc
      · rename_i e sz by_ z l' h1 h2
        injection hc with hc; subst hc
        refine sound_make hs M ho ?_ h1 h2 ha hact
        unfold sameX at hsame
        split at hsame
        · simp at hsame; rw [hsame]
        · simp at hsame; rw [hsame]
        · cases hsame
      · cases hc
    · cases hc
  | slice t x lo hi mx =>
    rw [ho] at hc
    cases mx with
    | some m => simp [compK] at hc
    | none =>
      simp only [compK] at hc
      split at hc
      · rename_i lx' l h h1 h2 h3
        split at hc
        · rename_i hu
          injection hc with hc; subst hc
          exact sound_sslice (ty := 0) rfl hs M ho hu h1 h2 h3 ha hact
        · rename_i e hu
          simp only [Option.map_eq_some_iff] at hc
          obtain ⟨n, h4, rfl⟩ := hc
          exact sound_slice hs M ho hu h4 h1 h2 h3 ha hact
        · cases hc
      · cases hc
  | nilCheck x =>
    rw [ho] at hc
    simp only [compK, Option.map_eq_some_iff] at hc
    obtain ⟨l, h1, rfl⟩ := hc
    exact sound_nilCheck hs M ho h1 ha hact
  | makeFunc fn first caps =>
    rw [ho] at hc
    cases fn <;> simp only [compK, reduceCtorEq] at hc
    split at hc
    · rename_i h1 h2
      injection hc with hc; subst hc
      exact sound_mkfn hs M ho h1 h2 ha hact
    · cases hc
  | call c =>
    rw [ho] at hc
    simp only [compK] at hc
    split at hc
    · rename_i f hcal
      split at hc
      · rename_i hb
        simp only [Option.map_eq_some_iff] at hc
        obtain ⟨ls, h1, rfl⟩ := hc
        exact sound_call hs M ho hcal hb h1 ha hact
      · cases hc
    · rename_i x _ hcal
      split at hc
      · rename_i h1 h2
        injection hc with hc; subst hc
        exact sound_callv hs M ho hcal h1 h2 ha hact
      · cases hc
    · rename_i b hcal
      unfold compBuiltin at hc
      split at hc
      · rename_i t x ht hx
        split at hc
        · rename_i hu
          simp only [Option.map_eq_some_iff] at hc
          obtain ⟨l, h1, rfl⟩ := hc
          exact sound_slen hs M ho hcal (array1 hx) (array1 ht) hu h1 ha hact
        · rename_i e hu
          simp only [Option.map_eq_some_iff] at hc
          obtain ⟨l, h1, rfl⟩ := hc
          exact sound_len hs M ho hcal (array1 hx) (array1 ht) e hu h1 ha hact
        · cases hc
      · rename_i t u s x ht hx
        split at hc
        · rename_i htu
          subst htu
          split at hc
          · rename_i e sz by_ z h1
            obtain ⟨l, m, h2, h3, rfl⟩ := comp2_some hc
            exact sound_append hs M ho hcal (array2 hx) (array2 ht) h1 h2 h3 ha hact
          · cases hc
        · cases hc
      · rename_i t u s x ht hx
        split at hc
        · rename_i htu
          subst htu
          split at hc
          · rename_i e sz by_ z h1
            obtain ⟨l, m, h2, h3, rfl⟩ := comp2_some hc
            exact sound_copy hs M ho hcal (array2 hx) (array2 ht) h1 h2 h3 ha hact
          · cases hc
        · cases hc
      · rename_i t x ht hx
        split at hc
        · rename_i e sz by_ z h1
          simp only [Option.map_eq_some_iff] at hc
          obtain ⟨l, h2, rfl⟩ := hc
          exact sound_clear hs M ho hcal (array1 hx) (array1 ht) h1 h2 ha hact
        · cases hc
      · rename_i x y hx
        obtain ⟨l, m, h2, h3, rfl⟩ := comp2_some hc
        exact sound_mx false hs M ho hcal (array2 hx) h2 h3 ha hact
      · rename_i x y hx
        obtain ⟨l, m, h2, h3, rfl⟩ := comp2_some hc
        exact sound_mx true hs M ho hcal (array2 hx) h2 h3 ha hact
      · cases hc
    · cases hc
  | _ => rw [ho] at hc; simp [compK] at hc
end
structure Fri where
  I0 : Nat → Prop
  fr : Nat → Option Obj
  gh : Nat → Value
instance : CoeFun Fri (fun _ => Nat → Prop) := ⟨Fri.I0⟩
theorem Later.frame {C C' : Ctx} (L : Later C C') {fr : Nat → Option Obj} (h : ∀ b o, fr b = some o → b < C.w.heap.size ∧ C.w.heap[b]? = some o ∧ PW.free C.mem C.hd b) :
    ∀ b o, fr b = some o → b < C'.w.heap.size ∧ C'.w.heap[b]? = some o ∧ PW.free C'.mem C'.hd b := fun b o e => by
  obtain ⟨h1, h2, h3⟩ := h b o e
  exact ⟨Nat.lt_of_lt_of_le h1 L.size, by rw [(L.free_ b h1 h3).2]; exact h2, (L.free_ b h1 h3).1⟩
structure Rep (w0 : Base) (I0 : Fri) (N : Nat) (st : St) (a : Act) (w : World) (hd : Nat → Value) : Prop where
  mem : MemInv w0 { w, mem := st.mem, hd, gen := st.gen, I0 := fun b => I0 b ∨ w0.w.heap.size ≤ b, gh := I0.gh }
  defers : a.defers = []
  size : a.tmps.size = N
  top : N ≤ gst
  slot : SlotsOk { w, mem := st.mem, hd, gen := st.gen, I0 := fun b => I0 b ∨ w0.w.heap.size ≤ b, gh := I0.gh } N st.slots a
  frame : ∀ b o, I0.fr b = some o → b < w.heap.size ∧ w.heap[b]? = some o ∧ free st.mem hd b
section
variable {P : Program} {o : Oper} {a : Act} {Q : Exit → Act → World → Prop} {w0 : Base} {w : World} {I0 : Fri}
variable {N : Nat} {st st' : St} {hd : Nat → Value} {Γ : List (Nat × Fact P)}
theorem getD_put {a : Act} {d t : Nat} {v : Value} (h : d < a.tmps.size) : (a.put (some d) v).tmps.getD t undef = if d = t then v else a.tmps.getD t undef := by
  simp only [Act.put, Array.getD_eq_getD_getElem?, Array.getElem?_setIfInBounds]
  by_cases hd : d = t
  · subst hd; simp [h]
  · simp [hd]
theorem Rep.put {d : Option Nat} {v : Value} {p : PV} {w' : World} {hd' : Nat → Value} {mem' : List (Nat × Ent)} (R : Rep w0 I0 N st a w hd) (hdn : ∀ x, d = some x → x < N)
    (M : MemInv w0 { w := w', mem := mem', hd := hd', gen := st.gen, I0 := fun b => I0 b ∨ w0.w.heap.size ≤ b, gh := I0.gh })
    (L : Later { w, mem := st.mem, hd, gen := st.gen, I0 := fun b => I0 b ∨ w0.w.heap.size ≤ b, gh := I0.gh } { w := w', mem := mem', hd := hd', gen := st.gen, I0 := fun b => I0 b ∨ w0.w.heap.size ≤ b, gh := I0.gh })
    (h : RV { w := w', mem := mem', hd := hd', gen := st.gen, I0 := fun b => I0 b ∨ w0.w.heap.size ≤ b, gh := I0.gh } v p) :
    Rep w0 I0 N { slots := PW.put st.slots d p, mem := mem', gen := st.gen } (a.put d v) w' hd' := by
  cases d with
  | none => exact ⟨M, R.defers, R.size, R.top, fun t q ht => ⟨(R.slot t q ht).1, L.rv (R.slot t q ht).2⟩, L.frame R.frame⟩
  | some d =>
    have hdl := hdn d rfl
    refine ⟨M, R.defers, by simpa [Act.put] using R.size, R.top, fun t q ht => ?_, L.frame R.frame⟩
    by_cases hdt : d = t
    · subst hdt
      rw [PW.put, look_same] at ht
      injection ht with ht; subst ht
      refine ⟨.inl hdl, ?_⟩
      rw [slotV_lt (Nat.lt_of_lt_of_le hdl R.top), getD_put (by rw [R.size]; exact hdl), if_pos rfl]
      exact h
    · rw [PW.put, look_ne _ _ hdt] at ht
      refine ⟨(R.slot t q ht).1, ?_⟩
      have h2 := L.rv (R.slot t q ht).2
      unfold slotV at h2 ⊢
      rw [getD_put (by rw [R.size]; exact hdl), if_neg hdt]
      exact h2
theorem op_soundB {k lo : LOp} (hk : k = (compK P o.op).getD .bad) (hlo : lo = k) {slots : List (Nat × PV)} {C : Ctx} {xs : List PV} {r : PV} {up : List (Nat × Ent)} (hs : SlotsOk C N slots a) (M : MemInv w0 C) (ha : lxs slots lo.args = some xs)
    (hact : lo.act Γ o.dst C.gen xs (look C.mem) = some (r, up)) : Goal P o a Q w0 C r up := by
  subst hlo
  cases h : compK P o.op with
  | none => rw [h] at hk; subst hk; simp [LOp.act] at hact
  | some k' => rw [h] at hk; subst hk; exact op_sound h hs M ha hact
theorem step_sound {ops : Array Oper} {lo : LOper} (R : Rep w0 I0 N st a w hd) (hc : compOper P N ops.toList o = some lo) (hstep : step Γ lo st = some st') {K : Act → World → Prop}
    (hK : ∀ a' w' hd', Rep w0 I0 N st' a' w' hd' → K a' w') :
    if Region.wanted o (yielded ops a.tmps) then o.wp P a w K Q ∨ (o.asks P a w ∧ LetsOut Q) else K (a.put o.dst undef) w := by
  unfold compOper at hc
  split at hc
  case h_2 => cases hc
  rename_i g hg
  obtain ⟨k, hk⟩ : ∃ k, k = (compK P o.op).getD .bad := ⟨_, rfl⟩
  rw [← hk] at hc
  -- the slots
  have hdst : lo.dst = o.dst ∧ lo.guard = g ∧ lo.op = k ∧ ∀ x, o.dst = some x → x < N := by
    split at hc
    · rename_i d hd
      split at hc
      · rename_i hlt
        injection hc with hc; subst hc
        exact ⟨hd.symm, rfl, rfl, fun x hx => by rw [hd] at hx; injection hx with hx; subst hx; exact hlt⟩
      · cases hc
    · rename_i hd
      injection hc with hc; subst hc
      exact ⟨hd.symm, rfl, rfl, fun x hx => by rw [hd] at hx; cases hx⟩
  obtain ⟨e1, e2, e3, hdn⟩ := hdst
  -- the operation itself
  have go : ∀ s, (match lxs st.slots lo.op.args with
      | none => none
      | some xs => (lo.op.act Γ lo.dst st.gen xs (look st.mem)).map fun r => { st with slots := PW.put st.slots lo.dst r.1, mem := r.2 ++ st.mem }) = some s →
      (∀ a' w' hd', Rep w0 I0 N s a' w' hd' → K a' w') → o.wp P a w K Q := by
    intro s hgo hK
    split at hgo
    · cases hgo
    · rename_i xs hxs
      simp only [Option.map_eq_some_iff] at hgo
      obtain ⟨⟨r, up⟩, hact, rfl⟩ := hgo
      rw [e1, e3] at hact
      rw [e3] at hxs
      refine op_soundB (Γ := Γ) hk rfl R.slot R.mem hxs hact K fun v w' hd' M L h => ?_
      refine hK _ w' hd' ?_
      rw [e1]
      exact R.put hdn M L h
  have skip : (∀ a' w' hd', Rep w0 I0 N { st with slots := PW.put st.slots lo.dst (.tup []) } a' w' hd' → K a' w') → K (a.put o.dst undef) w := by
    intro hK
    refine hK _ w hd ?_
    rw [e1]
    exact R.put hdn R.mem (Later.refl _) (.data _ _ (.tup #[] [] rfl (by simp)))
  unfold step at hstep
  unfold compGuard at hg
  split at hg
  · rename_i hgd
    injection hg with hg; subst hg
    have hw : Region.wanted o (yielded ops a.tmps) = true := by simp [Region.wanted, hgd]
    rw [if_pos hw]
    rw [e2] at hstep
    exact .inl (go _ hstep hK)
  · rename_i j b hgd
    split at hg
    case h_2 => cases hg
    rename_i oj hoj
    split at hg
    case h_2 => cases hg
    rename_i d hdj
    split at hg
    case isFalse => cases hg
    rename_i hdg
    injection hg with hg; subst hg
    rw [e2] at hstep
    simp only at hstep
    have hy : ∀ v, a.tmps.getD d undef = v → d < N → yielded ops a.tmps j = match v with | .bool b => some b | _ => none := by
      intro v hv hlt
      have h1 : ops[j]? = some oj := by simpa using hoj
      have h2 : a.tmps[d]? = some v := by
        rw [← hv]
        have : d < a.tmps.size := by rw [R.size]; exact hlt
        simp [this]
      simp [yielded, h1, hdj, h2]
      cases v <;> rfl
    split at hstep
    · rename_i c hc'
      obtain ⟨hlt, hrv⟩ := R.slot.real hc' hdg
      have hyc := hy _ hrv.bool_inv hlt
      simp only at hyc
      by_cases hcb : c = b
      · have hw : Region.wanted o (yielded ops a.tmps) = true := by simp [Region.wanted, hgd, hyc, hcb]
        rw [if_pos hw]
        rw [if_pos hcb] at hstep
        exact .inl (go _ hstep hK)
      · have hw : Region.wanted o (yielded ops a.tmps) = false := by simp [Region.wanted, hgd, hyc, hcb]
        rw [if_neg (by simp [hw])]
        rw [if_neg hcb] at hstep
        injection hstep with hstep; subst hstep
        exact skip hK
    · rename_i hc'
      obtain ⟨hlt, hrv⟩ := R.slot.real hc' hdg
      obtain ⟨vs, hv, _⟩ := hrv.tup_inv
      have hyc := hy _ hv hlt
      simp only at hyc
      have hw : Region.wanted o (yielded ops a.tmps) = false := by simp [Region.wanted, hgd, hyc]
      rw [if_neg (by simp [hw])]
      injection hstep with hstep; subst hstep
      exact skip hK
    · cases hstep
end
end Go.PW
