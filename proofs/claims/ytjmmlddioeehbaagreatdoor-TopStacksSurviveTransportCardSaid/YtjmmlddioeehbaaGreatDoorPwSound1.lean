/-
  PwSound1: the operations that look at no memory.
-/
import Derived.Test.YtjmmlddioeehbaaGreatDoorPwComp
import Derived.Tactics
import Derived.Laws.StructEq
import Derived.Laws.Strings2
import Derived.Laws.Strings3
namespace Go.PW
open Go.RowKit
theorem RV.int_inv {C : Ctx} {v : Value} {k : IntKind} {n : Int} (h : RV C v (.int k n)) : v = .int k n := by
  cases h with | data _ _ h => cases h; rfl
theorem RV.bool_inv {C : Ctx} {v : Value} {b : Bool} (h : RV C v (.bool b)) : v = .bool b := by
  cases h with | data _ _ h => cases h; rfl
theorem RV.str_inv {C : Ctx} {v : Value} {l : List UInt8} (h : RV C v (.str l)) : v = .string ⟨l.toArray⟩ ∧ l.length ≤ big := by
  cases h with | data _ _ h => cases h with | str _ h => exact ⟨rfl, h⟩
theorem RV.nils_inv {C : Ctx} {v : Value} (h : RV C v .nils) : v = .slice none 0 0 := by
  cases h with | data _ _ h => cases h; rfl
theorem RV.agg_inv {C : Ctx} {v : Value} {cs : List PV} (h : RV C v (.agg cs)) : ∃ vs : Array Value, v = .agg vs ∧ vs.size = cs.length ∧ (∀ p ∈ cs, p.one = true) ∧
    ∀ (j : Nat) (v : Value) (p : PV), vs[j]? = some v → cs[j]? = some p → RV C v p := by
  cases h with
  | data _ _ h => cases h with | agg vs _ hl ho hv => exact ⟨vs, rfl, hl, ho, fun j v p h1 h2 => .data _ _ (hv j v p h1 h2)⟩
  | agg vs _ hl ho hv => exact ⟨vs, rfl, hl, ho, hv⟩
theorem RV.tup_inv {C : Ctx} {v : Value} {cs : List PV} (h : RV C v (.tup cs)) : ∃ vs : Array Value, v = .tuple vs ∧ vs.size = cs.length ∧
    ∀ (j : Nat) (v : Value) (p : PV), vs[j]? = some v → cs[j]? = some p → RV C v p := by
  cases h with
  | data _ _ h => cases h with | tup vs _ hl hv => exact ⟨vs, rfl, hl, fun j v p h1 h2 => .data _ _ (hv j v p h1 h2)⟩
  | tup vs _ hl hv => exact ⟨vs, rfl, hl, hv⟩
theorem RV.int {C : Ctx} (k : IntKind) (n : Int) : RV C (.int k n) (.int k n) := .data _ _ (.int k n)
theorem RV.bool {C : Ctx} (b : Bool) : RV C (.bool b) (.bool b) := .data _ _ (.bool b)
theorem RV.str {C : Ctx} (l : List UInt8) (h : l.length ≤ big) : RV C (.string ⟨l.toArray⟩) (.str l) := .data _ _ (.str l h)
theorem RV.mk_agg {C : Ctx} {vs : Array Value} {cs : List PV} (hl : vs.size = cs.length) (ho : ∀ p ∈ cs, p.one = true)
    (hv : ∀ (j : Nat) (v : Value) (p : PV), vs[j]? = some v → cs[j]? = some p → RV C v p) : RV C (.agg vs) (.agg cs) := .agg vs cs hl ho hv
def Goal (P : Program) (o : Oper) (a : Act) (Q : Exit → Act → World → Prop) (w0 : Base) (C : Ctx) (r : PV) (up : List (Nat × Ent)) : Prop :=
  ∀ K : Act → World → Prop, (∀ (v : Value) (w' : World) (hd' : Nat → Value), MemInv w0 { C with w := w', mem := up ++ C.mem, hd := hd' } →
    Later C { C with w := w', mem := up ++ C.mem, hd := hd' } → RV { C with w := w', mem := up ++ C.mem, hd := hd' } v r → K (a.put o.dst v) w') → o.wp P a C.w K Q
section
variable {P : Program} {o : Oper} {a : Act} {Q : Exit → Act → World → Prop} {w0 : Base} {C : Ctx}
theorem Goal.pure {r : PV} {v : Value} (M : MemInv w0 C) (hr : (execOp a.eval o).run P C.w = .ok (.value v) C.w) (h : RV C v r) : Goal P o a Q w0 C r [] := by
  intro K hK
  unfold Oper.wp
  rw [hr]
  exact hK v C.w C.hd M (Later.refl C) h
def slotV (C : Ctx) (a : Act) (t : Nat) : Value := if t < gst then a.tmps.getD t undef else C.gh t
theorem slotV_lt {C : Ctx} {a : Act} {t : Nat} (h : t < gst) : slotV C a t = a.tmps.getD t undef := by unfold slotV; rw [if_pos h]
theorem slotV_ge {C : Ctx} {a : Act} {t : Nat} (h : gst ≤ t) : slotV C a t = C.gh t := by unfold slotV; rw [if_neg (by omega)]
def SlotsOk (C : Ctx) (N : Nat) (slots : List (Nat × PV)) (a : Act) : Prop :=
  ∀ t p, look slots t = some p → (t < N ∨ gst ≤ t) ∧ RV C (slotV C a t) p
theorem SlotsOk.real {C : Ctx} {N : Nat} {slots : List (Nat × PV)} {a : Act} (h : SlotsOk C N slots a) {t : Nat} {p : PV} (hl : look slots t = some p) (ht : t < gst) : t < N ∧ RV C (a.tmps.getD t undef) p := by
  obtain ⟨h1, h2⟩ := h t p hl
  rw [slotV_lt ht] at h2
  exact ⟨by omega, h2⟩
theorem compCell_sound {v : Value} {p : PV} (h : compCell v = some p) (w : World) (I : Nat → Prop) : DV w I v p ∧ p.one = true := by
  unfold compCell at h
  split at h
  · injection h with h; subst h; exact ⟨.int _ _, rfl⟩
  · injection h with h; subst h; exact ⟨.bool _, rfl⟩
  · rename_i s
    split at h
    · rename_i hs
      injection h with h; subst h
      have : s = ⟨s.data.toList.toArray⟩ := by simp
      refine ⟨?_, rfl⟩
      have h2 := DV.str (w := w) (I := I) s.data.toList (by simpa using hs)
      rwa [← this] at h2
    · cases h
  · injection h with h; subst h; exact ⟨.nils, rfl⟩
  · injection h with h; subst h; exact ⟨.pnil, rfl⟩
  · injection h with h; subst h; exact ⟨.fnil, rfl⟩
  · injection h with h; subst h; exact ⟨.nilI, rfl⟩
  · cases h
theorem compCells_sound : ∀ {vs : List Value} {ps : List PV}, compCells vs = some ps → ∀ (w : World) (I : Nat → Prop), vs.length = ps.length ∧ (∀ p ∈ ps, p.one = true) ∧
    ∀ (j : Nat) (v : Value) (p : PV), vs[j]? = some v → ps[j]? = some p → DV w I v p
  | [], ps, h, w, I => by
    simp [compCells] at h; subst h; simp
  | v :: r, ps, h, w, I => by
    unfold compCells at h
    split at h
    · rename_i p qs h1 h2
      injection h with h; subst h
      obtain ⟨e1, e2, e3⟩ := compCells_sound h2 w I
      obtain ⟨d1, d2⟩ := compCell_sound h1 w I
      refine ⟨by simp [e1], ?_, ?_⟩
      · intro x hx
        rcases List.mem_cons.1 hx with rfl | hx
        · exact d2
        · exact e2 x hx
      · intro j u x hj hx
        match j with
        | 0 => simp at hj hx; subst hj hx; exact d1
        | j + 1 => simp at hj hx; exact e3 j u x hj hx
    · cases h
theorem compVal_sound {v : Value} {p : PV} (h : compVal v = some p) (w : World) (I : Nat → Prop) : DV w I v p := by
  unfold compVal at h
  split at h
  · rename_i vs
    simp only [Option.map_eq_some_iff] at h
    obtain ⟨ps, h1, rfl⟩ := h
    obtain ⟨e1, e2, e3⟩ := compCells_sound h1 w I
    exact .agg vs ps (by simpa using e1) e2 fun j v p h1 h2 => e3 j v p (by simpa using h1) h2
  · exact (compCell_sound h w I).1
theorem x_sound {N : Nat} {slots : List (Nat × PV)} (M : MemInv w0 C) (hs : SlotsOk C N slots a) {x : Operand} {l : LX} {p : PV} (h : compX x = some l) (hl : lx slots l = some p) : RV C (a.eval x) p := by
  cases x with
  | tmp t =>
    simp only [compX] at h
    split at h
    · rename_i ht
      injection h with h; subst h
      exact (hs.real hl ht).2
    · cases h
  | const v =>
    simp only [compX, Option.map_eq_some_iff] at h
    obtain ⟨q, h1, rfl⟩ := h
    simp [lx] at hl; subst hl
    exact .data _ _ (compVal_sound h1 _ _)
  | func f =>
    simp [compX] at h; subst h
    simp [lx] at hl; subst hl
    exact .data _ _ (.fn f #[] #[] [] [] rfl rfl (by simp) (by simp))
  | global g =>
    simp only [compX, Option.map_eq_some_iff] at h
    obtain ⟨cs, h1, rfl⟩ := h
    simp [lx] at hl; subst hl
    exact .data _ _ (M.glob g cs h1).1
theorem lxs_1 {slots : List (Nat × PV)} {x : LX} {ps : List PV} (h : lxs slots [x] = some ps) : ∃ p, ps = [p] ∧ lx slots x = some p := by
  unfold lxs at h
  split at h
  · rename_i p qs h1 h2
    simp [lxs] at h2; subst h2
    injection h with h
    exact ⟨p, h.symm, h1⟩
  · cases h
theorem lxs_cons {slots : List (Nat × PV)} {x : LX} {xs : List LX} {ps : List PV} (h : lxs slots (x :: xs) = some ps) : ∃ p qs, ps = p :: qs ∧ lx slots x = some p ∧ lxs slots xs = some qs := by
  unfold lxs at h
  split at h
  · rename_i p qs h1 h2
    injection h with h
    exact ⟨p, qs, h.symm, h1, h2⟩
  · cases h
theorem lxs_2 {slots : List (Nat × PV)} {x y : LX} {ps : List PV} (h : lxs slots [x, y] = some ps) : ∃ p q, ps = [p, q] ∧ lx slots x = some p ∧ lx slots y = some q := by
  obtain ⟨p, qs, rfl, h1, h2⟩ := lxs_cons h
  obtain ⟨q, rfl, h3⟩ := lxs_1 h2
  exact ⟨p, q, rfl, h1, h3⟩
theorem lxs_3 {slots : List (Nat × PV)} {x y z : LX} {ps : List PV} (h : lxs slots [x, y, z] = some ps) : ∃ p q s, ps = [p, q, s] ∧ lx slots x = some p ∧ lx slots y = some q ∧ lx slots z = some s := by
  obtain ⟨p, qs, rfl, h1, h2⟩ := lxs_cons h
  obtain ⟨q, s, rfl, h3⟩ := lxs_2 h2
  exact ⟨p, q, s, rfl, h1, h3⟩
structure Ready (P : Program) (o : Oper) (lo : LOp) (C : Ctx) (N : Nat) (slots : List (Nat × PV)) (a : Act) (w0 : Base) (xs : List PV) : Prop where
  comp : compK P o.op = some lo
  ok : SlotsOk C N slots a
  mem : MemInv w0 C
  args : lxs slots lo.args = some xs
theorem sound_move {N : Nat} {slots : List (Nat × PV)} {Γ : List (Nat × Fact P)} {x : Operand} {l : LX} {xs : List PV} {r : PV} {up : List (Nat × Ent)}
    (hs : SlotsOk C N slots a) (M : MemInv w0 C) (ho : o.op = .move x ∨ o.op = .assign x) (hx : compX x = some l) (ha : lxs slots [l] = some xs)
    (hact : (LOp.mv l).act Γ o.dst C.gen xs (look C.mem) = some (r, up)) : Goal P o a Q w0 C r up := by
  obtain ⟨p, rfl, hp⟩ := lxs_1 ha
  simp [LOp.act] at hact
  obtain ⟨rfl, rfl⟩ := hact
  refine Goal.pure M (v := a.eval x) ?_ (x_sound M hs hx hp)
  rcases ho with ho | ho <;> simp [execOp, ho]
theorem sound_pick {N : Nat} {slots : List (Nat × PV)} {Γ : List (Nat × Fact P)} {c x y : Operand} {lc l m : LX} {xs : List PV} {r : PV} {up : List (Nat × Ent)}
    (hs : SlotsOk C N slots a) (M : MemInv w0 C) (ho : o.op = .pick c x y) (hc : compX c = some lc) (hx : compX x = some l) (hy : compX y = some m) (ha : lxs slots [lc, l, m] = some xs)
    (hact : (LOp.pick lc l m).act Γ o.dst C.gen xs (look C.mem) = some (r, up)) : Goal P o a Q w0 C r up := by
  obtain ⟨p, q, s, rfl, hp, hq, hs'⟩ := lxs_3 ha
  have h1 := x_sound M hs hc hp
  have h2 := x_sound M hs hx hq
  have h3 := x_sound M hs hy hs'
  cases p <;> simp [LOp.act] at hact
  obtain ⟨rfl, rfl⟩ := hact
  rename_i b
  have hb := h1.bool_inv
  refine Goal.pure M (v := if b then a.eval x else a.eval y) ?_ ?_
  · simp [execOp, ho, hb, asBool]
  · cases b
    · exact h3
    · exact h2
theorem sound_bin {N : Nat} {slots : List (Nat × PV)} {Γ : List (Nat × Fact P)} {op : BinOp} {t u : TypeId} {x y : Operand} {l m : LX} {xs : List PV} {r : PV} {up : List (Nat × Ent)}
    (hs : SlotsOk C N slots a) (M : MemInv w0 C) (ho : o.op = .binOp op t x y u) (hx : compX x = some l) (hy : compX y = some m) (ha : lxs slots [l, m] = some xs)
    (hact : (LOp.bin op l m).act Γ o.dst C.gen xs (look C.mem) = some (r, up)) : Goal P o a Q w0 C r up := by
  obtain ⟨p, q, rfl, hp, hq⟩ := lxs_2 ha
  have h1 := x_sound M hs hx hp
  have h2 := x_sound M hs hy hq
  simp only [LOp.act, Option.map_eq_some_iff] at hact
  obtain ⟨r', hb, he⟩ := hact
  simp only [Prod.mk.injEq] at he
  obtain ⟨rfl, rfl⟩ := he
  unfold binPV at hb
  split at hb
  · rename_i k n k' n'
    split at hb
    · rename_i hk
      subst hk
      have e1 := h1.int_inv
      have e2 := h2.int_inv
      have hrun : ∀ v, (binOp op t (.int k n) (.int k n')).run P C.w = .ok v C.w → (execOp a.eval o).run P C.w = .ok (.value v) C.w := by
        intro v hv
        have hg : (eqGuard op t x y (.int k n) (.int k n')) = Pure.pure () := by cases op <;> rfl
        simp only [execOp, ho, e1, e2, hg]
        simp [hv]
      unfold binInt at hb
      cases op <;> simp only at hb
      case add => injection hb with hb; subst hb; exact Goal.pure M (hrun (.int k (k.wrap (n + n'))) (by simp [binOp, Op.intArith])) (RV.int _ _)
      case sub => injection hb with hb; subst hb; exact Goal.pure M (hrun (.int k (k.wrap (n - n'))) (by simp [binOp, Op.intArith])) (RV.int _ _)
      case mul => injection hb with hb; subst hb; exact Goal.pure M (hrun (.int k (k.wrap (n * n'))) (by simp [binOp, Op.intArith])) (RV.int _ _)
      case quo =>
        split at hb
        · cases hb
        · rename_i hz
          injection hb with hb; subst hb; exact Goal.pure M (hrun (.int k (k.wrap (n.tdiv n'))) (by simp [binOp, Op.intDiv, hz])) (RV.int _ _)
      case rem =>
        split at hb
        · cases hb
        · rename_i hz
          injection hb with hb; subst hb; exact Goal.pure M (hrun (.int k (n.tmod n')) (by simp [binOp, Op.intDiv, hz])) (RV.int _ _)
      case and => injection hb with hb; subst hb; exact Goal.pure M (hrun _ (by simp [binOp, Op.intBits, bitsOf])) (RV.int _ _)
      case or => injection hb with hb; subst hb; exact Goal.pure M (hrun _ (by simp [binOp, Op.intBits, bitsOf])) (RV.int _ _)
      case xor => injection hb with hb; subst hb; exact Goal.pure M (hrun _ (by simp [binOp, Op.intBits, bitsOf])) (RV.int _ _)
      case andNot => injection hb with hb; subst hb; exact Goal.pure M (hrun _ (by simp [binOp, Op.intBits, bitsOf])) (RV.int _ _)
      case shl =>
        split at hb
        · cases hb
        · rename_i hz
          injection hb with hb; subst hb; exact Goal.pure M (hrun _ (by simp [binOp, Op.shift, hz])) (RV.int _ _)
      case shr =>
        split at hb
        · cases hb
        · rename_i hz
          injection hb with hb; subst hb; exact Goal.pure M (hrun _ (by simp [binOp, Op.shift, hz])) (RV.int _ _)
      all_goals
        injection hb with hb; subst hb
        refine Goal.pure M (hrun (.bool _) ?_) (RV.bool _)
        simp [binOp, Op.intCmp]
    · have e1 := h1.int_inv
      have e2 := h2.int_inv
      have hrun : ∀ v, (binOp op t (.int k n) (.int k' n')).run P C.w = .ok v C.w → (execOp a.eval o).run P C.w = .ok (.value v) C.w := by
        intro v hv
        have hg : (eqGuard op t x y (.int k n) (.int k' n')) = Pure.pure () := by cases op <;> rfl
        simp only [execOp, ho, e1, e2, hg]
        simp [hv]
      unfold binSh at hb
      cases op <;> simp only [reduceCtorEq] at hb
      case shl =>
        split at hb
        · cases hb
        · rename_i hz
          injection hb with hb; subst hb; exact Goal.pure M (hrun _ (by simp [binOp, Op.shift, hz])) (RV.int _ _)
      case shr =>
        split at hb
        · cases hb
        · rename_i hz
          injection hb with hb; subst hb; exact Goal.pure M (hrun _ (by simp [binOp, Op.shift, hz])) (RV.int _ _)
  · rename_i s s'
    obtain ⟨e1, b1⟩ := h1.str_inv
    obtain ⟨e2, b2⟩ := h2.str_inv
    have hrun : ∀ v, (Op.stringOp op ⟨s.toArray⟩ ⟨s'.toArray⟩).run P C.w = .ok v C.w → (execOp a.eval o).run P C.w = .ok (.value v) C.w := by
      intro v hv
      have hg : (eqGuard op t x y (.string ⟨s.toArray⟩) (.string ⟨s'.toArray⟩)) = Pure.pure () := by cases op <;> rfl
      have hb : binOp op t (.string ⟨s.toArray⟩) (.string ⟨s'.toArray⟩) = Op.stringOp op ⟨s.toArray⟩ ⟨s'.toArray⟩ := by cases op <;> rfl
      simp only [execOp, ho, e1, e2, hg, hb]
      simp [hv]
    unfold binStr at hb
    split at hb
    · split at hb
      · rename_i hz
        injection hb with hb; subst hb
        refine Goal.pure M (hrun (.string ⟨(s ++ s').toArray⟩) ?_) (RV.str _ (by simpa using hz))
        have h3 : (s.length : Int) + (s'.length : Int) ≤ 9223372036854775807 := by unfold big at hz; omega
        have h4 : (⟨s.toArray⟩ : ByteArray).size = s.length := by simp [ByteArray.size]
        have h5 : (⟨s'.toArray⟩ : ByteArray).size = s'.length := by simp [ByteArray.size]
        have h6 : (⟨s.toArray⟩ : ByteArray) ++ ⟨s'.toArray⟩ = ⟨(s ++ s').toArray⟩ := by
          apply ByteArray.ext; simp
        unfold Op.stringOp
        simp only [h4, h5, IntKind.max_i64]
        rw [if_neg (by omega)]
        simp [h6]
      · cases hb
    all_goals first
      | (injection hb with hb; subst hb; refine Goal.pure M (hrun (.bool _) ?_) (RV.bool _); simp [Op.stringOp])
      | cases hb
  · cases hb
theorem sound_eqb {N : Nat} {slots : List (Nat × PV)} {Γ : List (Nat × Fact P)} {op : BinOp} {t u : TypeId} {x y : Operand} {l m : LX} {xs : List PV} {r : PV} {up : List (Nat × Ent)} {neg : Bool}
    (hs : SlotsOk C N slots a) (M : MemInv w0 C) (ho : o.op = .binOp op t x y u) (hop : op = if neg then .neq else .eql) (ht : P.underlying t = some .bool) (hx : compX x = some l) (hy : compX y = some m) (ha : lxs slots [l, m] = some xs)
    (hact : (LOp.eqb neg l m).act Γ o.dst C.gen xs (look C.mem) = some (r, up)) : Goal P o a Q w0 C r up := by
  obtain ⟨p, q, rfl, hp, hq⟩ := lxs_2 ha
  have h1 := x_sound M hs hx hp
  have h2 := x_sound M hs hy hq
  cases p <;> simp [LOp.act] at hact
  cases q <;> simp at hact
  obtain ⟨rfl, rfl⟩ := hact
  rename_i b c
  have e1 := h1.bool_inv
  have e2 := h2.bool_inv
  refine Goal.pure M (v := .bool ((b == c) != neg)) ?_ (RV.bool _)
  have hg : (eqGuard op t x y (.bool b) (.bool c)) = Pure.pure () := by cases op <;> rfl
  have he : (Op.equal t (.bool b) (.bool c)).run P C.w = .ok (b == c) C.w := run_equalIn_bool' C.w 9999 t b c ht
  cases neg
  · simp only [Bool.false_eq_true, if_false] at hop
    subst hop
    simp only [execOp, ho, e1, e2, hg, binOp]
    simp [he]
  · simp only [if_true] at hop
    subst hop
    simp only [execOp, ho, e1, e2, hg, binOp]
    simp [he]
end
end Go.PW
