/-
  PwSound2: more operations that turn no memory.
-/
import Derived.Test.YtjmmlddioeehbaaGreatDoorPwSound1
namespace Go.PW
open Go.RowKit
theorem getElem?_drop_take {α : Type} (cs : List α) (off n j : Nat) : ((cs.drop off).take n)[j]? = if j < n then cs[off + j]? else none := by
  rw [List.getElem?_take]
  split
  · rw [List.getElem?_drop]
  · rfl
section
variable {P : Program} {o : Oper} {a : Act} {Q : Exit → Act → World → Prop} {w0 : Base} {C : Ctx}
theorem isAggT_run {t : TypeId} {ag : Bool} (h : isAggT P t = some ag) (w : World) : (isAgg t).run P w = .ok ag w := by
  unfold isAggT at h
  unfold isAgg
  simp only [Sem.run_bind]
  split at h <;> first | (injection h with h; subst h) | cases h
  all_goals
    rename_i hu
    first
      | (rw [run_underlying hu]; simp; done)
      | skip
theorem sizeT_run {t : TypeId} {n : Nat} (h : sizeT P t = some n) (w : World) : (sizeOf t).run P w = .ok n w := by
  unfold sizeT at h
  simp only [Option.map_eq_some_iff] at h
  obtain ⟨i, h1, rfl⟩ := h
  simp [sizeOf, typeInfo, h1]
theorem compField_some {t : TypeId} {i off n : Nat} {ag : Bool} (h : compField P t i = some (off, n, ag)) :
    ∃ fs f, P.underlying t = some (.struct fs) ∧ fs[i]? = some f ∧ f.offset = off ∧ sizeT P f.type = some n ∧ isAggT P f.type = some ag := by
  unfold compField at h
  split at h
  · rename_i fs hu
    split at h
    · rename_i f hf
      split at h
      · rename_i n' ag' h1 h2
        simp at h
        obtain ⟨rfl, rfl, rfl⟩ := h
        exact ⟨fs, f, hu, hf, rfl, h1, h2⟩
      · cases h
    · cases h
  · cases h
theorem rd_sound {vs : Array Value} {cs : List PV} {off n : Nat} {ag : Bool} {r : PV} (hl : vs.size = cs.length) (ho : ∀ p ∈ cs, p.one = true)
    (hv : ∀ (j : Nat) (v : Value) (p : PV), vs[j]? = some v → cs[j]? = some p → RV C v p) (h : rd n ag (cs.drop off) = some r) :
    (ag = true → RV C (.agg (vs.extract off (off + n))) r) ∧ (ag = false → ∃ v, vs[off]? = some v ∧ cs[off]? = some r ∧ RV C v r) := by
  unfold rd at h
  cases ag
  · simp only [Bool.false_eq_true, if_false, List.head?_drop] at h
    refine ⟨by simp, fun _ => ?_⟩
    have hlt := (List.getElem?_eq_some_iff.1 h).1
    have h1 : vs[off]? = some vs[off] := Array.getElem?_eq_getElem (by omega)
    exact ⟨_, h1, h, hv off _ r h1 h⟩
  · simp only [if_true] at h
    split at h
    · rename_i hn
      injection h with h; subst h
      simp only [List.length_drop] at hn
      refine ⟨fun _ => ?_, by simp⟩
      by_cases hz : n = 0
      · subst hz
        exact .mk_agg (by simp; omega) (by simp) (by simp)
      · refine .mk_agg (by simp; omega) (fun p hp => ho p (List.mem_of_mem_drop (List.mem_of_mem_take hp))) fun j v p h1 h2 => ?_
        rw [getElem?_drop_take] at h2
        split at h2
        · rename_i hj
          rw [Array.getElem?_extract] at h1
          split at h1
          · exact hv _ v p h1 h2
          · cases h1
        · cases h2
    · cases h
variable {N : Nat} {slots : List (Nat × PV)} {Γ : List (Nat × Fact P)} {xs : List PV} {r : PV} {up : List (Nat × Ent)}
theorem eqCells_nil {ps qs : List PV} {e : Bool} (h : eqCells [] ps qs = some e) : ps = [] ∧ qs = [] ∧ e = true := by
  cases ps with
  | nil => cases qs with
    | nil => simp [eqCells] at h; exact ⟨rfl, rfl, h⟩
    | cons q qs => simp [eqCells] at h
  | cons p ps => cases p <;> simp [eqCells] at h
theorem eqCells_int {ks : List Nat} {ps qs : List PV} {e : Bool} (h : eqCells (0 :: ks) ps qs = some e) :
    ∃ k a b r s, ps = .int k a :: r ∧ qs = .int k b :: s ∧ (eqCells ks r s).map (fun e => (a == b) && e) = some e := by
  cases ps with
  | nil => simp [eqCells] at h
  | cons p ps => cases qs with
    | nil => cases p <;> simp [eqCells] at h
    | cons q qs =>
      cases p with
      | int k a => cases q with
        | int k' b =>
          simp only [eqCells] at h
          split at h
          · rename_i hk; subst hk; exact ⟨k, a, b, ps, qs, rfl, rfl, h⟩
          · cases h
        | _ => simp [eqCells] at h
      | _ => simp [eqCells] at h
theorem eqCells_bool {ks : List Nat} {ps qs : List PV} {e : Bool} (h : eqCells (1 :: ks) ps qs = some e) :
    ∃ a b r s, ps = .bool a :: r ∧ qs = .bool b :: s ∧ (eqCells ks r s).map (fun e => (a == b) && e) = some e := by
  cases ps with
  | nil => simp [eqCells] at h
  | cons p ps => cases qs with
    | nil => cases p <;> simp [eqCells] at h
    | cons q qs =>
      cases p with
      | bool a => cases q with
        | bool b => simp only [eqCells] at h; exact ⟨a, b, ps, qs, rfl, rfl, h⟩
        | _ => simp [eqCells] at h
      | _ => simp [eqCells] at h
theorem eqCells_str {ks : List Nat} {ps qs : List PV} {e : Bool} (h : eqCells (2 :: ks) ps qs = some e) :
    ∃ a b r s, ps = .str a :: r ∧ qs = .str b :: s ∧ (eqCells ks r s).map (fun e => (a == b) && e) = some e := by
  cases ps with
  | nil => simp [eqCells] at h
  | cons p ps => cases qs with
    | nil => cases p <;> simp [eqCells] at h
    | cons q qs =>
      cases p with
      | str a => cases q with
        | str b => simp only [eqCells] at h; exact ⟨a, b, ps, qs, rfl, rfl, h⟩
        | _ => simp [eqCells] at h
      | _ => simp [eqCells] at h
theorem eqFields_run (d : Nat) : ∀ (fs : List Field) (n : Nat) (ks : List Nat) (vs us : Array Value) (ps qs : List PV) (e : Bool), eqFieldsOk P n fs = some ks →
    (∀ (j : Nat) (v : Value) (p : PV), vs[n + j]? = some v → ps[j]? = some p → RV C v p) → (∀ (j : Nat) (v : Value) (p : PV), us[n + j]? = some v → qs[j]? = some p → RV C v p) →
    vs.size = n + ps.length → us.size = n + qs.length → eqCells ks ps qs = some e → (Op.eqFields (d + 1) vs us fs).run P C.w = .ok e C.w
  | [], n, ks, vs, us, ps, qs, e, hok, h1, h2, s1, s2, he => by
    simp [eqFieldsOk] at hok; subst hok
    obtain ⟨rfl, rfl, rfl⟩ := eqCells_nil he
    simp [Op.eqFields]
  | f :: fs, n, ks, vs, us, ps, qs, e, hok, h1, h2, s1, s2, he => by
    unfold eqFieldsOk at hok
    split at hok
    case isFalse => cases hok
    case isTrue hno =>
    simp only [Bool.and_eq_true, bne_iff_ne, ne_eq, beq_iff_eq] at hno
    obtain ⟨hn, hoff⟩ := hno
    -- what the two cells are
    have main : ∀ (p q : PV) (ps' qs' : List PV) (ks' : List Nat) (v u : Value) (b : Bool), ps = p :: ps' → qs = q :: qs' → eqFieldsOk P (n + 1) fs = some ks' →
        isAggT P f.type = some false → (RV C v p → RV C u q → (Op.equalIn (d + 1) f.type v u).run P C.w = .ok b C.w) → vs[n]? = some v → us[n]? = some u →
        (eqCells ks' ps' qs').map (fun e => b && e) = some e → (Op.eqFields (d + 1) vs us (f :: fs)).run P C.w = .ok e C.w := by
      rintro p q ps' qs' ks' v u b rfl rfl hks hag heq hv hu hm
      simp only [Option.map_eq_some_iff] at hm
      obtain ⟨e', he', rfl⟩ := hm
      have r1 := h1 0 v p (by simpa using hv) rfl
      have r2 := h2 0 u q (by simpa using hu) rfl
      have ih := eqFields_run d fs (n + 1) ks' vs us ps' qs' e' hks (fun j v p' a b => h1 (j + 1) v p' (by rw [← a]; congr 1; omega) (by simpa using b))
          (fun j v p' a b => h2 (j + 1) v p' (by rw [← a]; congr 1; omega) (by simpa using b)) (by simp at s1; omega) (by simp at s2; omega) he'
      have part_ok : ∀ (ws : Array Value) (v : Value), ws[n]? = some v → (part f.type ws f.offset).run P C.w = .ok v C.w := by
        intro ws v hw
        unfold part
        simp [isAggT_run hag C.w, hoff, hw]
      simp only [Op.eqFields, ne_eq, hn, not_false_eq_true, if_true, Sem.run_bind, part_ok vs _ hv, part_ok us _ hu, Result.andThen_ok, heq r1 r2]
      cases b
      · simp
      · simp [ih]
    have at_ : ∀ {p q : PV} {ps' qs' : List PV}, ps = p :: ps' → qs = q :: qs' → vs[n]? = some (vs.getD n undef) ∧ us[n]? = some (us.getD n undef) := by
      rintro p q ps' qs' rfl rfl
      simp at s1 s2
      have h1 : n < vs.size := by omega
      have h2 : n < us.size := by omega
      simp [h1, h2]
    split at hok <;> first | (injection hok with hok; subst hok) | cases hok
    · rename_i k' ks' hty hks
      obtain ⟨k, x, y, r, s', e1, e2, hm⟩ := eqCells_int he
      obtain ⟨a1, a2⟩ := at_ e1 e2
      refine main _ _ r s' ks' _ _ (x == y) e1 e2 hks (by simp [isAggT, hty]) (fun r1 r2 => ?_) a1 a2 hm
      rw [r1.int_inv, r2.int_inv]; exact run_equalIn_int C.w d f.type k k' x y hty
    · rename_i ks' hty hks
      obtain ⟨x, y, r, s', e1, e2, hm⟩ := eqCells_bool he
      obtain ⟨a1, a2⟩ := at_ e1 e2
      refine main _ _ r s' ks' _ _ (x == y) e1 e2 hks (by simp [isAggT, hty]) (fun r1 r2 => ?_) a1 a2 hm
      rw [r1.bool_inv, r2.bool_inv]; exact run_equalIn_bool' C.w d f.type x y hty
    · rename_i ks' hty hks
      obtain ⟨x, y, r, s', e1, e2, hm⟩ := eqCells_str he
      obtain ⟨a1, a2⟩ := at_ e1 e2
      refine main _ _ r s' ks' _ _ (x == y) e1 e2 hks (by simp [isAggT, hty]) (fun r1 r2 => ?_) a1 a2 hm
      rw [r1.str_inv.1, r2.str_inv.1]
      have := run_equalIn_string (P := P) C.w d f.type ⟨x.toArray⟩ ⟨y.toArray⟩ hty
      simpa using this
theorem eqStructOk_some {t : TypeId} {ks : List Nat} (h : eqStructOk P t = some ks) :
    P.underlying t = some (.struct (P.fieldsOf t)) ∧ P.stoodInHeld t = false ∧ P.eqGuardType P.depth t = false ∧ eqFieldsOk P 0 (P.fieldsOf t).toList = some ks := by
  unfold eqStructOk at h
  split at h
  · rename_i fs hu
    have hf : P.fieldsOf t = fs := by simp [Program.fieldsOf, hu]
    split at h
    · rename_i hc
      simp at hc
      exact ⟨by rw [hf]; exact hu, hc.1, hc.2, by rw [hf]; exact h⟩
    · cases h
  · cases h
theorem sound_eqs {op : BinOp} {t u : TypeId} {x y : Operand} {l m : LX} {neg : Bool} {ks : List Nat}
    (hs : SlotsOk C N slots a) (M : MemInv w0 C) (ho : o.op = .binOp op t x y u) (hop : op = if neg then .neq else .eql) (ht : eqStructOk P t = some ks) (hx : compX x = some l) (hy : compX y = some m) (ha : lxs slots [l, m] = some xs)
    (hact : (LOp.eqs neg ks l m).act Γ o.dst C.gen xs (look C.mem) = some (r, up)) : Goal P o a Q w0 C r up := by
  obtain ⟨p, q, rfl, hp, hq⟩ := lxs_2 ha
  have h1 := x_sound M hs hx hp
  have h2 := x_sound M hs hy hq
  cases p <;> (try simp only [reduceCtorEq, LOp.act] at hact)
  cases q <;> (try simp only [reduceCtorEq] at hact)
  rename_i ps qs
  simp only [Option.map_eq_some_iff, Prod.mk.injEq] at hact
  obtain ⟨e, he, rfl, rfl⟩ := hact
  obtain ⟨vs, e1, s1, _, c1⟩ := h1.agg_inv
  obtain ⟨us, e2, s2, _, c2⟩ := h2.agg_inv
  obtain ⟨t1, t2, t3, t4⟩ := eqStructOk_some ht
  refine Goal.pure M (v := .bool (e != neg)) ?_ (RV.bool _)
  have hfe := eqFields_run (C := C) 9998 (P.fieldsOf t).toList 0 ks vs us ps qs e t4 (fun j v p h1 h2 => c1 j v p (by simpa using h1) h2) (fun j v p h1 h2 => c2 j v p (by simpa using h1) h2) (by omega) (by omega) he
  have heq := run_equalIn_struct (P := P) C.w 9999 t vs us t1 t2
  rw [hfe] at heq
  have hg := run_eqGuard_agg (P := P) C.w op t x y vs us t3
  cases neg
  · simp only [Bool.false_eq_true, if_false] at hop
    subst hop
    have hb := run_eql_struct (P := P) C.w t vs us
    simp only [execOp, ho, e1, e2, Sem.run_bind, hg, Result.andThen_ok, hb, heq]
    simp
  · simp only [if_true] at hop
    subst hop
    have hb := run_neq_struct (P := P) C.w t vs us
    simp only [execOp, ho, e1, e2, Sem.run_bind, hg, Result.andThen_ok, hb, heq]
    simp
theorem sound_mx {x y : Operand} {l m : LX} {c : Call} (neg : Bool) (hs : SlotsOk C N slots a) (M : MemInv w0 C) (ho : o.op = .call c) (hc : c.callee = .builtin (if neg then .min else .max)) (hca : c.args = #[x, y])
    (hx : compX x = some l) (hy : compX y = some m) (ha : lxs slots [l, m] = some xs)
    (hact : (if neg then LOp.mn l m else LOp.mx l m).act Γ o.dst C.gen xs (look C.mem) = some (r, up)) : Goal P o a Q w0 C r up := by
  obtain ⟨p, q, rfl, hp, hq⟩ := lxs_2 ha
  have h1 := x_sound M hs hx hp
  have h2 := x_sound M hs hy hq
  cases neg
  · simp only [Bool.false_eq_true, if_false] at hact hc
    cases p <;> simp [LOp.act] at hact
    cases q <;> simp at hact
    obtain ⟨rfl, rfl, rfl⟩ := hact
    rename_i k n n'
    refine Goal.pure M (v := .int k (if n' > n then n' else n)) ?_ (RV.int _ _)
    simp [execOp, ho, resolve, hc, hca, invoke, builtin, h1.int_inv, h2.int_inv, Builtin.max_, Builtin.max2]
  · simp only [if_true] at hact hc
    cases p <;> simp [LOp.act] at hact
    cases q <;> simp at hact
    obtain ⟨rfl, rfl, rfl⟩ := hact
    rename_i k n n'
    refine Goal.pure M (v := .int k (if n' < n then n' else n)) ?_ (RV.int _ _)
    simp [execOp, ho, resolve, hc, hca, invoke, builtin, h1.int_inv, h2.int_inv, Builtin.min_, Builtin.min2]
theorem sound_conv {src dst : TypeId} {k k' : IntKind} {x : Operand} {l : LX} (hs : SlotsOk C N slots a) (M : MemInv w0 C) (ho : o.op = .convert src dst x) (h1 : P.underlying src = some (.int k')) (h2 : P.underlying dst = some (.int k))
    (hx : compX x = some l) (ha : lxs slots [l] = some xs) (hact : (LOp.conv k l).act Γ o.dst C.gen xs (look C.mem) = some (r, up)) : Goal P o a Q w0 C r up := by
  obtain ⟨p, rfl, hp⟩ := lxs_1 ha
  have hr := x_sound M hs hx hp
  cases p <;> simp [LOp.act] at hact
  obtain ⟨rfl, rfl⟩ := hact
  rename_i k1 n
  refine Goal.pure M (v := .int k (k.wrap n)) ?_ (RV.int _ _)
  simp [execOp, ho, hr.int_inv, convert, run_underlying h1, run_underlying h2, Conv.intToInt]
theorem sound_un {op : UnOp} {t : TypeId} {x : Operand} {l : LX} (hs : SlotsOk C N slots a) (M : MemInv w0 C) (ho : o.op = .unOp op t x)
    (hx : compX x = some l) (ha : lxs slots [l] = some xs) (hact : (LOp.un op l).act Γ o.dst C.gen xs (look C.mem) = some (r, up)) : Goal P o a Q w0 C r up := by
  obtain ⟨p, rfl, hp⟩ := lxs_1 ha
  have hr := x_sound M hs hx hp
  cases op <;> cases p <;> simp [LOp.act] at hact
  · obtain ⟨rfl, rfl⟩ := hact
    rename_i k n
    refine Goal.pure M (v := .int k (k.wrap (0 - n))) ?_ (by simpa using RV.int k (k.wrap (0 - n)))
    simp [execOp, ho, hr.int_inv, Op.unary, Op.intArith]
  · obtain ⟨rfl, rfl⟩ := hact
    rename_i b
    refine Goal.pure M (v := .bool (!b)) ?_ (RV.bool _)
    simp [execOp, ho, hr.bool_inv, Op.unary]
theorem sound_extract {x : Operand} {i : Nat} {l : LX} (hs : SlotsOk C N slots a) (M : MemInv w0 C) (ho : o.op = .extract x i)
    (hx : compX x = some l) (ha : lxs slots [l] = some xs) (hact : (LOp.extract i l).act Γ o.dst C.gen xs (look C.mem) = some (r, up)) : Goal P o a Q w0 C r up := by
  obtain ⟨p, rfl, hp⟩ := lxs_1 ha
  have hr := x_sound M hs hx hp
  cases p <;> simp [LOp.act] at hact
  obtain ⟨r', h1, rfl, rfl⟩ := hact
  obtain ⟨vs, e1, s1, c1⟩ := hr.tup_inv
  have hlt := (List.getElem?_eq_some_iff.1 h1).1
  have hv : vs[i]? = some vs[i] := Array.getElem?_eq_getElem (by omega)
  refine Goal.pure M (v := vs[i]) ?_ (c1 i _ _ hv h1)
  simp [execOp, ho, e1, Instr.extract, hv]
theorem sound_field {t : TypeId} {x : Operand} {i off n : Nat} {ag : Bool} {l : LX} (hs : SlotsOk C N slots a) (M : MemInv w0 C) (ho : o.op = .field t x i) (hf : compField P t i = some (off, n, ag))
    (hx : compX x = some l) (ha : lxs slots [l] = some xs) (hact : (LOp.field off n ag l).act Γ o.dst C.gen xs (look C.mem) = some (r, up)) : Goal P o a Q w0 C r up := by
  obtain ⟨p, rfl, hp⟩ := lxs_1 ha
  have hr := x_sound M hs hx hp
  cases p <;> simp only [LOp.act, reduceCtorEq] at hact
  simp only [Option.map_eq_some_iff, Prod.mk.injEq] at hact
  obtain ⟨r', h1, rfl, rfl⟩ := hact
  obtain ⟨vs, e1, s1, o1, c1⟩ := hr.agg_inv
  obtain ⟨fs, f, hu, hfi, hoff, hsz, hag⟩ := compField_some hf
  obtain ⟨g1, g2⟩ := rd_sound s1 o1 c1 h1
  cases ag
  · obtain ⟨v, hv, _, hr'⟩ := g2 rfl
    refine Goal.pure M (v := v) ?_ hr'
    simp [execOp, ho, e1, Instr.field, run_underlying hu, hfi, asAgg, part, isAggT_run hag, hoff, hv]
  · refine Goal.pure M (v := .agg (vs.extract off (off + n))) ?_ (g1 rfl)
    simp [execOp, ho, e1, Instr.field, run_underlying hu, hfi, asAgg, part, isAggT_run hag, sizeT_run hsz, hoff]
theorem sound_slen {t : TypeId} {x : Operand} {l : LX} {c : Call} (hs : SlotsOk C N slots a) (M : MemInv w0 C) (ho : o.op = .call c) (hc : c.callee = .builtin .len) (hca : c.args = #[x]) (hct : c.argTypes = #[t]) (hu : P.underlying t = some .string)
    (hx : compX x = some l) (ha : lxs slots [l] = some xs) (hact : (LOp.slen l).act Γ o.dst C.gen xs (look C.mem) = some (r, up)) : Goal P o a Q w0 C r up := by
  obtain ⟨p, rfl, hp⟩ := lxs_1 ha
  have hr := x_sound M hs hx hp
  cases p <;> simp [LOp.act] at hact
  obtain ⟨rfl, rfl⟩ := hact
  rename_i s
  refine Goal.pure M (v := .int .i64 s.length) ?_ (RV.int _ _)
  have hl := run_len_string (P := P) C.w t o.type ⟨s.toArray⟩ hu
  have hz : (⟨s.toArray⟩ : ByteArray).size = s.length := by simp [ByteArray.size]
  rw [hz] at hl
  simp only [execOp, ho, resolve, hc, hca, hct, invoke, builtin, hr.str_inv.1, Sem.run_bind, Sem.run_pure, Result.andThen_ok, List.map_toArray, List.map_cons, List.map_nil, hl]
  rfl
theorem sound_sidx {t : TypeId} {x i : Operand} {l m : LX} (hs : SlotsOk C N slots a) (M : MemInv w0 C) (ho : o.op = .index t x i) (hu : P.underlying t = some .string)
    (hx : compX x = some l) (hi : compX i = some m) (ha : lxs slots [l, m] = some xs) (hact : (LOp.sidx l m).act Γ o.dst C.gen xs (look C.mem) = some (r, up)) : Goal P o a Q w0 C r up := by
  obtain ⟨p, q, rfl, hp, hq⟩ := lxs_2 ha
  have h1 := x_sound M hs hx hp
  have h2 := x_sound M hs hi hq
  cases p <;> (try simp only [reduceCtorEq, LOp.act] at hact)
  cases q <;> (try simp only [reduceCtorEq] at hact)
  rename_i s k n
  split at hact
  case isFalse => cases hact
  case isTrue h0 =>
  split at hact
  case h_2 => cases hact
  rename_i b hb
  simp at hact
  obtain ⟨rfl, rfl⟩ := hact
  refine Goal.pure M (v := .int .u8 b.toNat) ?_ (RV.int _ _)
  have hlt := (List.getElem?_eq_some_iff.1 hb).1
  have hb' : (⟨s.toArray⟩ : ByteArray)[n.toNat]? = some b := by
    rw [ByteArray.getElem?_lt' _ _ (by simpa [ByteArray.size] using hlt)]
    congr 1
    have := (List.getElem?_eq_some_iff.1 hb).2
    rw [← this]; rfl
  simp [execOp, ho, h1.str_inv.1, h2.int_inv, Instr.index, asIntOf, run_underlying hu, h0, hb']
end
end Go.PW
