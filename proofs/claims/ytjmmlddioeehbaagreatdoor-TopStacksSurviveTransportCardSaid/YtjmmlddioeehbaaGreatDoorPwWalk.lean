/-
  PwWalk: one rule for each operation.
-/
import Derived.Test.YtjmmlddioeehbaaGreatDoorPwNorm
namespace Go.PW
open Go.RowKit
noncomputable section
variable {P : Program} {r : List LOper} {acc : List Log} {sl : List (Nat × PV)} {m : List (Nat × Ent)} {g d : Nat} {K : St → Prop}
def W (P : Program) (r : List LOper) (acc : List Log) (st : St) (K : List Log → St → Prop) : Prop :=
  ∃ Γ : List (Nat × Fact P), match stepsL Γ r st with
    | some (st', logs) => K (logs.reverse ++ acc) st'
    | none => False
theorem stepL_step {Γ : List (Nat × Fact P)} {o : LOper} {st st' : St} {l : Log} (h : stepL Γ o st = some (st', l)) : step Γ o st = some st' := by
  rw [step_core]
  unfold stepL at h
  rw [Option.map_eq_some_iff] at h ⊢
  obtain ⟨x, h1, h2⟩ := h
  injection h2 with h2 h3
  exact ⟨x, h1, h2⟩
theorem stepsL_steps {Γ : List (Nat × Fact P)} : ∀ {r : List LOper} {st st' : St} {ls : List Log}, stepsL Γ r st = some (st', ls) → steps Γ r st = some st'
  | [], st, st', ls, h => by simp only [stepsL] at h; injection h with h; injection h with h _; simp only [steps]; rw [h]
  | o :: r, st, st', ls, h => by
    simp only [stepsL] at h
    split at h
    · rename_i s1 l1 h1
      split at h
      · rename_i s2 ls2 h2
        injection h with h; injection h with h _; subst h
        simp only [steps, stepL_step h1]
        exact stepsL_steps h2
      · cases h
    · cases h
theorem W.nil {st : St} {K : List Log → St → Prop} (h : K acc st) : W P [] acc st K := ⟨[], by simpa [stepsL] using h⟩
theorem W.of {o : LOper} {st st' : St} {l : Log} {K : List Log → St → Prop} (h : ∀ Γ : List (Nat × Fact P), stepL Γ o st = some (st', l)) (k : W P r (l :: acc) st' K) : W P (o :: r) acc st K := by
  obtain ⟨Γ, k⟩ := k
  refine ⟨Γ, ?_⟩
  simp only [stepsL, h Γ]
  split at k
  · rename_i s ls h1
    simp only [h1]
    simpa using k
  · exact k.elim
theorem core_fact {Γ : List (Nat × Fact P)} {c : Fact P} {o : LOper} (h : (o.dst != some d) = true) (st : St) : stepL ((d, c) :: Γ) o st = stepL Γ o st := by
  have hl : ∀ x, o.dst = some x → look ((d, c) :: Γ) x = look Γ x := by
    intro x hx
    have : d ≠ x := by rintro rfl; simp [hx] at h
    simp [look, this]
  have hc : ∀ f args m, callD P ((d, c) :: Γ) o.dst st.gen f args m = callD P Γ o.dst st.gen f args m := by
    intro f args m
    unfold callD
    split
    · rfl
    · rename_i x hx
      rw [hl x hx]
  have hfo : foot ((d, c) :: Γ) o.dst = foot Γ o.dst := by
    unfold foot
    split
    · rfl
    · rename_i x hx
      rw [hl x hx]
  have ha : ∀ xs m, o.op.act ((d, c) :: Γ) o.dst st.gen xs m = o.op.act Γ o.dst st.gen xs m := by
    intro xs m
    unfold LOp.act
    split <;> first | rfl | exact hc _ _ _ | (split <;> first | rfl | exact hc _ _ _)
  unfold stepL core
  simp only [ha, hfo]
theorem stepsL_fact {Γ : List (Nat × Fact P)} {c : Fact P} : ∀ {r : List LOper} {st : St}, (r.all fun o => o.dst != some d) = true → stepsL ((d, c) :: Γ) r st = stepsL Γ r st
  | [], _, _ => rfl
  | o :: r, st, h => by
    simp only [List.all_cons, Bool.and_eq_true] at h
    simp only [stepsL, core_fact h.1]
    split
    · rw [stepsL_fact h.2]
    · rfl
theorem W.reg {N : Nat} {los : List LOper} {ps : List (Nat × Nat)} {st : St} {Q : Ex → St → Prop} (hm : P.follows .mixedOrders = true) (h : W P los [] st fun _ s => Q .normal s) : Ev P N (.reg ⟨los, false, ps⟩) st Q := by
  obtain ⟨Γ, h⟩ := h
  refine Ev.reg (Γ := Γ) hm ?_
  split at h
  · rename_i s ls h1
    simp only [runReg, Bool.false_eq_true, if_false, stepsL_steps h1, wpS]
    exact h
  · exact h.elim
theorem W.regD {N : Nat} {los : List LOper} {ps : List (Nat × Nat)} {st : St} {Q : Ex → St → Prop} (hm : P.follows .mixedOrders = true) (h : W P los [] st fun logs s => pairsOk ps logs.reverse = true ∧ Q .normal s) : Ev P N (.reg ⟨los, true, ps⟩) st Q := by
  obtain ⟨Γ, h⟩ := h
  refine Ev.reg (Γ := Γ) hm ?_
  split at h
  · rename_i s ls h1
    simp only [List.append_nil, List.reverse_reverse] at h
    simp only [runReg, if_true, h1, h.1, wpS]
    exact h.2
  · exact h.elim
section
variable {K : List Log → St → Prop} {x y : LX} {k : IntKind} {a b : Int} {p q : PV}
theorem W.act {o : LOp} {xs : List PV} {up : List (Nat × Ent)} {dst : Option Nat} (h1 : lxs sl o.args = some xs) (h2 : ∀ Γ : List (Nat × Fact P), o.act Γ dst g xs (look m) = some (p, up))
    (kk : W P r ((o.reads [] dst xs, up.map (·.1)) :: acc) ⟨put sl dst p, up ++ m, g⟩ K) (hnc : ∀ ft, o.reads ft dst xs = o.reads [] dst xs := by intro; rfl) : W P (⟨dst, none, o⟩ :: r) acc ⟨sl, m, g⟩ K := by
  refine W.of (fun Γ => ?_) kk
  have h3 : lxsF (look sl) o.args = some xs := by rw [lxsF_look]; exact h1
  simp only [stepL, core, h3, h2 Γ, Option.map_some, hnc]
theorem lxs1 (h : lx sl x = some p) : lxs sl [x] = some [p] := by simp [lxs, h]
theorem lxs2 (h : lx sl x = some p) (h' : lx sl y = some q) : lxs sl [x, y] = some [p, q] := by simp [lxs, h, h']
theorem W.mv (h : lx sl x = some p) (kk : W P r (([], []) :: acc) ⟨(d, p) :: sl, m, g⟩ K) : W P (⟨some d, none, .mv x⟩ :: r) acc ⟨sl, m, g⟩ K :=
  W.act (xs := [p]) (up := []) (lxs1 h) (fun _ => rfl) kk
theorem W.pick {c : LX} {b : Bool} (hc : lx sl c = some (.bool b)) (hx : lx sl x = some p) (hy : lx sl y = some q)
    (kk : W P r (([], []) :: acc) ⟨(d, if b then p else q) :: sl, m, g⟩ K) : W P (⟨some d, none, .pick c x y⟩ :: r) acc ⟨sl, m, g⟩ K :=
  W.act (xs := [.bool b, p, q]) (up := []) (by simp [LOp.args, lxs, hc, hx, hy]) (fun _ => rfl) kk
theorem W.pickT {c : LX} {b : Bool} (hc : lx sl c = some (.bool b)) (hx : lx sl x = some p) (hy : lx sl y = some q) (e : b = true)
    (kk : W P r (([], []) :: acc) ⟨(d, p) :: sl, m, g⟩ K) : W P (⟨some d, none, .pick c x y⟩ :: r) acc ⟨sl, m, g⟩ K :=
  W.pick hc hx hy (by rw [if_pos e]; exact kk)
theorem W.pickF {c : LX} {b : Bool} (hc : lx sl c = some (.bool b)) (hx : lx sl x = some p) (hy : lx sl y = some q) (e : b ≠ true)
    (kk : W P r (([], []) :: acc) ⟨(d, q) :: sl, m, g⟩ K) : W P (⟨some d, none, .pick c x y⟩ :: r) acc ⟨sl, m, g⟩ K :=
  W.pick hc hx hy (by rw [if_neg e]; exact kk)
theorem W.bin {op : BinOp} {z : PV} (hx : lx sl x = some p) (hy : lx sl y = some q) (h : binPV op p q = some z)
    (kk : W P r (([], []) :: acc) ⟨(d, z) :: sl, m, g⟩ K) : W P (⟨some d, none, .bin op x y⟩ :: r) acc ⟨sl, m, g⟩ K :=
  W.act (xs := [p, q]) (up := []) (lxs2 hx hy) (fun _ => by simp only [LOp.act, h, Option.map_some]) kk
theorem wrap_i64 {n : Int} (h : -9223372036854775808 ≤ n ∧ n < 9223372036854775808) : IntKind.wrap .i64 n = n := by
  have e : IntKind.wrap .i64 n = if (decide (n % 18446744073709551616 ≥ 9223372036854775808)) = true then n % 18446744073709551616 - 18446744073709551616 else n % 18446744073709551616 := rfl
  rw [e]
  simp only [decide_eq_true_eq]
  split <;> omega
theorem W.add {n : Int} (hx : lx sl x = some (.int .i64 a)) (hy : lx sl y = some (.int .i64 b)) (hn : a + b = n) (hr : -9223372036854775808 ≤ n ∧ n < 9223372036854775808)
    (kk : W P r (([], []) :: acc) ⟨(d, .int .i64 n) :: sl, m, g⟩ K) : W P (⟨some d, none, .bin .add x y⟩ :: r) acc ⟨sl, m, g⟩ K :=
  W.bin hx hy (by simp only [binPV, binInt, if_true, hn, wrap_i64 hr]) kk
theorem W.sub {n : Int} (hx : lx sl x = some (.int .i64 a)) (hy : lx sl y = some (.int .i64 b)) (hn : a - b = n) (hr : -9223372036854775808 ≤ n ∧ n < 9223372036854775808)
    (kk : W P r (([], []) :: acc) ⟨(d, .int .i64 n) :: sl, m, g⟩ K) : W P (⟨some d, none, .bin .sub x y⟩ :: r) acc ⟨sl, m, g⟩ K :=
  W.bin hx hy (by simp only [binPV, binInt, if_true, hn, wrap_i64 hr]) kk
theorem W.mul {n : Int} (hx : lx sl x = some (.int .i64 a)) (hy : lx sl y = some (.int .i64 b)) (hn : a * b = n) (hr : -9223372036854775808 ≤ n ∧ n < 9223372036854775808)
    (kk : W P r (([], []) :: acc) ⟨(d, .int .i64 n) :: sl, m, g⟩ K) : W P (⟨some d, none, .bin .mul x y⟩ :: r) acc ⟨sl, m, g⟩ K :=
  W.bin hx hy (by simp only [binPV, binInt, if_true, hn, wrap_i64 hr]) kk
theorem W.rem {n : Int} (hx : lx sl x = some (.int k a)) (hy : lx sl y = some (.int k b)) (h0 : b ≠ 0) (hn : a.tmod b = n)
    (kk : W P r (([], []) :: acc) ⟨(d, .int k n) :: sl, m, g⟩ K) : W P (⟨some d, none, .bin .rem x y⟩ :: r) acc ⟨sl, m, g⟩ K :=
  W.bin hx hy (by simp only [binPV, binInt, if_true, h0, if_false, hn]) kk
theorem W.quo {n : Int} (hx : lx sl x = some (.int .i64 a)) (hy : lx sl y = some (.int .i64 b)) (h0 : b ≠ 0) (hn : a.tdiv b = n) (hr : -9223372036854775808 ≤ n ∧ n < 9223372036854775808)
    (kk : W P r (([], []) :: acc) ⟨(d, .int .i64 n) :: sl, m, g⟩ K) : W P (⟨some d, none, .bin .quo x y⟩ :: r) acc ⟨sl, m, g⟩ K :=
  W.bin hx hy (by simp only [binPV, binInt, if_true, h0, if_false, hn, wrap_i64 hr]) kk
theorem W.lss (hx : lx sl x = some (.int k a)) (hy : lx sl y = some (.int k b))
    (kk : W P r (([], []) :: acc) ⟨(d, .bool (decide (a < b))) :: sl, m, g⟩ K) : W P (⟨some d, none, .bin .lss x y⟩ :: r) acc ⟨sl, m, g⟩ K :=
  W.bin hx hy (by simp only [binPV, binInt, if_true]) kk
theorem W.leq (hx : lx sl x = some (.int k a)) (hy : lx sl y = some (.int k b))
    (kk : W P r (([], []) :: acc) ⟨(d, .bool (decide (a ≤ b))) :: sl, m, g⟩ K) : W P (⟨some d, none, .bin .leq x y⟩ :: r) acc ⟨sl, m, g⟩ K :=
  W.bin hx hy (by simp only [binPV, binInt, if_true]) kk
theorem W.gtr (hx : lx sl x = some (.int k a)) (hy : lx sl y = some (.int k b))
    (kk : W P r (([], []) :: acc) ⟨(d, .bool (decide (b < a))) :: sl, m, g⟩ K) : W P (⟨some d, none, .bin .gtr x y⟩ :: r) acc ⟨sl, m, g⟩ K :=
  W.bin hx hy (by simp only [binPV, binInt, if_true, gt_iff_lt]) kk
theorem W.geq (hx : lx sl x = some (.int k a)) (hy : lx sl y = some (.int k b))
    (kk : W P r (([], []) :: acc) ⟨(d, .bool (decide (b ≤ a))) :: sl, m, g⟩ K) : W P (⟨some d, none, .bin .geq x y⟩ :: r) acc ⟨sl, m, g⟩ K :=
  W.bin hx hy (by simp only [binPV, binInt, if_true, ge_iff_le]) kk
theorem W.eql (hx : lx sl x = some (.int k a)) (hy : lx sl y = some (.int k b))
    (kk : W P r (([], []) :: acc) ⟨(d, .bool (decide (a = b))) :: sl, m, g⟩ K) : W P (⟨some d, none, .bin .eql x y⟩ :: r) acc ⟨sl, m, g⟩ K :=
  W.bin hx hy (by simp only [binPV, binInt, if_true]; rfl) kk
theorem W.neq (hx : lx sl x = some (.int k a)) (hy : lx sl y = some (.int k b))
    (kk : W P r (([], []) :: acc) ⟨(d, .bool (decide (a ≠ b))) :: sl, m, g⟩ K) : W P (⟨some d, none, .bin .neq x y⟩ :: r) acc ⟨sl, m, g⟩ K :=
  W.bin hx hy (by simp only [binPV, binInt, if_true, bne, ne_eq, decide_not]; rfl) kk
theorem W.seql {s t : List UInt8} (hx : lx sl x = some (.str s)) (hy : lx sl y = some (.str t))
    (kk : W P r (([], []) :: acc) ⟨(d, .bool (decide (s = t))) :: sl, m, g⟩ K) : W P (⟨some d, none, .bin .eql x y⟩ :: r) acc ⟨sl, m, g⟩ K :=
  W.bin hx hy (by simp only [binPV, binStr]; congr 2; by_cases h : s = t <;> simp [h]) kk
theorem W.sneq {s t : List UInt8} (hx : lx sl x = some (.str s)) (hy : lx sl y = some (.str t))
    (kk : W P r (([], []) :: acc) ⟨(d, .bool (decide (s ≠ t))) :: sl, m, g⟩ K) : W P (⟨some d, none, .bin .neq x y⟩ :: r) acc ⟨sl, m, g⟩ K :=
  W.bin hx hy (by simp only [binPV, binStr]; congr 2; by_cases h : s = t <;> simp [h]) kk
theorem W.slss {s t : List UInt8} (hx : lx sl x = some (.str s)) (hy : lx sl y = some (.str t))
    (kk : W P r (([], []) :: acc) ⟨(d, .bool (Op.bytesLess s t)) :: sl, m, g⟩ K) : W P (⟨some d, none, .bin .lss x y⟩ :: r) acc ⟨sl, m, g⟩ K :=
  W.bin hx hy (by simp only [binPV, binStr]) kk
theorem W.sadd {s t : List UInt8} (hx : lx sl x = some (.str s)) (hy : lx sl y = some (.str t)) (hb : s.length + t.length ≤ big)
    (kk : W P r (([], []) :: acc) ⟨(d, .str (s ++ t)) :: sl, m, g⟩ K) : W P (⟨some d, none, .bin .add x y⟩ :: r) acc ⟨sl, m, g⟩ K :=
  W.bin hx hy (by simp only [binPV, binStr, hb, if_true]) kk
theorem W.bneq {s t : Bool} (hx : lx sl x = some (.bool s)) (hy : lx sl y = some (.bool t))
    (kk : W P r (([], []) :: acc) ⟨(d, .bool (s != t)) :: sl, m, g⟩ K) : W P (⟨some d, none, .eqb true x y⟩ :: r) acc ⟨sl, m, g⟩ K :=
  W.act (xs := [.bool s, .bool t]) (up := []) (lxs2 hx hy) (fun _ => by simp only [LOp.act]; cases s <;> cases t <;> rfl) kk
theorem W.eqs {neg e : Bool} {ks : List Nat} {xs ys : List PV} (hx : lx sl x = some (.agg xs)) (hy : lx sl y = some (.agg ys)) (he : eqCells ks xs ys = some e)
    (kk : W P r (([], []) :: acc) ⟨(d, .bool (e != neg)) :: sl, m, g⟩ K) : W P (⟨some d, none, .eqs neg ks x y⟩ :: r) acc ⟨sl, m, g⟩ K :=
  W.act (xs := [.agg xs, .agg ys]) (up := []) (lxs2 hx hy) (fun _ => by simp only [LOp.act, he, Option.map_some]) kk
theorem W.mx {n : Int} (hx : lx sl x = some (.int k a)) (hy : lx sl y = some (.int k b)) (hn : max a b = n)
    (kk : W P r (([], []) :: acc) ⟨(d, .int k n) :: sl, m, g⟩ K) : W P (⟨some d, none, .mx x y⟩ :: r) acc ⟨sl, m, g⟩ K :=
  W.act (xs := [.int k a, .int k b]) (up := []) (lxs2 hx hy) (fun _ => by simp only [LOp.act, if_true]; rw [← hn]; congr 3; split <;> omega) kk
theorem W.mn {n : Int} (hx : lx sl x = some (.int k a)) (hy : lx sl y = some (.int k b)) (hn : min a b = n)
    (kk : W P r (([], []) :: acc) ⟨(d, .int k n) :: sl, m, g⟩ K) : W P (⟨some d, none, .mn x y⟩ :: r) acc ⟨sl, m, g⟩ K :=
  W.act (xs := [.int k a, .int k b]) (up := []) (lxs2 hx hy) (fun _ => by simp only [LOp.act, if_true]; rw [← hn]; congr 3; split <;> omega) kk
theorem W.conv {k' : IntKind} {n : Int} (hx : lx sl x = some (.int k a)) (hn : IntKind.wrap k' a = n)
    (kk : W P r (([], []) :: acc) ⟨(d, .int k' n) :: sl, m, g⟩ K) : W P (⟨some d, none, .conv k' x⟩ :: r) acc ⟨sl, m, g⟩ K :=
  W.act (xs := [.int k a]) (up := []) (lxs1 hx) (fun _ => by simp only [LOp.act, hn]) kk
theorem W.not {s : Bool} (hx : lx sl x = some (.bool s))
    (kk : W P r (([], []) :: acc) ⟨(d, .bool (!s)) :: sl, m, g⟩ K) : W P (⟨some d, none, .un .not x⟩ :: r) acc ⟨sl, m, g⟩ K :=
  W.act (xs := [.bool s]) (up := []) (lxs1 hx) (fun _ => rfl) kk
theorem W.neg {n : Int} (hx : lx sl x = some (.int .i64 a)) (hn : 0 - a = n) (hr : -9223372036854775808 ≤ n ∧ n < 9223372036854775808)
    (kk : W P r (([], []) :: acc) ⟨(d, .int .i64 n) :: sl, m, g⟩ K) : W P (⟨some d, none, .un .neg x⟩ :: r) acc ⟨sl, m, g⟩ K :=
  W.act (xs := [.int .i64 a]) (up := []) (lxs1 hx) (fun _ => by simp only [LOp.act, hn, wrap_i64 hr]) kk
theorem W.field {off n : Nat} {ag : Bool} {cs : List PV} (hx : lx sl x = some (.agg cs)) (hr : rd n ag (cs.drop off) = some p)
    (kk : W P r (([], []) :: acc) ⟨(d, p) :: sl, m, g⟩ K) : W P (⟨some d, none, .field off n ag x⟩ :: r) acc ⟨sl, m, g⟩ K :=
  W.act (xs := [.agg cs]) (up := []) (lxs1 hx) (fun _ => by simp only [LOp.act, hr, Option.map_some]) kk
theorem W.extract {i : Nat} {cs : List PV} (hx : lx sl x = some (.tup cs)) (hr : cs[i]? = some p)
    (kk : W P r (([], []) :: acc) ⟨(d, p) :: sl, m, g⟩ K) : W P (⟨some d, none, .extract i x⟩ :: r) acc ⟨sl, m, g⟩ K :=
  W.act (xs := [.tup cs]) (up := []) (lxs1 hx) (fun _ => by simp only [LOp.act, hr, Option.map_some]) kk
theorem W.slen {s : List UInt8} (hx : lx sl x = some (.str s))
    (kk : W P r (([], []) :: acc) ⟨(d, .int .i64 s.length) :: sl, m, g⟩ K) : W P (⟨some d, none, .slen x⟩ :: r) acc ⟨sl, m, g⟩ K :=
  W.act (xs := [.str s]) (up := []) (lxs1 hx) (fun _ => rfl) kk
theorem W.len {sz : Nat} {es : List (List PV)} {n : Nat} (hx : lx sl x = some p) (hl : srcRows (look m) sz p = some (sz, es)) (hn : es.length = n)
    (kk : W P r ((nameOf p ++ [], []) :: acc) ⟨(d, .int .i64 n) :: sl, m, g⟩ K) : W P (⟨some d, none, .len x⟩ :: r) acc ⟨sl, m, g⟩ K := by
  refine W.act (xs := [p]) (up := []) (lxs1 hx) (fun _ => ?_) kk
  subst hn
  cases p <;> first
    | (simp only [srcRows, Option.some.injEq, Prod.mk.injEq] at hl; obtain ⟨_, rfl⟩ := hl; rfl)
    | (simp only [srcRows] at hl; simp only [LOp.act, hl, Option.map_some])
theorem W.fieldAddr {off : Nat} {cs : List PV} (hx : lx sl x = some (.pim cs))
    (kk : W P r (([], []) :: acc) ⟨(d, .pim (cs.drop off)) :: sl, m, g⟩ K) : W P (⟨some d, none, .fieldAddr off x⟩ :: r) acc ⟨sl, m, g⟩ K :=
  W.act (xs := [.pim cs]) (up := []) (lxs1 hx) (fun _ => rfl) kk
theorem W.fieldAddrO {off nm ver i j : Nat} {e : Ent} (hx : lx sl x = some (.pown nm ver i j)) (hl : liveF (look m) nm ver = some e)
    (kk : W P r (([nm], []) :: acc) ⟨(d, .pown nm ver i (j + off)) :: sl, m, g⟩ K) (hb : Nat.blt (j + off) BX = true := by rfl) : W P (⟨some d, none, .fieldAddr off x⟩ :: r) acc ⟨sl, m, g⟩ K :=
  W.act (xs := [.pown nm ver i j]) (up := []) (lxs1 hx) (fun _ => by simp only [LOp.act, hl, hb, Option.isSome_some, and_self, if_true]) kk
theorem W.idx {sz : Nat} {es : List (List PV)} {cs : List PV} (hx : lx sl x = some (.list sz es)) (hy : lx sl y = some (.int k a)) (h0 : 0 ≤ a) (hc : es[a.toNat]? = some cs)
    (kk : W P r (([], []) :: acc) ⟨(d, .pim cs) :: sl, m, g⟩ K) : W P (⟨some d, none, .idx sz x y⟩ :: r) acc ⟨sl, m, g⟩ K :=
  W.act (xs := [.list sz es, .int k a]) (up := []) (lxs2 hx hy) (fun _ => by simp only [LOp.act, h0, true_and, if_true, hc]) kk
theorem W.idxO {sz nm ver : Nat} {e : Ent} {i : Nat} (hx : lx sl x = some (.own nm ver)) (hy : lx sl y = some (.int k a)) (hl : liveF (look m) nm ver = some e) (hs : e.sz = sz) (h0 : 0 ≤ a) (hi : a.toNat = i) (hc : i < e.es.length)
    (kk : W P r (([nm], []) :: acc) ⟨(d, .pown nm ver i 0) :: sl, m, g⟩ K) : W P (⟨some d, none, .idx sz x y⟩ :: r) acc ⟨sl, m, g⟩ K :=
  W.act (xs := [.own nm ver, .int k a]) (up := []) (lxs2 hx hy) (fun _ => by subst hi; simp only [LOp.act, hl, h0, hs, and_self, hc, if_true]) kk
theorem W.idxA {n0 sz : Nat} {cs : List PV} {i : Nat} (hx : lx sl x = some (.pim cs)) (hy : lx sl y = some (.int k a)) (h0 : 0 ≤ a) (hi : a.toNat = i) (hc : i < n0)
    (kk : W P r (([], []) :: acc) ⟨(d, .pim (cs.drop (i * sz))) :: sl, m, g⟩ K) : W P (⟨some d, none, .idxA n0 sz x y⟩ :: r) acc ⟨sl, m, g⟩ K :=
  W.act (xs := [.pim cs, .int k a]) (up := []) (lxs2 hx hy) (fun _ => by subst hi; simp only [LOp.act, h0, true_and, hc, if_true]) kk
theorem W.idxAO {n0 sz nm ver i j : Nat} {e : Ent} {n : Nat} (hx : lx sl x = some (.pown nm ver i j)) (hy : lx sl y = some (.int k a)) (hl : liveF (look m) nm ver = some e) (h0 : 0 ≤ a) (hi : a.toNat = n) (hc : n < n0)
    (kk : W P r (([nm], []) :: acc) ⟨(d, .pown nm ver i (j + n * sz)) :: sl, m, g⟩ K) (hb : Nat.blt (j + n * sz) BX = true := by rfl) : W P (⟨some d, none, .idxA n0 sz x y⟩ :: r) acc ⟨sl, m, g⟩ K :=
  W.act (xs := [.pown nm ver i j, .int k a]) (up := []) (lxs2 hx hy) (fun _ => by subst hi; simp only [LOp.act, h0, hc, hl, hb, Option.isSome_some, and_self, if_true]) kk
theorem W.sidx {s : List UInt8} {c : UInt8} (hx : lx sl x = some (.str s)) (hy : lx sl y = some (.int k a)) (h0 : 0 ≤ a) (hc : s[a.toNat]? = some c)
    (kk : W P r (([], []) :: acc) ⟨(d, .int .u8 c.toNat) :: sl, m, g⟩ K) : W P (⟨some d, none, .sidx x y⟩ :: r) acc ⟨sl, m, g⟩ K :=
  W.act (xs := [.str s, .int k a]) (up := []) (lxs2 hx hy) (fun _ => by simp only [LOp.act, h0, if_true, hc]) kk
theorem W.load {n : Nat} {ag : Bool} {cs : List PV} (hx : lx sl x = some (.pim cs)) (hr : rd n ag cs = some p)
    (kk : W P r (([], []) :: acc) ⟨(d, p) :: sl, m, g⟩ K) : W P (⟨some d, none, .load n ag x⟩ :: r) acc ⟨sl, m, g⟩ K :=
  W.act (xs := [.pim cs]) (up := []) (lxs1 hx) (fun _ => by simp only [LOp.act, hr, Option.map_some]) kk
theorem W.loadO {n : Nat} {ag : Bool} {nm ver i j : Nat} {e : Ent} {cs : List PV} (hx : lx sl x = some (.pown nm ver i j)) (hl : liveF (look m) nm ver = some e) (hc : e.es[i]? = some cs) (hr : rd n ag (cs.drop j) = some p)
    (kk : W P r (([nm], []) :: acc) ⟨(d, p) :: sl, m, g⟩ K) : W P (⟨some d, none, .load n ag x⟩ :: r) acc ⟨sl, m, g⟩ K :=
  W.act (xs := [.pown nm ver i j]) (up := []) (lxs1 hx) (fun _ => by simp only [LOp.act, hl, hc, hr, Option.map_some]) kk
section
variable {K : List Log → St → Prop} {x y : LX} {k : IntKind} {a b : Int} {p q : PV}
theorem W.store {n nm ver i j : Nat} {e : Ent} {cs cs' : List PV} {es' : List (List PV)} {dt : Bool} (hx : lx sl x = some (.pown nm ver i j)) (hy : lx sl y = some q) (hl : liveF (look m) nm ver = some e) (hc : e.es[i]? = some cs)
    (hn : q.cells.length = n) (hj : j + n ≤ cs.length) (ho : q.cells.all PV.one = true) (hs : splice cs j q.cells = cs') (he : e.es.set i cs' = es') (hd : (e.data && q.cells.all PV.isD) = dt)
    (kk : W P r (([nm] ++ (nameOf q ++ []), [nm]) :: acc) ⟨sl, (nm, { e with es := es', data := dt }) :: m, g⟩ K) : W P (⟨none, none, .store n x y⟩ :: r) acc ⟨sl, m, g⟩ K :=
  W.act (p := .tup []) (dst := none) (xs := [.pown nm ver i j, q]) (up := [(nm, { e with es := es', data := dt })]) (lxs2 hx hy) (fun _ => by subst hn hs he hd; simp only [LOp.act, hl, hc, hj, ho, and_self, if_true]) kk
theorem W.alloc {elem n : Nat} {zero : List PV} {dt : Bool} (hf : freshF (look m) d = true) (hn : zero.length = n) (hd : zero.all PV.isD = dt)
    (kk : W P r (([d], [d]) :: acc) ⟨(d, .pown d g 0 0) :: sl, (d, ⟨g, elem, n, [zero], dt, true, false⟩) :: m, g⟩ K) (hb : bxUp d g elem n zero = [] := by rfl) : W P (⟨some d, none, .alloc elem n zero⟩ :: r) acc ⟨sl, m, g⟩ K :=
  W.act (xs := []) (up := [(d, ⟨g, elem, n, [zero], dt, true, false⟩)]) rfl (fun _ => by simp only [LOp.act, hf, hn, hd, hb, List.nil_append, and_self, if_true]) kk
theorem W.allocB {elem : Nat} (hf : freshF (look m) d = true)
    (kk : W P r (([d], [d, d]) :: acc) ⟨(d, .pown d g 0 0) :: sl, (d, ⟨g, elem, 2, [[.pown d g BX BX, .nils]], false, true, false⟩) :: (d, ⟨g, elem, 2, [[.pnil, .nils]], true, true, false⟩) :: m, g⟩ K) : W P (⟨some d, none, .alloc elem 2 [.pnil, .nils]⟩ :: r) acc ⟨sl, m, g⟩ K :=
  W.act (xs := []) (up := [(d, ⟨g, elem, 2, [[.pown d g BX BX, .nils]], false, true, false⟩), (d, ⟨g, elem, 2, [[.pnil, .nils]], true, true, false⟩)]) rfl (fun _ => by simp only [LOp.act, hf, bxUp, List.length_cons, List.length_nil, and_self, if_true]; rfl) kk
theorem W.box {elem n : Nat} {dt : Bool} {cs : List PV} (hx : lx sl x = some p) (hf : freshF (look m) d = true) (hc : p.cells = cs) (hn : cs.length = n) (ho : cs.all PV.one = true) (hd : cs.all PV.isD = dt)
    (kk : W P r (([d], [d]) :: acc) ⟨(d, .pown d g 0 0) :: sl, (d, ⟨g, elem, n, [cs], dt, true, false⟩) :: m, g⟩ K) : W P (⟨some d, none, .box elem n x⟩ :: r) acc ⟨sl, m, g⟩ K :=
  W.act (xs := [p]) (up := [(d, ⟨g, elem, n, [cs], dt, true, false⟩)]) (lxs1 hx) (fun _ => by simp only [LOp.act, hf, hc, hn, ho, hd, and_self, if_true]) kk
theorem W.build {zero : List PV} {parts : List (Nat × Nat × LX)} {xs cs : List PV} (hx : lxs sl (parts.map (·.2.2)) = some xs) (hl : xs.length = parts.length)
    (hc : fillCells zero ((parts.zip xs).map fun q => (q.1.1, q.1.2.1, q.2)) = some cs)
    (kk : W P r (([], []) :: acc) ⟨(d, .agg cs) :: sl, m, g⟩ K) : W P (⟨some d, none, .build zero parts⟩ :: r) acc ⟨sl, m, g⟩ K :=
  W.act (xs := xs) (up := []) hx (fun _ => by simp only [LOp.act, hl, hc, if_true, Option.map_some]) kk
theorem W.mkSlice {elem sz n0 : Nat} {zero : List PV} {parts : List (Nat × LX)} {xs : List PV} {es : List (List PV)} {dt : Bool} (hx : lxs sl (parts.map (·.2)) = some xs) (hl : xs.length = parts.length) (hf : freshF (look m) d = true)
    (he : fillRows sz (List.replicate n0 zero) ((parts.zip xs).map fun q => (q.1.1, q.2)) = some es) (ho : es.all (fun cs => cs.all PV.one) = true) (hd : (es.all fun cs => cs.all PV.isD) = dt)
    (kk : W P r (([d], [d]) :: acc) ⟨(d, .own d g) :: sl, (d, ⟨g, elem, sz, es, dt, true, false⟩) :: m, g⟩ K) : W P (⟨some d, none, .mkSlice elem sz n0 zero parts⟩ :: r) acc ⟨sl, m, g⟩ K :=
  W.act (xs := xs) (up := [(d, ⟨g, elem, sz, es, dt, true, false⟩)]) hx (fun _ => by simp only [LOp.act, hl, hf, he, ho, hd, and_self, if_true]) kk
theorem W.make {elem sz bytes n : Nat} {zero : List PV} {dt : Bool} (hx : lx sl x = some (.int .i64 a)) (hf : freshF (look m) d = true) (ha : a = n) (hb : n * bytes ≤ big) (hd : zero.all PV.isD = dt)
    (kk : W P r (([d], [d]) :: acc) ⟨(d, .own d g) :: sl, (d, ⟨g, elem, sz, List.replicate n zero, dt, true, false⟩) :: m, g⟩ K) : W P (⟨some d, none, .make elem sz bytes zero x⟩ :: r) acc ⟨sl, m, g⟩ K :=
  W.act (xs := [.int .i64 a]) (up := [(d, ⟨g, elem, sz, List.replicate n zero, dt, true, false⟩)]) (lxs1 hx) (fun _ => by
    subst ha
    have : (0 : Int) ≤ (n : Int) := by omega
    simp only [LOp.act, hf, hd, Int.toNat_natCast, hb, this, and_self, if_true]) kk
theorem W.sslice {lo hi : Option LX} {s t : List UInt8} {rest : List PV} {l h : Nat} (hx : lxs sl (x :: (lo.toList ++ hi.toList)) = some (.str s :: rest)) (hi' : sliceIx lo.isSome hi.isSome rest s.length = some (l, h)) (h1 : l ≤ h) (h2 : h ≤ s.length) (ht : (s.take h).drop l = t)
    (kk : W P r (([], []) :: acc) ⟨(d, .str t) :: sl, m, g⟩ K) : W P (⟨some d, none, .sslice x lo hi⟩ :: r) acc ⟨sl, m, g⟩ K :=
  W.act (xs := .str s :: rest) (up := []) hx (fun _ => by simp only [LOp.act, hi', h1, h2, ht, and_self, if_true]) kk
theorem W.slice {sz : Nat} {lo hi : Option LX} {es t : List (List PV)} {rest : List PV} {l h : Nat} (hx : lxs sl (x :: (lo.toList ++ hi.toList)) = some (.list sz es :: rest)) (hi' : sliceIx lo.isSome hi.isSome rest es.length = some (l, h)) (h1 : l ≤ h) (h2 : h ≤ es.length) (ht : (es.take h).drop l = t)
    (kk : W P r ((rest.flatMap nameOf, []) :: acc) ⟨(d, .list sz t) :: sl, m, g⟩ K) : W P (⟨some d, none, .slice sz x lo hi⟩ :: r) acc ⟨sl, m, g⟩ K :=
  W.act (xs := .list sz es :: rest) (up := []) hx (fun _ => by simp only [LOp.act, hi', h1, h2, ht, and_self, if_true]) kk
theorem W.sliceO {sz : Nat} {lo hi : Option LX} {nm ver : Nat} {e : Ent} {rest : List PV} {l h : Nat} (hx : lxs sl (x :: (lo.toList ++ hi.toList)) = some (.own nm ver :: rest)) (hl : liveF (look m) nm ver = some e) (hs : e.sz = sz) (hi' : sliceIx lo.isSome hi.isSome rest e.es.length = some (l, h)) (h1 : l ≤ h) (h2 : h ≤ e.es.length)
    (kk : W P r ((nm :: rest.flatMap nameOf, []) :: acc) ⟨(d, .sub nm ver l h) :: sl, m, g⟩ K) : W P (⟨some d, none, .slice sz x lo hi⟩ :: r) acc ⟨sl, m, g⟩ K :=
  W.act (xs := .own nm ver :: rest) (up := []) hx (fun _ => by simp only [LOp.act, hl, hs, hi', h1, h2, and_self, if_true]) kk
theorem W.appendN {elem sz bytes : Nat} {news : List (List PV)} {dt : Bool} (hx : lx sl x = some .nils) (hy : lx sl y = some q) (hs : srcRows (look m) sz q = some (sz, news)) (hf : freshF (look m) d = true) (hb : news.length * bytes ≤ big) (hd : srcData (look m) q = dt)
    (kk : W P r ((d :: (nameOf q ++ []), [d]) :: acc) ⟨(d, .own d g) :: sl, (d, ⟨g, elem, sz, news, dt, true, false⟩) :: m, g⟩ K) : W P (⟨some d, none, .append elem sz bytes x y⟩ :: r) acc ⟨sl, m, g⟩ K :=
  W.act (xs := [.nils, q]) (up := [(d, ⟨g, elem, sz, news, dt, true, false⟩)]) (lxs2 hx hy) (fun _ => by simp only [LOp.act, hs, hf, hb, hd, and_self, if_true]) kk
theorem W.append {elem sz bytes nm ver : Nat} {e : Ent} {news es' : List (List PV)} {dt : Bool} (hx : lx sl x = some (.own nm ver)) (hl : liveF (look m) nm ver = some e) (hee : e.elem = elem) (hes : e.sz = sz) (hy : lx sl y = some q) (hs : srcRows (look m) sz q = some (sz, news)) (hf : freshF (look m) d = true) (he : e.es ++ news = es')
    (hb : es'.length * bytes ≤ big) (hd : (e.data && srcData (look m) q) = dt) (hne : (nm = d) = False)
    (kk : W P r ((d :: nm :: (nameOf q ++ []), [d, nm]) :: acc) ⟨(d, .own d g) :: sl, (d, ⟨g, elem, sz, es', dt, true, false⟩) :: (nm, { e with dead := true }) :: m, g⟩ K) : W P (⟨some d, none, .append elem sz bytes x y⟩ :: r) acc ⟨sl, m, g⟩ K :=
  W.act (xs := [.own nm ver, q]) (up := [(d, ⟨g, elem, sz, es', dt, true, false⟩), (nm, { e with dead := true })]) (lxs2 hx hy) (fun _ => by
    subst he hd
    rw [List.length_append] at hb
    simp only [LOp.act, hs, hf, hl, hee, hes, hb, hne, and_self, if_true, if_false]) kk
theorem W.nilCheck {cs : List PV} (hx : lx sl x = some (.pim cs))
    (kk : W P r (([], []) :: acc) ⟨(d, .pim cs) :: sl, m, g⟩ K) : W P (⟨some d, none, .nilCheck x⟩ :: r) acc ⟨sl, m, g⟩ K :=
  W.act (xs := [.pim cs]) (up := []) (lxs1 hx) (fun _ => rfl) kk
theorem W.nilCheckO {nm ver i j : Nat} {e : Ent} (hx : lx sl x = some (.pown nm ver i j)) (hl : liveF (look m) nm ver = some e)
    (kk : W P r (([nm], []) :: acc) ⟨(d, .pown nm ver i j) :: sl, m, g⟩ K) (hb : Nat.blt j BX = true := by rfl) : W P (⟨some d, none, .nilCheck x⟩ :: r) acc ⟨sl, m, g⟩ K :=
  W.act (xs := [.pown nm ver i j]) (up := []) (lxs1 hx) (fun _ => by simp only [LOp.act, hl, hb, Option.isSome_some, and_self, if_true]) kk
theorem W.nilCheckN {nm ver i j : Nat} {e : Ent} (hx : lx sl x = some (.pown nm ver i j)) (hl : liveF (look m) nm ver = some e)
    (kk : W P r (([nm], []) :: acc) ⟨sl, m, g⟩ K) (hb : Nat.blt j BX = true := by rfl) : W P (⟨none, none, .nilCheck x⟩ :: r) acc ⟨sl, m, g⟩ K :=
  W.act (p := .pown nm ver i j) (dst := none) (xs := [.pown nm ver i j]) (up := []) (lxs1 hx) (fun _ => by simp only [LOp.act, hl, hb, Option.isSome_some, and_self, if_true]) kk
theorem W.nilCheckNP {cs : List PV} (hx : lx sl x = some (.pim cs))
    (kk : W P r (([], []) :: acc) ⟨sl, m, g⟩ K) : W P (⟨none, none, .nilCheck x⟩ :: r) acc ⟨sl, m, g⟩ K :=
  W.act (p := .pim cs) (dst := none) (xs := [.pim cs]) (up := []) (lxs1 hx) (fun _ => rfl) kk
theorem W.mkfn {f : FuncId} {fs cs : List LX} {xs : List PV} (hx : lxs sl (fs ++ cs) = some xs)
    (kk : W P r (([], []) :: acc) ⟨(d, .fn f (xs.take fs.length) (xs.drop fs.length)) :: sl, m, g⟩ K) : W P (⟨some d, none, .mkfn f fs cs⟩ :: r) acc ⟨sl, m, g⟩ K :=
  W.act (xs := xs) (up := []) hx (fun _ => rfl) kk
inductive Les : List PV → List PV → Prop
  | nil : Les [] []
  | cons {p q : PV} {ps qs : List PV} (h : Le p q) (t : Les ps qs) : Les (p :: ps) (q :: qs)
theorem Les.out {ps qs : List PV} (h : Les ps qs) : ps.length = qs.length ∧ ∀ (j : Nat) (p q : PV), ps[j]? = some p → qs[j]? = some q → Le p q := by
  induction h with
  | nil => exact ⟨rfl, fun j p q h => by simp at h⟩
  | cons h t ih =>
    refine ⟨by simp [ih.1], fun j p q h1 h2 => ?_⟩
    cases j with
    | zero => simp at h1 h2; subst h1 h2; exact h
    | succ j => exact ih.2 j p q (by simpa using h1) (by simpa using h2)
theorem Les.refl : ∀ ps, Les ps ps
  | [] => .nil
  | p :: ps => .cons (.refl p) (Les.refl ps)
inductive LesR : List (List PV) → List (List PV) → Prop
  | nil : LesR [] []
  | cons {p q : List PV} {ps qs : List (List PV)} (h : Les p q) (ho : q.all PV.one = true) (t : LesR ps qs) : LesR (p :: ps) (q :: qs)
theorem LesR.out {ps qs : List (List PV)} (h : LesR ps qs) : ps.length = qs.length ∧ ∀ (j : Nat) (p q : List PV), ps[j]? = some p → qs[j]? = some q → Les p q ∧ q.all PV.one = true := by
  induction h with
  | nil => exact ⟨rfl, fun j p q h => by simp at h⟩
  | cons h ho t ih =>
    refine ⟨by simp [ih.1], fun j p q h1 h2 => ?_⟩
    cases j with
    | zero => simp at h1 h2; subst h1 h2; exact ⟨h, ho⟩
    | succ j => exact ih.2 j p q (by simpa using h1) (by simpa using h2)
theorem W.ofFact {c : Fact P} {o : LOper} {st st' : St} {l : Log} (_ho : o.dst = some d) (hu : (r.all fun o => o.dst != some d) = true) (h : ∀ Γ : List (Nat × Fact P), stepL ((d, c) :: Γ) o st = some (st', l)) (k : W P r (l :: acc) st' K) : W P (o :: r) acc st K := by
  obtain ⟨Γ, k⟩ := k
  refine ⟨(d, c) :: Γ, ?_⟩
  simp only [stepsL, h Γ, stepsL_fact hu]
  split at k
  · rename_i s ls h1
    simp only [h1]
    simpa using k
  · exact k.elim
theorem callD_imm {Γ : List (Nat × Fact P)} {f : FuncId} {args xs qs : List PV} {res : PV} (h : PSpec P f args res) (hq : argsD (look m) xs = some qs) (hl : Les qs args) (hd : qs.all PV.dataOk = true) (hfl : xs.any PV.isOwn = false ∨ res.flat = true) :
    callD P ((d, Fact.of h) :: Γ) (some d) g f xs (look m) = some (res, []) := by
  have e1 := hl.out.1
  have e2 := hl.out.2
  simp only [callD, look, if_true, hq, Fact.of]
  rw [if_pos ⟨rfl, e1, e2, hd⟩, if_pos hfl]
theorem callD_mut {Γ : List (Nat × Fact P)} {f : FuncId} {args xs : List PV} {res : PV} {mem mem' : List (Nat × Ent)} {τ : Nat → Nat × Nat} {ν : Nat → Nat} (h : PMut P f args mem res mem') (ok : MutOk (look m) g xs args res ⟨mem, mem', τ, ν⟩) :
    callD P ((d, Fact.ofMut τ ν h) :: Γ) (some d) g f xs (look m) = some (m3 (Mut.post ⟨mem, mem', τ, ν⟩ g) res, Mut.up ⟨mem, mem', τ, ν⟩ (look m) g) := by
  simp only [callD, look, if_true, Fact.ofMut]
  rw [if_pos ⟨rfl, ok⟩]
theorem W.call {f : FuncId} {as : List LX} {args xs qs : List PV} {res : PV} (h : PSpec P f args res) (hx : lxs sl as = some xs) (hq : argsD (look m) xs = some qs) (hl : Les qs args) (hd : qs.all PV.dataOk = true) (hfl : xs.any PV.isOwn = false ∨ res.flat = true) (hu : (r.all fun o => o.dst != some d) = true)
    (kk : W P r ((d :: xs.flatMap nameOf, []) :: acc) ⟨(d, res) :: sl, m, g⟩ K) : W P (⟨some d, none, .call f as⟩ :: r) acc ⟨sl, m, g⟩ K := by
  refine W.ofFact (c := Fact.of h) rfl hu (fun Γ => ?_) kk
  have h3 : lxsF (look sl) as = some xs := by rw [lxsF_look]; exact hx
  simp only [stepL, core, LOp.args, h3, LOp.act, callD_imm h hq hl hd hfl, Option.map_some]
  have hf : foot ((d, Fact.of h) :: Γ) (some d) = [] := by simp only [foot, look, if_true, Fact.of]
  simp only [LOp.reads, hf, List.nil_append]
  rfl
theorem W.callM {f : FuncId} {as : List LX} {args xs : List PV} {res res' : PV} {mem mem' up : List (Nat × Ent)} {ns : List Nat} (τ : Nat → Nat × Nat) (ν : Nat → Nat) (h : PMut P f args mem res mem') (hx : lxs sl as = some xs)
    (ok : MutOk (look m) g xs args res ⟨mem, mem', τ, ν⟩) (hr : m3 (Mut.post ⟨mem, mem', τ, ν⟩ g) res = res') (hup : Mut.up ⟨mem, mem', τ, ν⟩ (look m) g = up) (hns : Mut.foot ⟨mem, mem', τ, ν⟩ ++ xs.flatMap nameOf = ns) (hu : (r.all fun o => o.dst != some d) = true)
    (kk : W P r ((d :: ns, up.map (·.1)) :: acc) ⟨(d, res') :: sl, up ++ m, g⟩ K) : W P (⟨some d, none, .call f as⟩ :: r) acc ⟨sl, m, g⟩ K := by
  refine W.ofFact (c := Fact.ofMut τ ν h) rfl hu (fun Γ => ?_) kk
  have h3 : lxsF (look sl) as = some xs := by rw [lxsF_look]; exact hx
  simp only [stepL, core, LOp.args, h3, LOp.act, callD_mut h ok, Option.map_some, hr, hup]
  have hf : foot ((d, Fact.ofMut τ ν h) :: Γ) (some d) = Mut.foot ⟨mem, mem', τ, ν⟩ := by simp only [foot, look, if_true, Fact.ofMut]
  simp only [LOp.reads, hf, hns]
  rfl
theorem W.callv {f : FuncId} {fs cs : List PV} {as : List LX} {args xs qs : List PV} {res : PV} (h : PSpec P f args res) (hb : bodied P f = true) (hx : lxs sl (x :: as) = some (.fn f fs cs :: xs)) (hq : argsD (look m) (fs ++ xs ++ cs) = some qs) (hl : Les qs args) (hd : qs.all PV.dataOk = true) (hfl : (fs ++ xs ++ cs).any PV.isOwn = false ∨ res.flat = true) (hu : (r.all fun o => o.dst != some d) = true)
    (kk : W P r ((d :: (nameOf (.fn f fs cs) ++ xs.flatMap nameOf), []) :: acc) ⟨(d, res) :: sl, m, g⟩ K) : W P (⟨some d, none, .callv x as⟩ :: r) acc ⟨sl, m, g⟩ K := by
  refine W.ofFact (c := Fact.of h) rfl hu (fun Γ => ?_) kk
  have h3 : lxsF (look sl) (x :: as) = some (.fn f fs cs :: xs) := by rw [lxsF_look]; exact hx
  simp only [stepL, core, LOp.args, h3, LOp.act, hb, if_true, callD_imm h hq hl hd hfl, Option.map_some]
  have hf : foot ((d, Fact.of h) :: Γ) (some d) = [] := by simp only [foot, look, if_true, Fact.of]
  simp only [LOp.reads, hf, List.nil_append]
  rfl
theorem W.guardT {gd : Nat} {bb c : Bool} {o : LOp} {st : St} {dst : Option Nat} (hg : look st.slots gd = some (.bool c)) (hc : c = bb) (kk : W P (⟨dst, none, o⟩ :: r) acc st K) : W P (⟨dst, some (gd, bb), o⟩ :: r) acc st K := by
  subst hc
  obtain ⟨Γ, k⟩ := kk
  refine ⟨Γ, ?_⟩
  simp only [stepsL, stepL, core, hg, if_true] at k ⊢
  exact k
theorem W.guardF {gd : Nat} {bb c : Bool} {o : LOp} (hg : look sl gd = some (.bool c)) (hc : c ≠ bb) (kk : W P r (([], []) :: acc) ⟨(d, .tup []) :: sl, m, g⟩ K) : W P (⟨some d, some (gd, bb), o⟩ :: r) acc ⟨sl, m, g⟩ K := by
  refine W.of (fun Γ => ?_) kk
  simp only [stepL, core, hg, if_neg hc, Option.map_some]
  rfl
theorem W.guardU {gd : Nat} {bb : Bool} {o : LOp} (hg : look sl gd = some (.tup [])) (kk : W P r (([], []) :: acc) ⟨(d, .tup []) :: sl, m, g⟩ K) : W P (⟨some d, some (gd, bb), o⟩ :: r) acc ⟨sl, m, g⟩ K := by
  refine W.of (fun Γ => ?_) kk
  simp only [stepL, core, hg, Option.map_some]
  rfl
end
theorem W.split {st : St} (gd : Nat) {c : Bool} (_hg : look st.slots gd = some (.bool c)) (kt : c = true → W P r acc st K) (kf : c = false → W P r acc st K) : W P r acc st K := by
  cases hc : c
  · exact kf hc
  · exact kt hc
theorem W.guardF1 {gd : Nat} {c : Bool} {o : LOp} (hg : look sl gd = some (.bool c)) (hc : c = false) (kk : W P r (([], []) :: acc) ⟨(d, .tup []) :: sl, m, g⟩ K) : W P (⟨some d, some (gd, true), o⟩ :: r) acc ⟨sl, m, g⟩ K :=
  W.guardF hg (by rw [hc]; decide) kk
theorem W.guardF2 {gd : Nat} {c : Bool} {o : LOp} (hg : look sl gd = some (.bool c)) (hc : c = true) (kk : W P r (([], []) :: acc) ⟨(d, .tup []) :: sl, m, g⟩ K) : W P (⟨some d, some (gd, false), o⟩ :: r) acc ⟨sl, m, g⟩ K :=
  W.guardF hg (by rw [hc]; decide) kk
theorem W.pickN {c : LX} {b : Bool} (hc : lx sl c = some (.bool b)) (hx : lx sl x = some p) (hy : lx sl y = some q) (e : b = false)
    (kk : W P r (([], []) :: acc) ⟨(d, q) :: sl, m, g⟩ K) : W P (⟨some d, none, .pick c x y⟩ :: r) acc ⟨sl, m, g⟩ K :=
  W.pickF hc hx hy (by rw [e]; decide) kk
end
section
variable {N : Nat} {st : St} {Q : Ex → St → Prop} {x y : LCode}
theorem Ev.condT {l : LX} {b : Bool} (hl : lx st.slots l = some (.bool b)) (e : b = true) (h : Ev P N x st Q) : Ev P N (.cond l x y) st Q :=
  Ev.cond hl (fun _ => h) fun e' => by rw [e] at e'; cases e'
theorem Ev.condF {l : LX} {b : Bool} (hl : lx st.slots l = some (.bool b)) (e : b = false) (h : Ev P N y st Q) : Ev P N (.cond l x y) st Q :=
  Ev.cond hl (fun e' => by rw [e] at e'; cases e') fun _ => h
theorem Wk.to (ks ms : List Nat) {s S : St} (h : PW.norm ks ms s = S) : Wk s S := by rw [← h]; exact Wk.norm ks ms s
theorem Ev.cut (S : St) (h : Ev P N x st (Ex.then (fun s => Wk s S) Q)) (k : Ev P N y S Q) : Ev P N (.seq x y) st Q := by
  refine Ev.seq (h.mono fun e s hs => ?_)
  cases e <;> simp only [Ex.then] at hs ⊢
  · exact Ev.weak k hs
  · exact hs
  · exact hs
end
end
end Go.PW
