/-
  PwAuto: a run of operations by rule: the tags of a list say which kind of rule is next; what is left to show comes out of the rules themselves.
-/
import Derived.Test.YtjmmlddioeehbaaGreatDoorPwDec
import Derived.Test.YtjmmlddioeehbaaGreatDoorPwInl
import Derived.KernelRfl
namespace Go.PW
open Go.RowKit
inductive Tk {α : Type} : Nat → List α → List α → Prop
  | z {l : List α} : Tk 0 l []
  | s {n : Nat} {a : α} {l t : List α} (h : Tk n l t) : Tk (n + 1) (a :: l) (a :: t)
inductive Dt {α : Type} : Nat → Nat → List α → List α → Prop
  | z {n : Nat} {l t : List α} (h : Tk n l t) : Dt 0 n l t
  | s {i n : Nat} {a : α} {l t : List α} (h : Dt i n l t) : Dt (i + 1) n (a :: l) t
inductive Dp {α : Type} : Nat → List α → List α → Prop
  | z {l : List α} : Dp 0 l l
  | s {n : Nat} {a : α} {l t : List α} (h : Dp n l t) : Dp (n + 1) (a :: l) t
inductive Ce : PV → List PV → Prop
  | int {k : IntKind} {n : Int} : Ce (.int k n) [.int k n]
  | bool {b : Bool} : Ce (.bool b) [.bool b]
  | str {s : List UInt8} : Ce (.str s) [.str s]
  | nils : Ce .nils [.nils]
  | list {n : Nat} {es : List (List PV)} : Ce (.list n es) [.list n es]
  | own {a b : Nat} : Ce (.own a b) [.own a b]
  | sub {a b c d : Nat} : Ce (.sub a b c d) [.sub a b c d]
  | pnil : Ce .pnil [.pnil]
  | fnil : Ce .fnil [.fnil]
  | fn {f : FuncId} {a b : List PV} : Ce (.fn f a b) [.fn f a b]
  | pown {a b c d : Nat} : Ce (.pown a b c d) [.pown a b c d]
  | agg {cs : List PV} : Ce (.agg cs) cs
inductive Ov {α : Type} : List α → List α → List α → Prop
  | nil {l : List α} : Ov [] l l
  | cons {a b : α} {q l t : List α} (h : Ov q l t) : Ov (a :: q) (b :: l) (a :: t)
inductive Sp {α : Type} : Nat → List α → List α → List α → Prop
  | z {q l t : List α} (h : Ov q l t) : Sp 0 q l t
  | s {n : Nat} {a : α} {q l t : List α} (h : Sp n q l t) : Sp (n + 1) q (a :: l) (a :: t)
inductive Bo : Bool → Bool → Prop
  | t : Bo true true
  | f : Bo false false
theorem Tk.eq {α : Type} {n : Nat} {l t : List α} (h : Tk n l t) : n ≤ l.length ∧ l.take n = t := by
  induction h with
  | z => simp
  | s h ih => exact ⟨by simp [ih.1], by simp [ih.2]⟩
theorem Dt.eq {α : Type} {i n : Nat} {l t : List α} (h : Dt i n l t) : n ≤ (l.drop i).length ∧ (l.drop i).take n = t := by
  induction h with
  | z h => simpa using h.eq
  | s h ih => simpa using ih
theorem Dp.eq {α : Type} {n : Nat} {l t : List α} (h : Dp n l t) : l.drop n = t := by
  induction h with
  | z => simp
  | s h ih => simpa using ih
theorem Ce.eq {p : PV} {cs : List PV} (h : Ce p cs) : p.cells = cs := by cases h <;> rfl
theorem Ov.eq {α : Type} {q l t : List α} (h : Ov q l t) : q.length ≤ l.length ∧ q ++ l.drop q.length = t := by
  induction h with
  | nil => simp
  | cons h ih => exact ⟨by simp [ih.1], by simpa using ih.2⟩
theorem Sp.eq {n : Nat} {q l t : List PV} (h : Sp n q l t) : n + q.length ≤ l.length ∧ splice l n q = t := by
  unfold splice
  induction h with
  | z h => exact ⟨by simpa using h.eq.1, by simpa using h.eq.2⟩
  | s h ih =>
    refine ⟨by simp only [List.length_cons]; omega, ?_⟩
    rw [← ih.2, Nat.add_right_comm]
    simp
theorem Bo.eq {a b : Bool} (h : Bo a b) : a = b := by cases h <;> rfl
inductive Fi (sl : List (Nat × PV)) : List PV → List (Nat × Nat × LX) → List PV → Prop
  | nil {z : List PV} : Fi sl z [] z
  | cons {z z' t cs : List PV} {o n : Nat} {x : LX} {p : PV} {ps : List (Nat × Nat × LX)} (hx : lx sl x = some p) (hc : Ce p cs) (hs : Sp o cs z z') (hn : cs.length = n) (hv : p.val = true) (h : Fi sl z' ps t) : Fi sl z ((o, n, x) :: ps) t
theorem Fi.eq {sl : List (Nat × PV)} {z t : List PV} {ps : List (Nat × Nat × LX)} (h : Fi sl z ps t) : ∃ xs, lxs sl (ps.map (·.2.2)) = some xs ∧ xs.length = ps.length ∧ fillCells z ((ps.zip xs).map fun q => (q.1.1, q.1.2.1, q.2)) = some t := by
  induction h with
  | nil => exact ⟨[], rfl, rfl, rfl⟩
  | @cons z z' t cs o n x p ps hx hc hs hn hv h ih =>
    obtain ⟨xs, h1, h2, h3⟩ := ih
    refine ⟨p :: xs, by simp [lxs, hx, h1], by simp [h2], ?_⟩
    simp only [List.zip_cons_cons, List.map_cons, fillCells]
    rw [hc.eq, if_pos ⟨hn, by rw [← hn]; exact hs.eq.1, hv⟩, hs.eq.2, h3]
inductive Rp (z : List PV) : Nat → List (List PV) → Prop
  | z : Rp z 0 []
  | s {n : Nat} {es : List (List PV)} (h : Rp z n es) : Rp z (n + 1) (z :: es)
theorem Rp.eq {z : List PV} {n : Nat} {es : List (List PV)} (h : Rp z n es) : List.replicate n z = es := by
  induction h with
  | z => rfl
  | s h ih => rw [List.replicate_succ, ih]
inductive Se {α : Type} : Nat → α → List α → List α → Prop
  | z {x a : α} {l : List α} : Se 0 x (a :: l) (x :: l)
  | s {n : Nat} {x a : α} {l t : List α} (h : Se n x l t) : Se (n + 1) x (a :: l) (a :: t)
theorem Se.eq {α : Type} {n : Nat} {x : α} {l t : List α} (h : Se n x l t) : n < l.length ∧ l.set n x = t := by
  induction h with
  | z => simp
  | s h ih => exact ⟨by simp [ih.1], by simp [ih.2]⟩
inductive Fr (sl : List (Nat × PV)) (sz : Nat) : List (List PV) → List (Nat × LX) → List (List PV) → Prop
  | nil {z : List (List PV)} : Fr sl sz z [] z
  | cons {z z' t : List (List PV)} {cs : List PV} {o : Nat} {x : LX} {p : PV} {ps : List (Nat × LX)} (hx : lx sl x = some p) (hc : Ce p cs) (hs : Se o cs z z') (hn : cs.length = sz) (hv : p.val = true) (h : Fr sl sz z' ps t) : Fr sl sz z ((o, x) :: ps) t
theorem Fr.eq {sl : List (Nat × PV)} {sz : Nat} {z t : List (List PV)} {ps : List (Nat × LX)} (h : Fr sl sz z ps t) : ∃ xs, lxs sl (ps.map (·.2)) = some xs ∧ xs.length = ps.length ∧ fillRows sz z ((ps.zip xs).map fun q => (q.1.1, q.2)) = some t := by
  induction h with
  | nil => exact ⟨[], rfl, rfl, rfl⟩
  | @cons z z' t cs o x p ps hx hc hs hn hv h ih =>
    obtain ⟨xs, h1, h2, h3⟩ := ih
    refine ⟨p :: xs, by simp [lxs, hx, h1], by simp [h2], ?_⟩
    simp only [List.zip_cons_cons, List.map_cons, fillRows]
    rw [hc.eq, if_pos ⟨hn, hs.eq.1, hv⟩, hs.eq.2, h3]
class Cl (α : Type) where
  n : Nat
  c : α → List PV
instance : Cl Int := ⟨1, cI⟩
instance : Cl Bool := ⟨1, cB⟩
instance : Cl (List UInt8) := ⟨1, cS⟩
instance {α : Type} [Cl α] : Cl (List α) := ⟨1, cL (Cl.n α) Cl.c⟩
theorem rd1 {o n : Nat} {cs : List PV} {p : PV} (h : cs[o]? = some p) : rd n false (cs.drop o) = some p := by
  simp only [rd, Bool.false_eq_true, if_false, List.head?_drop]; exact h
theorem rdn {o n : Nat} {cs t : List PV} (h : Dt o n cs t) : rd n true (cs.drop o) = some (.agg t) := by
  simp only [rd, if_true, if_pos h.eq.1, h.eq.2]
theorem rdk {n : Nat} {cs t : List PV} (h : Tk n cs t) : rd n true cs = some (.agg t) := by
  simp only [rd, if_true, if_pos h.eq.1, h.eq.2]
section
variable {P : Program} {r : List LOper} {acc : List Log} {sl : List (Nat × PV)} {m : List (Nat × Ent)} {g d : Nat} {K : List Log → St → Prop} {x y : LX} {nm ver ve el sz n j : Nat} {dt dt' nw de : Bool}
theorem lx3 {u : LX} {p q s : PV} (hx : lx sl x = some p) (hy : lx sl y = some q) (hz : lx sl u = some s) : lxs sl (x :: ((some y).toList ++ (some u).toList)) = some (p :: [q, s]) := by simp [lxs, hx, hy, hz]
theorem lx2l {p q : PV} (hx : lx sl x = some p) (hy : lx sl y = some q) : lxs sl (x :: ((some y).toList ++ (none : Option LX).toList)) = some (p :: [q]) := by simp [lxs, hx, hy]
theorem lx2h {p q : PV} (hx : lx sl x = some p) (hy : lx sl y = some q) : lxs sl (x :: ((none : Option LX).toList ++ (some y).toList)) = some (p :: [q]) := by simp [lxs, hx, hy]
theorem fa_w {o : Nat} {cs t : List PV} (hx : lx sl x = some (.pim cs)) (ht : cs.drop o = t) (kk : W P r (([], []) :: acc) ⟨(d, .pim t) :: sl, m, g⟩ K) : W P (⟨some d, none, .fieldAddr o x⟩ :: r) acc ⟨sl, m, g⟩ K := by
  subst ht; exact W.fieldAddr hx kk
theorem sto_w {q : PV} {cs cs' qs : List PV} (hx : lx sl x = some (.pown nm ver 0 j)) (hy : lx sl y = some q) (hq : Ce q qs) (hl : liveF (look m) nm ver = some ⟨ve, el, sz, [cs], dt, nw, de⟩) (hs : Sp j qs cs cs') (hn : qs.length = n) (ho : qs.all PV.one = true) (hd : Bo (dt && qs.all PV.isD) dt')
    (kk : W P r (([nm] ++ (nameOf q ++ []), [nm]) :: acc) ⟨sl, (nm, ⟨ve, el, sz, [cs'], dt', nw, de⟩) :: m, g⟩ K) : W P (⟨none, none, .store n x y⟩ :: r) acc ⟨sl, m, g⟩ K := by
  have e := hq.eq
  subst e
  exact W.store hx hy hl (i := 0) rfl hn (by rw [← hn]; exact hs.eq.1) ho hs.eq.2 rfl hd.eq kk
theorem str_w {α : Type} {l : List α} {c : α → List PV} {i : Int} {v v' : α} {q : PV} {qs : List PV} (hx : lx sl x = some (.pown nm ver i.toNat 0)) (hy : lx sl y = some q) (hq : Ce q qs) (hl : liveF (look m) nm ver = some ⟨ve, el, sz, l.map c, dt, nw, de⟩) (hv : gidx l i = some v) (he : qs = c v') (hn : qs.length = n) (hc : (c v).length = n) (ho : qs.all PV.one = true) (hd : Bo (dt && qs.all PV.isD) dt')
    (kk : W P r (([nm] ++ (nameOf q ++ []), [nm]) :: acc) ⟨sl, (nm, ⟨ve, el, sz, (gset l i v').map c, dt', nw, de⟩) :: m, g⟩ K) : W P (⟨none, none, .store n x y⟩ :: r) acc ⟨sl, m, g⟩ K := by
  have e := hq.eq
  subst e
  refine W.storeR dt' hx hy hl rfl (gidx_some hv).2 hn (by omega) ho (v' := v') ?_ hd.eq kk
  rw [← he]
  simp only [splice, List.take_zero, List.nil_append, Nat.zero_add]
  rw [List.drop_eq_nil_of_le (by omega), List.append_nil]
theorem bld_w {zs cs : List PV} {ps : List (Nat × Nat × LX)} (hc : Fi sl zs ps cs) (kk : W P r (([], []) :: acc) ⟨(d, .agg cs) :: sl, m, g⟩ K) : W P (⟨some d, none, .build zs ps⟩ :: r) acc ⟨sl, m, g⟩ K := by
  obtain ⟨xs, h1, h2, h3⟩ := hc.eq
  exact W.build h1 h2 h3 kk
theorem mks_w {zs : List PV} {ps : List (Nat × LX)} {e0 es : List (List PV)} (hf : freshF (look m) d = true) (hr : Rp zs n e0) (hc : Fr sl sz e0 ps es) (ho : es.all (fun cs => cs.all PV.one) = true) (hd : Bo (es.all fun cs => cs.all PV.isD) dt)
    (kk : W P r (([d], [d]) :: acc) ⟨(d, .own d g) :: sl, (d, ⟨g, el, sz, es, dt, true, false⟩) :: m, g⟩ K) : W P (⟨some d, none, .mkSlice el sz n zs ps⟩ :: r) acc ⟨sl, m, g⟩ K := by
  obtain ⟨xs, h1, h2, h3⟩ := hc.eq
  exact W.mkSlice h1 h2 hf (by rw [hr.eq]; exact h3) ho hd.eq kk
theorem apR_w {α : Type} {c : α → List PV} {l ys v : List α} {es : List (List PV)} {by_ : Nat} {q : PV} (hx : lx sl x = some (.own nm ver)) (hl : liveF (look m) nm ver = some ⟨ve, el, sz, es, true, nw, de⟩) (he : es = l.map c) (hy : lx sl y = some q) (hs : srcRows (look m) sz q = some (sz, ys.map c)) (hf : freshF (look m) d = true) (hd : srcData (look m) q = true) (hn : Nat.beq nm d = false) (hv : gapp by_ l ys = some v)
    (kk : W P r ((d :: nm :: (nameOf q ++ []), [d, nm]) :: acc) ⟨(d, .own d g) :: sl, (d, ⟨g, el, sz, v.map c, true, true, false⟩) :: (nm, ⟨ve, el, sz, es, true, nw, true⟩) :: m, g⟩ K) : W P (⟨some d, none, .append el sz by_ x y⟩ :: r) acc ⟨sl, m, g⟩ K :=
  W.appR true hx hl rfl rfl he hy hs hf hv (by show (true && srcData (look m) q) = true; rw [hd]; rfl) (by simp [Nat.ne_of_beq_eq_false hn]) kk
end
abbrev Sl := List (Nat × PV)
abbrev Me := List (Nat × Ent)
abbrev Lo := List LOper
abbrev Lg := List Log
abbrev Ts := List Nat
abbrev Qt := Ex → St → Prop
inductive Kt where
  | fin (Q : Qt)
  | seq (b : LCode) (k : Kt)
  | blk (i : Nat) (k : Kt)
inductive Kw where
  | raw (K : Lg → St → Prop)
  | nd (k : Kt)
  | dr (ps : List (Nat × Nat)) (k : Kt)
inductive Nd where
  | e (L : LCode) (st : St) (k : Kt)
  | w (r : Lo) (acc : Lg) (st : St) (k : Kw)
  | x (e : Ex) (st : St) (k : Kt)
section
variable (P : Program) (N : Nat)
def Kt.q : Kt → Qt
  | .fin Q => Q
  | .seq b k => Ex.then (fun s => Ev P N b s (k.q)) (k.q)
  | .blk i k => Ex.inBlock i (k.q)
def Kw.q : Kw → Lg → St → Prop
  | .raw K => K
  | .nd k => fun _ s => k.q P N .normal s
  | .dr ps k => fun logs s => pairsOk ps logs.reverse = true ∧ k.q P N .normal s
def Nd.den : Nd → Prop
  | .e L st k => Ev P N L st (k.q P N)
  | .w r acc st k => W P r acc st (k.q P N)
  | .x y st k => k.q P N y st
inductive Au {R : Type} (z : R) : List Nat → Nd → Option R → Prop → Prop
  -- behind a part
  | xs {ts : Ts} {F : Option R} {G : Prop} {b : LCode} {k : Kt} {st : St} (h : Au z ts (.e b st k) F G) : Au z ts (.x .normal st (.seq b k)) F G
  | xe {ts : Ts} {F : Option R} {G : Prop} {b : LCode} {k : Kt} {st : St} {i : Nat} (h : Au z ts (.x (.exit i) st k) F G) : Au z ts (.x (.exit i) st (.seq b k)) F G
  | xr {ts : Ts} {F : Option R} {G : Prop} {b : LCode} {k : Kt} {st : St} (h : Au z ts (.x .ret st k) F G) : Au z ts (.x .ret st (.seq b k)) F G
  | bn {ts : Ts} {F : Option R} {G : Prop} {k : Kt} {st : St} {i : Nat} (h : Au z ts (.x .normal st k) F G) : Au z ts (.x .normal st (.blk i k)) F G
  | be {ts : Ts} {F : Option R} {G : Prop} {k : Kt} {st : St} {i : Nat} (h : Au z ts (.x .normal st k) F G) : Au z ts (.x (.exit i) st (.blk i k)) F G
  | bo {ts : Ts} {F : Option R} {G : Prop} {k : Kt} {st : St} {i j : Nat} (hn : Nat.beq j i = false) (h : Au z ts (.x (.exit j) st k) F G) : Au z ts (.x (.exit j) st (.blk i k)) F G
  | br {ts : Ts} {F : Option R} {G : Prop} {k : Kt} {st : St} {i : Nat} (h : Au z ts (.x .ret st k) F G) : Au z ts (.x .ret st (.blk i k)) F G
  | fs {ts : Ts} {F : Option R} {G : Prop} {b : LCode} {Q : Qt} {st : St} (h : Au z ts (.e b st (.fin Q)) F G) : Au z ts (.x .normal st (.fin (Ex.then (fun s => Ev P N b s Q) Q))) F G
  | fe {ts : Ts} {F : Option R} {G : Prop} {n : St → Prop} {Q : Qt} {st : St} {i : Nat} (h : Au z ts (.x (.exit i) st (.fin Q)) F G) : Au z ts (.x (.exit i) st (.fin (Ex.then n Q))) F G
  | fr {ts : Ts} {F : Option R} {G : Prop} {n : St → Prop} {Q : Qt} {st : St} (h : Au z ts (.x .ret st (.fin Q)) F G) : Au z ts (.x .ret st (.fin (Ex.then n Q))) F G
  | gn {ts : Ts} {F : Option R} {G : Prop} {Q : Qt} {st : St} {i : Nat} (h : Au z ts (.x .normal st (.fin Q)) F G) : Au z ts (.x .normal st (.fin (Ex.inBlock i Q))) F G
  | ge {ts : Ts} {F : Option R} {G : Prop} {Q : Qt} {st : St} {i : Nat} (h : Au z ts (.x .normal st (.fin Q)) F G) : Au z ts (.x (.exit i) st (.fin (Ex.inBlock i Q))) F G
  | go {ts : Ts} {F : Option R} {G : Prop} {Q : Qt} {st : St} {i j : Nat} (hn : Nat.beq j i = false) (h : Au z ts (.x (.exit j) st (.fin Q)) F G) : Au z ts (.x (.exit j) st (.fin (Ex.inBlock i Q))) F G
  | gr {ts : Ts} {F : Option R} {G : Prop} {Q : Qt} {st : St} {i : Nat} (h : Au z ts (.x .ret st (.fin Q)) F G) : Au z ts (.x .ret st (.fin (Ex.inBlock i Q))) F G
  | xf {F : Option R} {Q : Qt} {e : Ex} {st : St} : Au z [] (.x e st (.fin Q)) F (F = some z → Q e st)
  | nn {ts : Ts} {F : Option R} {G : Prop} {acc : Lg} {st : St} {k : Kt} (h : Au z ts (.x .normal st k) F G) : Au z ts (.w [] acc st (.nd k)) F G
  | nd {ts : Ts} {F : Option R} {G : Prop} {acc : Lg} {st : St} {ps : List (Nat × Nat)} {k : Kt} (hp : pairsOk ps acc.reverse = true) (h : Au z ts (.x .normal st k) F G) : Au z ts (.w [] acc st (.dr ps k)) F G
  | nq {ts : Ts} {F : Option R} {G : Prop} {acc : Lg} {st : St} {k : Kt} (h : Au z ts (.x .normal st k) F G) : Au z ts (.w [] acc st (.raw (Kw.q P N (.nd k)))) F G
  | nqd {ts : Ts} {F : Option R} {G : Prop} {acc : Lg} {st : St} {ps : List (Nat × Nat)} {k : Kt} (hp : pairsOk ps acc.reverse = true) (h : Au z ts (.x .normal st k) F G) : Au z ts (.w [] acc st (.raw (Kw.q P N (.dr ps k)))) F G
  | nz {ts : Ts} {F : Option R} {G : Prop} {acc : Lg} {st : St} {Q : Qt} (h : Au z ts (.x .normal st (.fin Q)) F G) : Au z ts (.w [] acc st (.raw fun _ s => Q .normal s)) F G
  | nzd {ts : Ts} {F : Option R} {G : Prop} {acc : Lg} {st : St} {ps : List (Nat × Nat)} {Q : Qt} (hp : pairsOk ps acc.reverse = true) (h : Au z ts (.x .normal st (.fin Q)) F G) : Au z ts (.w [] acc st (.raw fun logs s => pairsOk ps logs.reverse = true ∧ Q .normal s)) F G
  | nr {F : Option R} {acc : Lg} {st : St} {K : Lg → St → Prop} : Au z [] (.w [] acc st (.raw K)) F (F = some z → K acc st)
  | sE {F : Option R} {L : LCode} {st : St} {Q : Qt} : Au z [] (.e L st (.fin Q)) F (F = some z → Ev P N L st Q)
  | sF {F : Option R} {L : LCode} {st : St} {k : Kt} : Au z [] (.e L st k) F (F = some z → Ev P N L st (k.q P N))
  | sW {F : Option R} {r : Lo} {acc : Lg} {st : St} {K : Lg → St → Prop} : Au z [] (.w r acc st (.raw K)) F (F = some z → W P r acc st K)
  | sX {F : Option R} {r : Lo} {acc : Lg} {st : St} {k : Kw} : Au z [] (.w r acc st k) F (F = some z → W P r acc st (k.q P N))
  -- code: 1
  | seq {ts : Ts} {F : Option R} {G : Prop} {a b : LCode} {k : Kt} {st : St} (h : Au z ts (.e a st (.seq b k)) F G) : Au z (1 :: ts) (.e (.seq a b) st k) F G
  | reg {ts : Ts} {F : Option R} {G : Prop} {los : Lo} {ps : List (Nat × Nat)} {k : Kt} {st : St} (h : Au z ts (.w los [] st (.nd k)) F G) : Au z (1 :: ts) (.e (.reg ⟨los, false, ps⟩) st k) F G
  | rgd {ts : Ts} {F : Option R} {G : Prop} {los : Lo} {ps : List (Nat × Nat)} {k : Kt} {st : St} (h : Au z ts (.w los [] st (.dr ps k)) F G) : Au z (1 :: ts) (.e (.reg ⟨los, true, ps⟩) st k) F G
  | blk {ts : Ts} {F : Option R} {G : Prop} {i : Nat} {c : LCode} {k : Kt} {st : St} (h : Au z ts (.e c st (.blk i k)) F G) : Au z (1 :: ts) (.e (.block i c) st k) F G
  | skip {ts : Ts} {F : Option R} {G : Prop} {k : Kt} {st : St} (h : Au z ts (.x .normal st k) F G) : Au z (1 :: ts) (.e .skip st k) F G
  | exit {ts : Ts} {F : Option R} {G : Prop} {i : Nat} {k : Kt} {st : St} (h : Au z ts (.x (.exit i) st k) F G) : Au z (1 :: ts) (.e (.exit i) st k) F G
  | ret {ts : Ts} {F : Option R} {G : Prop} {k : Kt} {st : St} (h : Au z ts (.x .ret st k) F G) : Au z (1 :: ts) (.e .ret st k) F G
  | cT {ts : Ts} {F : Option R} {G : Prop} {l : LX} {b : Bool} {x y : LCode} {k : Kt} {st : St} (hl : lx st.slots l = some (.bool b)) (hb : b = true) (h : Au z ts (.e x st k) F G) : Au z (2 :: ts) (.e (.cond l x y) st k) F G
  | cF {ts : Ts} {F : Option R} {G : Prop} {l : LX} {b : Bool} {x y : LCode} {k : Kt} {st : St} (hl : lx st.slots l = some (.bool b)) (hb : b = false) (h : Au z ts (.e y st k) F G) : Au z (3 :: ts) (.e (.cond l x y) st k) F G
  -- operations
  | mv {ts : Ts} {F : Option R} {G : Prop} {r : Lo} {acc : Lg} {sl : Sl} {m : Me} {g d : Nat} {k : Kw} {x : LX} {p : PV} (hx : lx sl x = some p)
      (h : Au z ts (.w r (([], []) :: acc) ⟨(d, p) :: sl, m, g⟩ k) F G) : Au z (1 :: ts) (.w (⟨some d, none, .mv x⟩ :: r) acc ⟨sl, m, g⟩ k) F G
  | gT {ts : Ts} {F : Option R} {G : Prop} {r : Lo} {acc : Lg} {st : St} {k : Kw} {gd : Nat} {bb c : Bool} {o : LOp} {dst : Option Nat} (hg : look st.slots gd = some (.bool c)) (hc : c = bb)
      (h : Au z ts (.w (⟨dst, none, o⟩ :: r) acc st k) F G) : Au z (2 :: ts) (.w (⟨dst, some (gd, bb), o⟩ :: r) acc st k) F G
  | gF {ts : Ts} {F : Option R} {G : Prop} {r : Lo} {acc : Lg} {sl : Sl} {m : Me} {g d : Nat} {k : Kw} {gd : Nat} {c : Bool} {o : LOp} (hg : look sl gd = some (.bool c)) (hc : c = false)
      (h : Au z ts (.w r (([], []) :: acc) ⟨(d, .tup []) :: sl, m, g⟩ k) F G) : Au z (3 :: ts) (.w (⟨some d, some (gd, true), o⟩ :: r) acc ⟨sl, m, g⟩ k) F G
  | gG {ts : Ts} {F : Option R} {G : Prop} {r : Lo} {acc : Lg} {sl : Sl} {m : Me} {g d : Nat} {k : Kw} {gd : Nat} {c : Bool} {o : LOp} (hg : look sl gd = some (.bool c)) (hc : c = true)
      (h : Au z ts (.w r (([], []) :: acc) ⟨(d, .tup []) :: sl, m, g⟩ k) F G) : Au z (3 :: ts) (.w (⟨some d, some (gd, false), o⟩ :: r) acc ⟨sl, m, g⟩ k) F G
  | gU {ts : Ts} {F : Option R} {G : Prop} {r : Lo} {acc : Lg} {sl : Sl} {m : Me} {g d : Nat} {k : Kw} {gd : Nat} {bb : Bool} {o : LOp} (hg : look sl gd = some (.tup []))
      (h : Au z ts (.w r (([], []) :: acc) ⟨(d, .tup []) :: sl, m, g⟩ k) F G) : Au z (4 :: ts) (.w (⟨some d, some (gd, bb), o⟩ :: r) acc ⟨sl, m, g⟩ k) F G
  | pT {ts : Ts} {F : Option R} {G : Prop} {r : Lo} {acc : Lg} {sl : Sl} {m : Me} {g d : Nat} {k : Kw} {c x y : LX} {b : Bool} {p q : PV} (hc : lx sl c = some (.bool b)) (hx : lx sl x = some p) (hy : lx sl y = some q) (e : b = true)
      (h : Au z ts (.w r (([], []) :: acc) ⟨(d, p) :: sl, m, g⟩ k) F G) : Au z (2 :: ts) (.w (⟨some d, none, .pick c x y⟩ :: r) acc ⟨sl, m, g⟩ k) F G
  | pN {ts : Ts} {F : Option R} {G : Prop} {r : Lo} {acc : Lg} {sl : Sl} {m : Me} {g d : Nat} {k : Kw} {c x y : LX} {b : Bool} {p q : PV} (hc : lx sl c = some (.bool b)) (hx : lx sl x = some p) (hy : lx sl y = some q) (e : b = false)
      (h : Au z ts (.w r (([], []) :: acc) ⟨(d, q) :: sl, m, g⟩ k) F G) : Au z (3 :: ts) (.w (⟨some d, none, .pick c x y⟩ :: r) acc ⟨sl, m, g⟩ k) F G
  -- the rest: 5 and on
  | lss {ts : Ts} {G : Prop} {r : Lo} {acc : Lg} {sl : Sl} {m : Me} {g d : Nat} {k : Kw} {F : Option R} {x y : LX} {a b : Int} {k' : IntKind} (hx : lx sl x = some (.int k' a)) (hy : lx sl y = some (.int k' b))
      (h : Au z ts (.w r (([], []) :: acc) ⟨(d, .bool (decide (a < b))) :: sl, m, g⟩ k) F G) : Au z (5 :: ts) (.w (⟨some d, none, .bin .lss x y⟩ :: r) acc ⟨sl, m, g⟩ k) F G
  | leq {ts : Ts} {G : Prop} {r : Lo} {acc : Lg} {sl : Sl} {m : Me} {g d : Nat} {k : Kw} {F : Option R} {x y : LX} {a b : Int} {k' : IntKind} (hx : lx sl x = some (.int k' a)) (hy : lx sl y = some (.int k' b))
      (h : Au z ts (.w r (([], []) :: acc) ⟨(d, .bool (decide (a ≤ b))) :: sl, m, g⟩ k) F G) : Au z (5 :: ts) (.w (⟨some d, none, .bin .leq x y⟩ :: r) acc ⟨sl, m, g⟩ k) F G
  | gtr {ts : Ts} {G : Prop} {r : Lo} {acc : Lg} {sl : Sl} {m : Me} {g d : Nat} {k : Kw} {F : Option R} {x y : LX} {a b : Int} {k' : IntKind} (hx : lx sl x = some (.int k' a)) (hy : lx sl y = some (.int k' b))
      (h : Au z ts (.w r (([], []) :: acc) ⟨(d, .bool (decide (b < a))) :: sl, m, g⟩ k) F G) : Au z (5 :: ts) (.w (⟨some d, none, .bin .gtr x y⟩ :: r) acc ⟨sl, m, g⟩ k) F G
  | geq {ts : Ts} {G : Prop} {r : Lo} {acc : Lg} {sl : Sl} {m : Me} {g d : Nat} {k : Kw} {F : Option R} {x y : LX} {a b : Int} {k' : IntKind} (hx : lx sl x = some (.int k' a)) (hy : lx sl y = some (.int k' b))
      (h : Au z ts (.w r (([], []) :: acc) ⟨(d, .bool (decide (b ≤ a))) :: sl, m, g⟩ k) F G) : Au z (5 :: ts) (.w (⟨some d, none, .bin .geq x y⟩ :: r) acc ⟨sl, m, g⟩ k) F G
  | eql {ts : Ts} {G : Prop} {r : Lo} {acc : Lg} {sl : Sl} {m : Me} {g d : Nat} {k : Kw} {F : Option R} {x y : LX} {a b : Int} {k' : IntKind} (hx : lx sl x = some (.int k' a)) (hy : lx sl y = some (.int k' b))
      (h : Au z ts (.w r (([], []) :: acc) ⟨(d, .bool (decide (a = b))) :: sl, m, g⟩ k) F G) : Au z (5 :: ts) (.w (⟨some d, none, .bin .eql x y⟩ :: r) acc ⟨sl, m, g⟩ k) F G
  | neq {ts : Ts} {G : Prop} {r : Lo} {acc : Lg} {sl : Sl} {m : Me} {g d : Nat} {k : Kw} {F : Option R} {x y : LX} {a b : Int} {k' : IntKind} (hx : lx sl x = some (.int k' a)) (hy : lx sl y = some (.int k' b))
      (h : Au z ts (.w r (([], []) :: acc) ⟨(d, .bool (decide (a ≠ b))) :: sl, m, g⟩ k) F G) : Au z (5 :: ts) (.w (⟨some d, none, .bin .neq x y⟩ :: r) acc ⟨sl, m, g⟩ k) F G
  | seql {ts : Ts} {G : Prop} {r : Lo} {acc : Lg} {sl : Sl} {m : Me} {g d : Nat} {k : Kw} {F : Option R} {x y : LX} {s t : List UInt8} (hx : lx sl x = some (.str s)) (hy : lx sl y = some (.str t))
      (h : Au z ts (.w r (([], []) :: acc) ⟨(d, .bool (decide (s = t))) :: sl, m, g⟩ k) F G) : Au z (6 :: ts) (.w (⟨some d, none, .bin .eql x y⟩ :: r) acc ⟨sl, m, g⟩ k) F G
  | sneq {ts : Ts} {G : Prop} {r : Lo} {acc : Lg} {sl : Sl} {m : Me} {g d : Nat} {k : Kw} {F : Option R} {x y : LX} {s t : List UInt8} (hx : lx sl x = some (.str s)) (hy : lx sl y = some (.str t))
      (h : Au z ts (.w r (([], []) :: acc) ⟨(d, .bool (decide (s ≠ t))) :: sl, m, g⟩ k) F G) : Au z (6 :: ts) (.w (⟨some d, none, .bin .neq x y⟩ :: r) acc ⟨sl, m, g⟩ k) F G
  | slss {ts : Ts} {G : Prop} {r : Lo} {acc : Lg} {sl : Sl} {m : Me} {g d : Nat} {k : Kw} {F : Option R} {x y : LX} {s t : List UInt8} (hx : lx sl x = some (.str s)) (hy : lx sl y = some (.str t))
      (h : Au z ts (.w r (([], []) :: acc) ⟨(d, .bool (Op.bytesLess s t)) :: sl, m, g⟩ k) F G) : Au z (6 :: ts) (.w (⟨some d, none, .bin .lss x y⟩ :: r) acc ⟨sl, m, g⟩ k) F G
  | sleq {ts : Ts} {G : Prop} {r : Lo} {acc : Lg} {sl : Sl} {m : Me} {g d : Nat} {k : Kw} {F : Option R} {x y : LX} {s t : List UInt8} (hx : lx sl x = some (.str s)) (hy : lx sl y = some (.str t))
      (h : Au z ts (.w r (([], []) :: acc) ⟨(d, .bool (Op.bytesLess s t || s == t)) :: sl, m, g⟩ k) F G) : Au z (6 :: ts) (.w (⟨some d, none, .bin .leq x y⟩ :: r) acc ⟨sl, m, g⟩ k) F G
  | sgtr {ts : Ts} {G : Prop} {r : Lo} {acc : Lg} {sl : Sl} {m : Me} {g d : Nat} {k : Kw} {F : Option R} {x y : LX} {s t : List UInt8} (hx : lx sl x = some (.str s)) (hy : lx sl y = some (.str t))
      (h : Au z ts (.w r (([], []) :: acc) ⟨(d, .bool (!(Op.bytesLess s t || s == t))) :: sl, m, g⟩ k) F G) : Au z (6 :: ts) (.w (⟨some d, none, .bin .gtr x y⟩ :: r) acc ⟨sl, m, g⟩ k) F G
  | sgeq {ts : Ts} {G : Prop} {r : Lo} {acc : Lg} {sl : Sl} {m : Me} {g d : Nat} {k : Kw} {F : Option R} {x y : LX} {s t : List UInt8} (hx : lx sl x = some (.str s)) (hy : lx sl y = some (.str t))
      (h : Au z ts (.w r (([], []) :: acc) ⟨(d, .bool (!(Op.bytesLess s t))) :: sl, m, g⟩ k) F G) : Au z (6 :: ts) (.w (⟨some d, none, .bin .geq x y⟩ :: r) acc ⟨sl, m, g⟩ k) F G
  | bneq {ts : Ts} {G : Prop} {r : Lo} {acc : Lg} {sl : Sl} {m : Me} {g d : Nat} {k : Kw} {F : Option R} {x y : LX} {s t : Bool} (hx : lx sl x = some (.bool s)) (hy : lx sl y = some (.bool t))
      (h : Au z ts (.w r (([], []) :: acc) ⟨(d, .bool (s != t)) :: sl, m, g⟩ k) F G) : Au z (5 :: ts) (.w (⟨some d, none, .eqb true x y⟩ :: r) acc ⟨sl, m, g⟩ k) F G
  | not {ts : Ts} {G : Prop} {r : Lo} {acc : Lg} {sl : Sl} {m : Me} {g d : Nat} {k : Kw} {F : Option R} {x : LX} {s : Bool} (hx : lx sl x = some (.bool s))
      (h : Au z ts (.w r (([], []) :: acc) ⟨(d, .bool (!s)) :: sl, m, g⟩ k) F G) : Au z (5 :: ts) (.w (⟨some d, none, .un .not x⟩ :: r) acc ⟨sl, m, g⟩ k) F G
  | eqs {ts : Ts} {G : Prop} {r : Lo} {acc : Lg} {sl : Sl} {m : Me} {g d : Nat} {k : Kw} {F : Option R} {x y : LX} {ng e : Bool} {ks : List Nat} {xs ys : List PV} (hx : lx sl x = some (.agg xs)) (hy : lx sl y = some (.agg ys)) (he : eqCells ks xs ys = some e)
      (h : Au z ts (.w r (([], []) :: acc) ⟨(d, .bool (e != ng)) :: sl, m, g⟩ k) F G) : Au z (5 :: ts) (.w (⟨some d, none, .eqs ng ks x y⟩ :: r) acc ⟨sl, m, g⟩ k) F G
  | mx {ts : Ts} {G : Prop} {r : Lo} {acc : Lg} {sl : Sl} {m : Me} {g d : Nat} {k : Kw} {F : Option R} {x y : LX} {a b : Int} {k' : IntKind} (hx : lx sl x = some (.int k' a)) (hy : lx sl y = some (.int k' b))
      (h : Au z ts (.w r (([], []) :: acc) ⟨(d, .int k' (max a b)) :: sl, m, g⟩ k) F G) : Au z (5 :: ts) (.w (⟨some d, none, .mx x y⟩ :: r) acc ⟨sl, m, g⟩ k) F G
  | mn {ts : Ts} {G : Prop} {r : Lo} {acc : Lg} {sl : Sl} {m : Me} {g d : Nat} {k : Kw} {F : Option R} {x y : LX} {a b : Int} {k' : IntKind} (hx : lx sl x = some (.int k' a)) (hy : lx sl y = some (.int k' b))
      (h : Au z ts (.w r (([], []) :: acc) ⟨(d, .int k' (min a b)) :: sl, m, g⟩ k) F G) : Au z (5 :: ts) (.w (⟨some d, none, .mn x y⟩ :: r) acc ⟨sl, m, g⟩ k) F G
  | conv {ts : Ts} {G : Prop} {r : Lo} {acc : Lg} {sl : Sl} {m : Me} {g d : Nat} {k : Kw} {F : Option R} {x : LX} {a : Int} {k' k2 : IntKind} (hx : lx sl x = some (.int k' a))
      (h : Au z ts (.w r (([], []) :: acc) ⟨(d, .int k2 (IntKind.wrap k2 a)) :: sl, m, g⟩ k) F G) : Au z (5 :: ts) (.w (⟨some d, none, .conv k2 x⟩ :: r) acc ⟨sl, m, g⟩ k) F G
  | slen {ts : Ts} {G : Prop} {r : Lo} {acc : Lg} {sl : Sl} {m : Me} {g d : Nat} {k : Kw} {F : Option R} {x : LX} {s : List UInt8} (hx : lx sl x = some (.str s))
      (h : Au z ts (.w r (([], []) :: acc) ⟨(d, .int .i64 s.length) :: sl, m, g⟩ k) F G) : Au z (5 :: ts) (.w (⟨some d, none, .slen x⟩ :: r) acc ⟨sl, m, g⟩ k) F G
  | lenL {ts : Ts} {G : Prop} {r : Lo} {acc : Lg} {sl : Sl} {m : Me} {g d : Nat} {k : Kw} {F : Option R} {x : LX} {α : Type} {l : List α} {c : α → List PV} {sz : Nat} (hx : lx sl x = some (.list sz (l.map c)))
      (h : Au z ts (.w r (([], []) :: acc) ⟨(d, .int .i64 l.length) :: sl, m, g⟩ k) F G) : Au z (5 :: ts) (.w (⟨some d, none, .len x⟩ :: r) acc ⟨sl, m, g⟩ k) F G
  | lenN {ts : Ts} {G : Prop} {r : Lo} {acc : Lg} {sl : Sl} {m : Me} {g d : Nat} {k : Kw} {F : Option R} {x : LX} (hx : lx sl x = some .nils)
      (h : Au z ts (.w r (([], []) :: acc) ⟨(d, .int .i64 0) :: sl, m, g⟩ k) F G) : Au z (6 :: ts) (.w (⟨some d, none, .len x⟩ :: r) acc ⟨sl, m, g⟩ k) F G
  | lenO {ts : Ts} {G : Prop} {r : Lo} {acc : Lg} {sl : Sl} {m : Me} {g d : Nat} {k : Kw} {F : Option R} {x : LX} {α : Type} {l : List α} {c : α → List PV} {nm ver ve el sz : Nat} {dt nw de : Bool} (hx : lx sl x = some (.own nm ver)) (hl : liveF (look m) nm ver = some ⟨ve, el, sz, l.map c, dt, nw, de⟩)
      (h : Au z ts (.w r (([nm], []) :: acc) ⟨(d, .int .i64 l.length) :: sl, m, g⟩ k) F G) : Au z (7 :: ts) (.w (⟨some d, none, .len x⟩ :: r) acc ⟨sl, m, g⟩ k) F G
  | ext {ts : Ts} {G : Prop} {r : Lo} {acc : Lg} {sl : Sl} {m : Me} {g d : Nat} {k : Kw} {F : Option R} {x : LX} {i : Nat} {cs : List PV} {p : PV} (hx : lx sl x = some (.tup cs)) (hr : cs[i]? = some p)
      (h : Au z ts (.w r (([], []) :: acc) ⟨(d, p) :: sl, m, g⟩ k) F G) : Au z (5 :: ts) (.w (⟨some d, none, .extract i x⟩ :: r) acc ⟨sl, m, g⟩ k) F G
  | fld {ts : Ts} {G : Prop} {r : Lo} {acc : Lg} {sl : Sl} {m : Me} {g d : Nat} {k : Kw} {F : Option R} {x : LX} {o n : Nat} {cs : List PV} {p : PV} (hx : lx sl x = some (.agg cs)) (hr : cs[o]? = some p)
      (h : Au z ts (.w r (([], []) :: acc) ⟨(d, p) :: sl, m, g⟩ k) F G) : Au z (5 :: ts) (.w (⟨some d, none, .field o n false x⟩ :: r) acc ⟨sl, m, g⟩ k) F G
  | fa {ts : Ts} {G : Prop} {r : Lo} {acc : Lg} {sl : Sl} {m : Me} {g d : Nat} {k : Kw} {F : Option R} {x : LX} {o : Nat} {cs t : List PV} (hx : lx sl x = some (.pim cs)) (hr : Dp o cs t)
      (h : Au z ts (.w r (([], []) :: acc) ⟨(d, .pim t) :: sl, m, g⟩ k) F G) : Au z (5 :: ts) (.w (⟨some d, none, .fieldAddr o x⟩ :: r) acc ⟨sl, m, g⟩ k) F G
  | fao {ts : Ts} {G : Prop} {r : Lo} {acc : Lg} {sl : Sl} {m : Me} {g d : Nat} {k : Kw} {F : Option R} {x : LX} {o nm ver i j : Nat} {e : Ent} (hx : lx sl x = some (.pown nm ver i j)) (hl : liveF (look m) nm ver = some e) (hb : Nat.blt (j + o) BX = true)
      (h : Au z ts (.w r (([nm], []) :: acc) ⟨(d, .pown nm ver i (j + o)) :: sl, m, g⟩ k) F G) : Au z (8 :: ts) (.w (⟨some d, none, .fieldAddr o x⟩ :: r) acc ⟨sl, m, g⟩ k) F G
  | ixL {ts : Ts} {r : Lo} {acc : Lg} {sl : Sl} {m : Me} {g d : Nat} {k : Kw} {x y : LX} {α : Type} {l : List α} {c : α → List PV} {i : Int} {k' : IntKind} {sz : Nat} {f : α → Option R} {G : α → Prop} (hx : lx sl x = some (.list sz (l.map c))) (hy : lx sl y = some (.int k' i))
      (h : ∀ v : α, gidx l i = some v → Au z ts (.w r (([], []) :: acc) ⟨(d, .pim (c v)) :: sl, m, g⟩ k) (f v) (G v)) : Au z (5 :: ts) (.w (⟨some d, none, .idx sz x y⟩ :: r) acc ⟨sl, m, g⟩ k) (Option.bind (gidx l i) f) (∀ v : α, gidx l i = some v → G v)
  | ixLk {ts : Ts} {G : Prop} {r : Lo} {acc : Lg} {sl : Sl} {m : Me} {g d : Nat} {k : Kw} {F : Option R} {x y : LX} {α : Type} {l : List α} {c : α → List PV} {i : Int} {k' : IntKind} {sz : Nat} {v : α} (hx : lx sl x = some (.list sz (l.map c))) (hy : lx sl y = some (.int k' i)) (hv : gidx l i = some v)
      (h : Au z ts (.w r (([], []) :: acc) ⟨(d, .pim (c v)) :: sl, m, g⟩ k) F G) : Au z (6 :: ts) (.w (⟨some d, none, .idx sz x y⟩ :: r) acc ⟨sl, m, g⟩ k) F G
  | ixR {ts : Ts} {r : Lo} {acc : Lg} {sl : Sl} {m : Me} {g d : Nat} {k : Kw} {x y : LX} {α : Type} {l : List α} {c : α → List PV} {i : Int} {k' : IntKind} {nm ver ve el sz : Nat} {dt nw de : Bool} {f : α → Option R} {G : α → Prop} (hx : lx sl x = some (.own nm ver)) (hy : lx sl y = some (.int k' i)) (hl : liveF (look m) nm ver = some ⟨ve, el, sz, l.map c, dt, nw, de⟩)
      (h : ∀ v : α, gidx l i = some v → Au z ts (.w r (([nm], []) :: acc) ⟨(d, .pown nm ver i.toNat 0) :: sl, m, g⟩ k) (f v) (G v)) : Au z (7 :: ts) (.w (⟨some d, none, .idx sz x y⟩ :: r) acc ⟨sl, m, g⟩ k) (Option.bind (gidx l i) f) (∀ v : α, gidx l i = some v → G v)
  | ixRk {ts : Ts} {G : Prop} {r : Lo} {acc : Lg} {sl : Sl} {m : Me} {g d : Nat} {k : Kw} {F : Option R} {x y : LX} {α : Type} {l : List α} {c : α → List PV} {i : Int} {k' : IntKind} {nm ver ve el sz : Nat} {dt nw de : Bool} {v : α} (hx : lx sl x = some (.own nm ver)) (hy : lx sl y = some (.int k' i)) (hl : liveF (look m) nm ver = some ⟨ve, el, sz, l.map c, dt, nw, de⟩) (hv : gidx l i = some v)
      (h : Au z ts (.w r (([nm], []) :: acc) ⟨(d, .pown nm ver i.toNat 0) :: sl, m, g⟩ k) F G) : Au z (8 :: ts) (.w (⟨some d, none, .idx sz x y⟩ :: r) acc ⟨sl, m, g⟩ k) F G
  | ixM {ts : Ts} {r : Lo} {acc : Lg} {sl : Sl} {m : Me} {g d : Nat} {k : Kw} {x y : LX} {α : Type} [Cl α] {l : List α} {i : Int} {k' : IntKind} {es : List (List PV)} {nm ver ve el sz : Nat} {dt nw de : Bool} {f : α → Option R} {G : α → Prop} (hx : lx sl x = some (.own nm ver)) (hy : lx sl y = some (.int k' i)) (hl : liveF (look m) nm ver = some ⟨ve, el, sz, es, dt, nw, de⟩) (he : es = l.map Cl.c)
      (h : ∀ v : α, gidx l i = some v → Au z ts (.w r (([nm], []) :: acc) ⟨(d, .pown nm ver i.toNat 0) :: sl, m, g⟩ k) (f v) (G v)) : Au z (9 :: ts) (.w (⟨some d, none, .idx sz x y⟩ :: r) acc ⟨sl, m, g⟩ k) (Option.bind (gidx l i) f) (∀ v : α, gidx l i = some v → G v)
  | ld {ts : Ts} {G : Prop} {r : Lo} {acc : Lg} {sl : Sl} {m : Me} {g d : Nat} {k : Kw} {F : Option R} {x : LX} {n : Nat} {p : PV} {t : List PV} (hx : lx sl x = some (.pim (p :: t)))
      (h : Au z ts (.w r (([], []) :: acc) ⟨(d, p) :: sl, m, g⟩ k) F G) : Au z (5 :: ts) (.w (⟨some d, none, .load n false x⟩ :: r) acc ⟨sl, m, g⟩ k) F G
  | lda {ts : Ts} {G : Prop} {r : Lo} {acc : Lg} {sl : Sl} {m : Me} {g d : Nat} {k : Kw} {F : Option R} {x : LX} {n : Nat} {cs t : List PV} (hx : lx sl x = some (.pim cs)) (ht : Tk n cs t)
      (h : Au z ts (.w r (([], []) :: acc) ⟨(d, .agg t) :: sl, m, g⟩ k) F G) : Au z (5 :: ts) (.w (⟨some d, none, .load n true x⟩ :: r) acc ⟨sl, m, g⟩ k) F G
  | ldo {ts : Ts} {G : Prop} {r : Lo} {acc : Lg} {sl : Sl} {m : Me} {g d : Nat} {k : Kw} {F : Option R} {x : LX} {i j n : Nat} {es : List (List PV)} {cs : List PV} {nm ver ve el sz : Nat} {dt nw de : Bool} {p : PV} (hx : lx sl x = some (.pown nm ver i j)) (hl : liveF (look m) nm ver = some ⟨ve, el, sz, es, dt, nw, de⟩) (hc : es[i]? = some cs) (hr : cs[j]? = some p)
      (h : Au z ts (.w r (([nm], []) :: acc) ⟨(d, p) :: sl, m, g⟩ k) F G) : Au z (8 :: ts) (.w (⟨some d, none, .load n false x⟩ :: r) acc ⟨sl, m, g⟩ k) F G
  | ldoa {ts : Ts} {G : Prop} {r : Lo} {acc : Lg} {sl : Sl} {m : Me} {g d : Nat} {k : Kw} {F : Option R} {x : LX} {i j n : Nat} {es : List (List PV)} {cs : List PV} {nm ver ve el sz : Nat} {dt nw de : Bool} {t : List PV} (hx : lx sl x = some (.pown nm ver i j)) (hl : liveF (look m) nm ver = some ⟨ve, el, sz, es, dt, nw, de⟩) (hc : es[i]? = some cs) (hr : Dt j n cs t)
      (h : Au z ts (.w r (([nm], []) :: acc) ⟨(d, .agg t) :: sl, m, g⟩ k) F G) : Au z (8 :: ts) (.w (⟨some d, none, .load n true x⟩ :: r) acc ⟨sl, m, g⟩ k) F G
  | ldr {ts : Ts} {G : Prop} {r : Lo} {acc : Lg} {sl : Sl} {m : Me} {g d : Nat} {k : Kw} {F : Option R} {x : LX} {α : Type} {l : List α} {c : α → List PV} {i : Int} {j n : Nat} {nm ver ve el sz : Nat} {dt nw de : Bool} {v : α} {p : PV} (hx : lx sl x = some (.pown nm ver i.toNat j)) (hl : liveF (look m) nm ver = some ⟨ve, el, sz, l.map c, dt, nw, de⟩) (hv : gidx l i = some v) (hr : (c v)[j]? = some p)
      (h : Au z ts (.w r (([nm], []) :: acc) ⟨(d, p) :: sl, m, g⟩ k) F G) : Au z (7 :: ts) (.w (⟨some d, none, .load n false x⟩ :: r) acc ⟨sl, m, g⟩ k) F G
  | ldra {ts : Ts} {G : Prop} {r : Lo} {acc : Lg} {sl : Sl} {m : Me} {g d : Nat} {k : Kw} {F : Option R} {x : LX} {α : Type} {l : List α} {c : α → List PV} {i : Int} {j n : Nat} {nm ver ve el sz : Nat} {dt nw de : Bool} {v : α} {t : List PV} (hx : lx sl x = some (.pown nm ver i.toNat j)) (hl : liveF (look m) nm ver = some ⟨ve, el, sz, l.map c, dt, nw, de⟩) (hv : gidx l i = some v) (hr : Dt j n (c v) t)
      (h : Au z ts (.w r (([nm], []) :: acc) ⟨(d, .agg t) :: sl, m, g⟩ k) F G) : Au z (7 :: ts) (.w (⟨some d, none, .load n true x⟩ :: r) acc ⟨sl, m, g⟩ k) F G
  | sto {ts : Ts} {G : Prop} {r : Lo} {acc : Lg} {sl : Sl} {m : Me} {g d : Nat} {k : Kw} {F : Option R} {x y : LX} {n j : Nat} {q : PV} {cs cs' qs : List PV} {dt' : Bool} {nm ver ve el sz : Nat} {dt nw de : Bool} (hx : lx sl x = some (.pown nm ver 0 j)) (hy : lx sl y = some q) (hq : Ce q qs) (hl : liveF (look m) nm ver = some ⟨ve, el, sz, [cs], dt, nw, de⟩) (hs : Sp j qs cs cs') (hn : qs.length = n) (ho : qs.all PV.one = true) (hd : Bo (dt && qs.all PV.isD) dt')
      (h : Au z ts (.w r (([nm] ++ (nameOf q ++ []), [nm]) :: acc) ⟨sl, (nm, ⟨ve, el, sz, [cs'], dt', nw, de⟩) :: m, g⟩ k) F G) : Au z (8 :: ts) (.w (⟨none, none, .store n x y⟩ :: r) acc ⟨sl, m, g⟩ k) F G
  | str {ts : Ts} {G : Prop} {r : Lo} {acc : Lg} {sl : Sl} {m : Me} {g d : Nat} {k : Kw} {F : Option R} {x y : LX} {α : Type} {l : List α} {c : α → List PV} {i : Int} {n : Nat} {q : PV} {qs : List PV} {v v' : α} {dt' : Bool} {nm ver ve el sz : Nat} {dt nw de : Bool} (hx : lx sl x = some (.pown nm ver i.toNat 0)) (hy : lx sl y = some q) (hq : Ce q qs) (hl : liveF (look m) nm ver = some ⟨ve, el, sz, l.map c, dt, nw, de⟩) (hv : gidx l i = some v) (he : qs = c v') (hn : qs.length = n) (hc : (c v).length = n) (ho : qs.all PV.one = true) (hd : Bo (dt && qs.all PV.isD) dt')
      (h : Au z ts (.w r (([nm] ++ (nameOf q ++ []), [nm]) :: acc) ⟨sl, (nm, ⟨ve, el, sz, (gset l i v').map c, dt', nw, de⟩) :: m, g⟩ k) F G) : Au z (7 :: ts) (.w (⟨none, none, .store n x y⟩ :: r) acc ⟨sl, m, g⟩ k) F G
  | alc {ts : Ts} {G : Prop} {r : Lo} {acc : Lg} {sl : Sl} {m : Me} {g d : Nat} {k : Kw} {F : Option R} {el n : Nat} {zs : List PV} {dt : Bool} (hf : freshF (look m) d = true) (hn : zs.length = n) (hd : Bo (zs.all PV.isD) dt) (hb : bxUp d g el n zs = [])
      (h : Au z ts (.w r (([d], [d]) :: acc) ⟨(d, .pown d g 0 0) :: sl, (d, ⟨g, el, n, [zs], dt, true, false⟩) :: m, g⟩ k) F G) : Au z (5 :: ts) (.w (⟨some d, none, .alloc el n zs⟩ :: r) acc ⟨sl, m, g⟩ k) F G
  | box {ts : Ts} {G : Prop} {r : Lo} {acc : Lg} {sl : Sl} {m : Me} {g d : Nat} {k : Kw} {F : Option R} {x : LX} {el n : Nat} {p : PV} {cs : List PV} {dt : Bool} (hx : lx sl x = some p) (hc : Ce p cs) (hf : freshF (look m) d = true) (hn : cs.length = n) (ho : cs.all PV.one = true) (hd : Bo (cs.all PV.isD) dt)
      (h : Au z ts (.w r (([d], [d]) :: acc) ⟨(d, .pown d g 0 0) :: sl, (d, ⟨g, el, n, [cs], dt, true, false⟩) :: m, g⟩ k) F G) : Au z (5 :: ts) (.w (⟨some d, none, .box el n x⟩ :: r) acc ⟨sl, m, g⟩ k) F G
  | bld {ts : Ts} {G : Prop} {r : Lo} {acc : Lg} {sl : Sl} {m : Me} {g d : Nat} {k : Kw} {F : Option R} {zs cs : List PV} {ps : List (Nat × Nat × LX)} (hc : Fi sl zs ps cs)
      (h : Au z ts (.w r (([], []) :: acc) ⟨(d, .agg cs) :: sl, m, g⟩ k) F G) : Au z (5 :: ts) (.w (⟨some d, none, .build zs ps⟩ :: r) acc ⟨sl, m, g⟩ k) F G
  | mks {ts : Ts} {G : Prop} {r : Lo} {acc : Lg} {sl : Sl} {m : Me} {g d : Nat} {k : Kw} {F : Option R} {el sz n : Nat} {zs : List PV} {ps : List (Nat × LX)} {e0 es : List (List PV)} {dt : Bool} (hf : freshF (look m) d = true) (hr : Rp zs n e0) (hc : Fr sl sz e0 ps es) (ho : es.all (fun cs => cs.all PV.one) = true) (hd : Bo (es.all fun cs => cs.all PV.isD) dt)
      (h : Au z ts (.w r (([d], [d]) :: acc) ⟨(d, .own d g) :: sl, (d, ⟨g, el, sz, es, dt, true, false⟩) :: m, g⟩ k) F G) : Au z (5 :: ts) (.w (⟨some d, none, .mkSlice el sz n zs ps⟩ :: r) acc ⟨sl, m, g⟩ k) F G
  | slL2 {ts : Ts} {r : Lo} {acc : Lg} {sl : Sl} {m : Me} {g d : Nat} {k : Kw} {x y y2 : LX} {i j : Int} {k' k2 : IntKind} {α : Type} {l : List α} {c : α → List PV} {sz : Nat} {f : List α → Option R} {G : List α → Prop} (hx : lx sl x = some (.list sz (l.map c))) (hy : lx sl y = some (.int k' i)) (hz : lx sl y2 = some (.int k2 j))
      (h : ∀ v : List α, gcut l i j = some v → Au z ts (.w r (([PV.int k' i, PV.int k2 j].flatMap nameOf, []) :: acc) ⟨(d, .list sz (v.map c)) :: sl, m, g⟩ k) (f v) (G v)) : Au z (5 :: ts) (.w (⟨some d, none, .slice sz x (some y) (some y2)⟩ :: r) acc ⟨sl, m, g⟩ k) (Option.bind (gcut l i j) f) (∀ v : List α, gcut l i j = some v → G v)
  | slLl {ts : Ts} {r : Lo} {acc : Lg} {sl : Sl} {m : Me} {g d : Nat} {k : Kw} {x y : LX} {i : Int} {k' : IntKind} {α : Type} {l : List α} {c : α → List PV} {sz : Nat} {f : List α → Option R} {G : List α → Prop} (hx : lx sl x = some (.list sz (l.map c))) (hy : lx sl y = some (.int k' i))
      (h : ∀ v : List α, gcut l i (l.length : Int) = some v → Au z ts (.w r (([PV.int k' i].flatMap nameOf, []) :: acc) ⟨(d, .list sz (v.map c)) :: sl, m, g⟩ k) (f v) (G v)) : Au z (6 :: ts) (.w (⟨some d, none, .slice sz x (some y) (none)⟩ :: r) acc ⟨sl, m, g⟩ k) (Option.bind (gcut l i (l.length : Int)) f) (∀ v : List α, gcut l i (l.length : Int) = some v → G v)
  | ssl {ts : Ts} {r : Lo} {acc : Lg} {sl : Sl} {m : Me} {g d : Nat} {k : Kw} {x y : LX} {i : Int} {k' : IntKind} {l : List UInt8} {f : List UInt8 → Option R} {G : List UInt8 → Prop} (hx : lx sl x = some (.str l)) (hy : lx sl y = some (.int k' i))
      (h : ∀ v : List UInt8, gcut l i (l.length : Int) = some v → Au z ts (.w r (([], []) :: acc) ⟨(d, .str v) :: sl, m, g⟩ k) (f v) (G v)) : Au z (6 :: ts) (.w (⟨some d, none, .sslice x (some y) (none)⟩ :: r) acc ⟨sl, m, g⟩ k) (Option.bind (gcut l i (l.length : Int)) f) (∀ v : List UInt8, gcut l i (l.length : Int) = some v → G v)
  | slLh {ts : Ts} {r : Lo} {acc : Lg} {sl : Sl} {m : Me} {g d : Nat} {k : Kw} {x y2 : LX} {j : Int} {k2 : IntKind} {α : Type} {l : List α} {c : α → List PV} {sz : Nat} {f : List α → Option R} {G : List α → Prop} (hx : lx sl x = some (.list sz (l.map c))) (hy : lx sl y2 = some (.int k2 j))
      (h : ∀ v : List α, gcut l 0 j = some v → Au z ts (.w r (([PV.int k2 j].flatMap nameOf, []) :: acc) ⟨(d, .list sz (v.map c)) :: sl, m, g⟩ k) (f v) (G v)) : Au z (7 :: ts) (.w (⟨some d, none, .slice sz x (none) (some y2)⟩ :: r) acc ⟨sl, m, g⟩ k) (Option.bind (gcut l 0 j) f) (∀ v : List α, gcut l 0 j = some v → G v)
  | ssh {ts : Ts} {r : Lo} {acc : Lg} {sl : Sl} {m : Me} {g d : Nat} {k : Kw} {x y2 : LX} {j : Int} {k2 : IntKind} {l : List UInt8} {f : List UInt8 → Option R} {G : List UInt8 → Prop} (hx : lx sl x = some (.str l)) (hy : lx sl y2 = some (.int k2 j))
      (h : ∀ v : List UInt8, gcut l 0 j = some v → Au z ts (.w r (([], []) :: acc) ⟨(d, .str v) :: sl, m, g⟩ k) (f v) (G v)) : Au z (7 :: ts) (.w (⟨some d, none, .sslice x (none) (some y2)⟩ :: r) acc ⟨sl, m, g⟩ k) (Option.bind (gcut l 0 j) f) (∀ v : List UInt8, gcut l 0 j = some v → G v)
  | slR2 {ts : Ts} {r : Lo} {acc : Lg} {sl : Sl} {m : Me} {g d : Nat} {k : Kw} {x y y2 : LX} {i j : Int} {k' k2 : IntKind} {α : Type} {l : List α} {c : α → List PV} {nm ver ve el sz : Nat} {dt nw de : Bool} {f : List α → Option R} {G : List α → Prop} (hx : lx sl x = some (.own nm ver)) (hl : liveF (look m) nm ver = some ⟨ve, el, sz, l.map c, dt, nw, de⟩) (hy : lx sl y = some (.int k' i)) (hz : lx sl y2 = some (.int k2 j))
      (h : ∀ v : List α, gcut l i j = some v → Au z ts (.w r ((nm :: [PV.int k' i, PV.int k2 j].flatMap nameOf, []) :: acc) ⟨(d, .sub nm ver i.toNat j.toNat) :: sl, m, g⟩ k) (f v) (G v)) : Au z (8 :: ts) (.w (⟨some d, none, .slice sz x (some y) (some y2)⟩ :: r) acc ⟨sl, m, g⟩ k) (Option.bind (gcut l i j) f) (∀ v : List α, gcut l i j = some v → G v)
  | slRl {ts : Ts} {r : Lo} {acc : Lg} {sl : Sl} {m : Me} {g d : Nat} {k : Kw} {x y : LX} {i : Int} {k' : IntKind} {α : Type} {l : List α} {c : α → List PV} {nm ver ve el sz : Nat} {dt nw de : Bool} {f : List α → Option R} {G : List α → Prop} (hx : lx sl x = some (.own nm ver)) (hl : liveF (look m) nm ver = some ⟨ve, el, sz, l.map c, dt, nw, de⟩) (hy : lx sl y = some (.int k' i))
      (h : ∀ v : List α, gcut l i (l.length : Int) = some v → Au z ts (.w r ((nm :: [PV.int k' i].flatMap nameOf, []) :: acc) ⟨(d, .sub nm ver i.toNat (l.length : Int).toNat) :: sl, m, g⟩ k) (f v) (G v)) : Au z (9 :: ts) (.w (⟨some d, none, .slice sz x (some y) (none)⟩ :: r) acc ⟨sl, m, g⟩ k) (Option.bind (gcut l i (l.length : Int)) f) (∀ v : List α, gcut l i (l.length : Int) = some v → G v)
  | slRh {ts : Ts} {r : Lo} {acc : Lg} {sl : Sl} {m : Me} {g d : Nat} {k : Kw} {x y2 : LX} {j : Int} {k2 : IntKind} {α : Type} {l : List α} {c : α → List PV} {nm ver ve el sz : Nat} {dt nw de : Bool} {f : List α → Option R} {G : List α → Prop} (hx : lx sl x = some (.own nm ver)) (hl : liveF (look m) nm ver = some ⟨ve, el, sz, l.map c, dt, nw, de⟩) (hy : lx sl y2 = some (.int k2 j))
      (h : ∀ v : List α, gcut l 0 j = some v → Au z ts (.w r ((nm :: [PV.int k2 j].flatMap nameOf, []) :: acc) ⟨(d, .sub nm ver (0 : Int).toNat j.toNat) :: sl, m, g⟩ k) (f v) (G v)) : Au z (10 :: ts) (.w (⟨some d, none, .slice sz x (none) (some y2)⟩ :: r) acc ⟨sl, m, g⟩ k) (Option.bind (gcut l 0 j) f) (∀ v : List α, gcut l 0 j = some v → G v)
  | apN {ts : Ts} {r : Lo} {acc : Lg} {sl : Sl} {m : Me} {g d : Nat} {k : Kw} {x y : LX} {α : Type} [Cl α] {ys : List α} {el sz by_ : Nat} {q : PV} {f : List α → Option R} {G : List α → Prop} (hx : lx sl x = some .nils) (hy : lx sl y = some q) (hs : srcRows (look m) sz q = some (sz, ys.map Cl.c)) (hf : freshF (look m) d = true) (hd : srcData (look m) q = true)
      (h : ∀ v : List α, gapp by_ [] ys = some v → Au z ts (.w r ((d :: (nameOf q ++ []), [d]) :: acc) ⟨(d, .own d g) :: sl, (d, ⟨g, el, sz, v.map Cl.c, true, true, false⟩) :: m, g⟩ k) (f v) (G v)) : Au z (5 :: ts) (.w (⟨some d, none, .append el sz by_ x y⟩ :: r) acc ⟨sl, m, g⟩ k) (Option.bind (gapp by_ [] ys) f) (∀ v : List α, gapp by_ [] ys = some v → G v)
  | apR {ts : Ts} {r : Lo} {acc : Lg} {sl : Sl} {m : Me} {g d : Nat} {k : Kw} {x y : LX} {α : Type} [Cl α] {l ys : List α} {es : List (List PV)} {sz by_ : Nat} {q : PV} {nm ver ve el : Nat} {nw de : Bool} {f : List α → Option R} {G : List α → Prop} (hx : lx sl x = some (.own nm ver)) (hl : liveF (look m) nm ver = some ⟨ve, el, sz, es, true, nw, de⟩) (he : es = l.map Cl.c) (hy : lx sl y = some q) (hs : srcRows (look m) sz q = some (sz, ys.map Cl.c)) (hf : freshF (look m) d = true) (hd : srcData (look m) q = true) (hn : Nat.beq nm d = false)
      (h : ∀ v : List α, gapp by_ l ys = some v → Au z ts (.w r ((d :: nm :: (nameOf q ++ []), [d, nm]) :: acc) ⟨(d, .own d g) :: sl, (d, ⟨g, el, sz, v.map Cl.c, true, true, false⟩) :: (nm, ⟨ve, el, sz, es, true, nw, true⟩) :: m, g⟩ k) (f v) (G v)) : Au z (7 :: ts) (.w (⟨some d, none, .append el sz by_ x y⟩ :: r) acc ⟨sl, m, g⟩ k) (Option.bind (gapp by_ l ys) f) (∀ v : List α, gapp by_ l ys = some v → G v)
  | six {ts : Ts} {r : Lo} {acc : Lg} {sl : Sl} {m : Me} {g d : Nat} {k : Kw} {x y : LX} {s : List UInt8} {i : Int} {k' : IntKind} {f : UInt8 → Option R} {G : UInt8 → Prop} (hx : lx sl x = some (.str s)) (hy : lx sl y = some (.int k' i))
      (h : ∀ v : UInt8, gidx s i = some v → Au z ts (.w r (([], []) :: acc) ⟨(d, .int .u8 v.toNat) :: sl, m, g⟩ k) (f v) (G v)) : Au z (5 :: ts) (.w (⟨some d, none, .sidx x y⟩ :: r) acc ⟨sl, m, g⟩ k) (Option.bind (gidx s i) f) (∀ v : UInt8, gidx s i = some v → G v)
  | add {ts : Ts} {r : Lo} {acc : Lg} {sl : Sl} {m : Me} {g d : Nat} {k : Kw} {x y : LX} {a b : Int} {f : Int → Option R} {G : Int → Prop} (hx : lx sl x = some (.int .i64 a)) (hy : lx sl y = some (.int .i64 b))
      (h : ∀ v : Int, gadd a b = some v → Au z ts (.w r (([], []) :: acc) ⟨(d, .int .i64 v) :: sl, m, g⟩ k) (f v) (G v)) : Au z (7 :: ts) (.w (⟨some d, none, .bin .add x y⟩ :: r) acc ⟨sl, m, g⟩ k) (Option.bind (gadd a b) f) (∀ v : Int, gadd a b = some v → G v)
  | sub {ts : Ts} {r : Lo} {acc : Lg} {sl : Sl} {m : Me} {g d : Nat} {k : Kw} {x y : LX} {a b : Int} {f : Int → Option R} {G : Int → Prop} (hx : lx sl x = some (.int .i64 a)) (hy : lx sl y = some (.int .i64 b))
      (h : ∀ v : Int, gsub a b = some v → Au z ts (.w r (([], []) :: acc) ⟨(d, .int .i64 v) :: sl, m, g⟩ k) (f v) (G v)) : Au z (7 :: ts) (.w (⟨some d, none, .bin .sub x y⟩ :: r) acc ⟨sl, m, g⟩ k) (Option.bind (gsub a b) f) (∀ v : Int, gsub a b = some v → G v)
  | mul {ts : Ts} {r : Lo} {acc : Lg} {sl : Sl} {m : Me} {g d : Nat} {k : Kw} {x y : LX} {a b : Int} {f : Int → Option R} {G : Int → Prop} (hx : lx sl x = some (.int .i64 a)) (hy : lx sl y = some (.int .i64 b))
      (h : ∀ v : Int, gmul a b = some v → Au z ts (.w r (([], []) :: acc) ⟨(d, .int .i64 v) :: sl, m, g⟩ k) (f v) (G v)) : Au z (7 :: ts) (.w (⟨some d, none, .bin .mul x y⟩ :: r) acc ⟨sl, m, g⟩ k) (Option.bind (gmul a b) f) (∀ v : Int, gmul a b = some v → G v)
  | cat {ts : Ts} {r : Lo} {acc : Lg} {sl : Sl} {m : Me} {g d : Nat} {k : Kw} {x y : LX} {s t : List UInt8} {f : List UInt8 → Option R} {G : List UInt8 → Prop} (hx : lx sl x = some (.str s)) (hy : lx sl y = some (.str t))
      (h : ∀ v : List UInt8, gcat s t = some v → Au z ts (.w r (([], []) :: acc) ⟨(d, .str v) :: sl, m, g⟩ k) (f v) (G v)) : Au z (8 :: ts) (.w (⟨some d, none, .bin .add x y⟩ :: r) acc ⟨sl, m, g⟩ k) (Option.bind (gcat s t) f) (∀ v : List UInt8, gcat s t = some v → G v)
  | nc {ts : Ts} {G : Prop} {r : Lo} {acc : Lg} {sl : Sl} {m : Me} {g d : Nat} {k : Kw} {F : Option R} {x : LX} {cs : List PV} (hx : lx sl x = some (.pim cs))
      (h : Au z ts (.w r (([], []) :: acc) ⟨(d, .pim cs) :: sl, m, g⟩ k) F G) : Au z (5 :: ts) (.w (⟨some d, none, .nilCheck x⟩ :: r) acc ⟨sl, m, g⟩ k) F G
  | ncn {ts : Ts} {G : Prop} {r : Lo} {acc : Lg} {sl : Sl} {m : Me} {g d : Nat} {k : Kw} {F : Option R} {x : LX} {cs : List PV} (hx : lx sl x = some (.pim cs))
      (h : Au z ts (.w r (([], []) :: acc) ⟨sl, m, g⟩ k) F G) : Au z (5 :: ts) (.w (⟨none, none, .nilCheck x⟩ :: r) acc ⟨sl, m, g⟩ k) F G
  | nco {ts : Ts} {G : Prop} {r : Lo} {acc : Lg} {sl : Sl} {m : Me} {g d : Nat} {k : Kw} {F : Option R} {x : LX} {nm ver i j : Nat} {e : Ent} (hx : lx sl x = some (.pown nm ver i j)) (hl : liveF (look m) nm ver = some e) (hb : Nat.blt j BX = true)
      (h : Au z ts (.w r (([nm], []) :: acc) ⟨(d, .pown nm ver i j) :: sl, m, g⟩ k) F G) : Au z (8 :: ts) (.w (⟨some d, none, .nilCheck x⟩ :: r) acc ⟨sl, m, g⟩ k) F G
  | ncon {ts : Ts} {G : Prop} {r : Lo} {acc : Lg} {sl : Sl} {m : Me} {g d : Nat} {k : Kw} {F : Option R} {x : LX} {nm ver i j : Nat} {e : Ent} (hx : lx sl x = some (.pown nm ver i j)) (hl : liveF (look m) nm ver = some e) (hb : Nat.blt j BX = true)
      (h : Au z ts (.w r (([nm], []) :: acc) ⟨sl, m, g⟩ k) F G) : Au z (8 :: ts) (.w (⟨none, none, .nilCheck x⟩ :: r) acc ⟨sl, m, g⟩ k) F G
  | isn {ts : Ts} {G : Prop} {r : Lo} {acc : Lg} {sl : Sl} {m : Me} {g d : Nat} {k : Kw} {F : Option R} {x : LX} {ng : Bool} (hx : lx sl x = some .nils)
      (h : Au z ts (.w r (([], []) :: acc) ⟨(d, .bool (!ng)) :: sl, m, g⟩ k) F G) : Au z (6 :: ts) (.w (⟨some d, none, .isnil ng x⟩ :: r) acc ⟨sl, m, g⟩ k) F G
end
theorem Au.ok {P : Program} {N : Nat} {R : Type} {z : R} {ts : List Nat} {n : Nd} {F : Option R} {G : Prop} (hm : P.follows .mixedOrders = true) (h : Au P N z ts n F G) : G → F = some z → n.den P N := by
  induction h with (intro hG hF)
  | xs h ih => exact ih hG hF
  | xe h ih => exact ih hG hF
  | xr h ih => exact ih hG hF
  | bn h ih => exact ih hG hF
  | be h ih => exact (if_pos rfl).mpr (ih hG hF)
  | bo hn h ih => exact (if_neg (Nat.ne_of_beq_eq_false hn)).mpr (ih hG hF)
  | br h ih => exact ih hG hF
  | fs h ih => exact ih hG hF
  | fe h ih => exact ih hG hF
  | fr h ih => exact ih hG hF
  | gn h ih => exact ih hG hF
  | ge h ih => exact (if_pos rfl).mpr (ih hG hF)
  | go hn h ih => exact (if_neg (Nat.ne_of_beq_eq_false hn)).mpr (ih hG hF)
  | gr h ih => exact ih hG hF
  | xf => exact hG hF
  | nn h ih => exact W.nil (ih hG hF)
  | nd hp h ih => exact W.nil ⟨hp, ih hG hF⟩
  | nq h ih => exact W.nil (ih hG hF)
  | nqd hp h ih => exact W.nil ⟨hp, ih hG hF⟩
  | nz h ih => exact W.nil (ih hG hF)
  | nzd hp h ih => exact W.nil ⟨hp, ih hG hF⟩
  | nr => exact W.nil (hG hF)
  | sE => exact hG hF
  | sF => exact hG hF
  | sW => exact hG hF
  | sX => exact hG hF
  | seq h ih => exact Ev.seq (ih hG hF)
  | reg h ih => exact W.reg hm (ih hG hF)
  | rgd h ih => exact W.regD hm (ih hG hF)
  | blk h ih => exact Ev.block (ih hG hF)
  | skip h ih => exact Ev.skip (ih hG hF)
  | exit h ih => exact Ev.exit (ih hG hF)
  | ret h ih => exact Ev.ret (ih hG hF)
  | cT hl hb h ih => exact Ev.condT hl hb (ih hG hF)
  | cF hl hb h ih => exact Ev.condF hl hb (ih hG hF)
  | mv hx h ih => exact W.mv hx (ih hG hF)
  | gT hg hc h ih => exact W.guardT hg hc (ih hG hF)
  | gF hg hc h ih => exact W.guardF1 hg hc (ih hG hF)
  | gG hg hc h ih => exact W.guardF2 hg hc (ih hG hF)
  | gU hg h ih => exact W.guardU hg (ih hG hF)
  | pT hc hx hy e h ih => exact W.pickT hc hx hy e (ih hG hF)
  | pN hc hx hy e h ih => exact W.pickN hc hx hy e (ih hG hF)
  | lss hx hy h ih => exact W.lss hx hy (ih hG hF)
  | leq hx hy h ih => exact W.leq hx hy (ih hG hF)
  | gtr hx hy h ih => exact W.gtr hx hy (ih hG hF)
  | geq hx hy h ih => exact W.geq hx hy (ih hG hF)
  | eql hx hy h ih => exact W.eql hx hy (ih hG hF)
  | neq hx hy h ih => exact W.neq hx hy (ih hG hF)
  | seql hx hy h ih => exact W.seql hx hy (ih hG hF)
  | sneq hx hy h ih => exact W.sneq hx hy (ih hG hF)
  | slss hx hy h ih => exact W.slss hx hy (ih hG hF)
  | sleq hx hy h ih => exact W.sleq hx hy (ih hG hF)
  | sgtr hx hy h ih => exact W.sgtr hx hy (ih hG hF)
  | sgeq hx hy h ih => exact W.sgeq hx hy (ih hG hF)
  | bneq hx hy h ih => exact W.bneq hx hy (ih hG hF)
  | not hx h ih => exact W.not hx (ih hG hF)
  | eqs hx hy he h ih => exact W.eqs hx hy he (ih hG hF)
  | mx hx hy h ih => exact W.mx hx hy rfl (ih hG hF)
  | mn hx hy h ih => exact W.mn hx hy rfl (ih hG hF)
  | conv hx h ih => exact W.conv hx rfl (ih hG hF)
  | slen hx h ih => exact W.slen hx (ih hG hF)
  | lenL hx h ih => exact W.lenL hx (ih hG hF)
  | lenN hx h ih => exact W.lenN hx (ih hG hF)
  | lenO hx hl h ih => exact W.lenO hx hl rfl (ih hG hF)
  | ext hx hr h ih => exact W.extract hx hr (ih hG hF)
  | fld hx hr h ih => exact W.field hx (rd1 hr) (ih hG hF)
  | fa hx hr h ih => exact fa_w hx hr.eq (ih hG hF)
  | fao hx hl hb h ih => exact W.fieldAddrO (hb := hb) hx hl (ih hG hF)
  | ixL hx hy h ih =>
    obtain ⟨v, hv, hF⟩ := obind hF
    exact W.idxL hx hy hv (ih _ hv (hG _ hv) hF)
  | ixLk hx hy hv h ih => exact W.idxL hx hy hv (ih hG hF)
  | ixR hx hy hl h ih =>
    obtain ⟨v, hv, hF⟩ := obind hF
    exact W.idxR hx hy hl rfl rfl hv (ih _ hv (hG _ hv) hF)
  | ixRk hx hy hl hv h ih => exact W.idxR hx hy hl rfl rfl hv (ih hG hF)
  | ixM hx hy hl he h ih =>
    obtain ⟨v, hv, hF⟩ := obind hF
    exact W.idxR hx hy hl rfl he hv (ih _ hv (hG _ hv) hF)
  | ld hx h ih => exact W.load hx rfl (ih hG hF)
  | lda hx ht h ih => exact W.load hx (rdk ht) (ih hG hF)
  | ldo hx hl hc hr h ih => exact W.loadO hx hl hc (rd1 hr) (ih hG hF)
  | ldoa hx hl hc hr h ih => exact W.loadO hx hl hc (rdn hr) (ih hG hF)
  | ldr hx hl hv hr h ih => exact W.loadR hx hl rfl (gidx_some hv).2 (rd1 hr) (ih hG hF)
  | ldra hx hl hv hr h ih => exact W.loadR hx hl rfl (gidx_some hv).2 (rdn hr) (ih hG hF)
  | sto hx hy hq hl hs hn ho hd h ih => exact sto_w hx hy hq hl hs hn ho hd (ih hG hF)
  | str hx hy hq hl hv he hn hc ho hd h ih => exact str_w hx hy hq hl hv he hn hc ho hd (ih hG hF)
  | alc hf hn hd hb h ih => exact W.alloc (hb := hb) hf hn hd.eq (ih hG hF)
  | box hx hc hf hn ho hd h ih => exact W.box hx hf hc.eq hn ho hd.eq (ih hG hF)
  | bld hc h ih => exact bld_w hc (ih hG hF)
  | mks hf hr hc ho hd h ih => exact mks_w hf hr hc ho hd (ih hG hF)
  | slL2 hx hy hz h ih =>
    obtain ⟨v, hv, hF⟩ := obind hF
    exact W.sliceL (lx3 hx hy hz) hv (ix2 (gcut_some hv).1 (gcut_some hv).2.2.2.1) (ih _ hv (hG _ hv) hF)
  | slLl hx hy h ih =>
    obtain ⟨v, hv, hF⟩ := obind hF
    exact W.sliceL (lx2l hx hy) hv (by rw [List.length_map]; exact ix0 (gcut_some hv).1) (ih _ hv (hG _ hv) hF)
  | ssl hx hy h ih =>
    obtain ⟨v, hv, hF⟩ := obind hF
    exact W.ssliceG (lx2l hx hy) hv (ix0 (gcut_some hv).1) (ih _ hv (hG _ hv) hF)
  | slLh hx hy h ih =>
    obtain ⟨v, hv, hF⟩ := obind hF
    exact W.sliceL (lx2h hx hy) hv (ix1 (gcut_some hv).2.2.2.1) (ih _ hv (hG _ hv) hF)
  | ssh hx hy h ih =>
    obtain ⟨v, hv, hF⟩ := obind hF
    exact W.ssliceG (lx2h hx hy) hv (ix1 (gcut_some hv).2.2.2.1) (ih _ hv (hG _ hv) hF)
  | slR2 hx hl hy hz h ih =>
    obtain ⟨v, hv, hF⟩ := obind hF
    exact W.sliceR (lx3 hx hy hz) hl rfl rfl hv (ix2 (gcut_some hv).1 (gcut_some hv).2.2.2.1) (ih _ hv (hG _ hv) hF)
  | slRl hx hl hy h ih =>
    obtain ⟨v, hv, hF⟩ := obind hF
    exact W.sliceR (lx2l hx hy) hl rfl rfl hv (by simp only [List.length_map]; exact ix0 (gcut_some hv).1) (ih _ hv (hG _ hv) hF)
  | slRh hx hl hy h ih =>
    obtain ⟨v, hv, hF⟩ := obind hF
    exact W.sliceR (lx2h hx hy) hl rfl rfl hv (ix1 (gcut_some hv).2.2.2.1) (ih _ hv (hG _ hv) hF)
  | apN hx hy hs hf hd h ih =>
    obtain ⟨v, hv, hF⟩ := obind hF
    exact W.appN true hx hy hs hf hv hd (ih _ hv (hG _ hv) hF)
  | apR hx hl he hy hs hf hd hn h ih =>
    obtain ⟨v, hv, hF⟩ := obind hF
    exact apR_w hx hl he hy hs hf hd hn hv (ih _ hv (hG _ hv) hF)
  | six hx hy h ih =>
    obtain ⟨v, hv, hF⟩ := obind hF
    exact W.sidxG hx hy hv (ih _ hv (hG _ hv) hF)
  | add hx hy h ih =>
    obtain ⟨v, hv, hF⟩ := obind hF
    exact W.addG hx hy hv (ih _ hv (hG _ hv) hF)
  | sub hx hy h ih =>
    obtain ⟨v, hv, hF⟩ := obind hF
    exact W.subG hx hy hv (ih _ hv (hG _ hv) hF)
  | mul hx hy h ih =>
    obtain ⟨v, hv, hF⟩ := obind hF
    exact W.mulG hx hy hv (ih _ hv (hG _ hv) hF)
  | cat hx hy h ih =>
    obtain ⟨v, hv, hF⟩ := obind hF
    exact W.catG hx hy hv (ih _ hv (hG _ hv) hF)
  | nc hx h ih => exact W.nilCheck hx (ih hG hF)
  | ncn hx h ih => exact W.nilCheckNP hx (ih hG hF)
  | nco hx hl hb h ih => exact W.nilCheckO (hb := hb) hx hl (ih hG hF)
  | ncon hx hl hb h ih => exact W.nilCheckN (hb := hb) hx hl (ih hG hF)
  | isn hx h ih => exact W.isnilN hx (ih hG hF)
theorem bs {R : Type} {z : R} {A B : Option R} {X : Prop} {c : Bool} (h : (if c = true then A else B) = some z) (kt : c = true → A = some z → X) (kf : c = false → B = some z → X) : X := by
  cases c with
  | true => exact kt rfl (by simpa using h)
  | false => exact kf rfl (by simpa using h)
section
variable {P : Program} {N : Nat} {R : Type} {z : R} {F : Option R} {G : Prop} {st : St}
class Hm (P : Program) : Prop where
  h : P.follows .mixedOrders = true
theorem au {L : LCode} {Q : Ex → St → Prop} [hm : Hm P] (h : F = some z) (ts : List Nat) (k : G) (hg : Au P N z ts (.e L st (.fin Q)) F G := by repeat' first | with_reducible assumption | constructor | intro _) : Ev P N L st Q :=
  hg.ok hm.h k h
theorem aw {r : List LOper} {acc : List Log} {K : List Log → St → Prop} [hm : Hm P] (h : F = some z) (ts : List Nat) (k : G) (hg : Au P 0 z ts (.w r acc st (.raw K)) F G := by repeat' first | with_reducible assumption | constructor | intro _) : W P r acc st K :=
  hg.ok hm.h k h
theorem ax (N : Nat) {r : List LOper} {acc : List Log} {K : List Log → St → Prop} [hm : Hm P] (h : F = some z) (ts : List Nat) (k : G) (hg : Au P N z ts (.w r acc st (.raw K)) F G := by repeat' first | with_reducible assumption | constructor | intro _) : W P r acc st K :=
  hg.ok hm.h k h
end
def iP (n : Int) : PV := .int .i64 n
def lP {α : Type} [Cl α] (l : List α) : PV := .list (Cl.n α) (l.map Cl.c)
def mP {α : Type} [Cl α] (l : List α) : List (List PV) := l.map Cl.c
def wP (n : Nat) : PV := .pown n 0 0 0
def eP (el sz : Nat) (es : List (List PV)) : Ent := ⟨0, el, sz, es, true, false, false⟩
def nm0 : PV → PV → List (Nat × Nat)
  | .own a _, .own b _ => [(a, b)]
  | .sub a _ _ _, .sub b _ _ _ => [(a, b)]
  | .pown a _ _ _, .pown b _ _ _ => [(a, b)]
  | _, _ => []
def nmL : List PV → List PV → List (Nat × Nat)
  | p :: ps, q :: qs => nm0 p q ++ nmL ps qs
  | _, _ => []
def nmC : PV → PV → List (Nat × Nat)
  | .agg a, .agg b => nmL a b
  | .fn _ a b, .fn _ c d => nmL a c ++ nmL b d
  | p, q => nm0 p q
def nmLC : List PV → List PV → List (Nat × Nat)
  | p :: ps, q :: qs => nmC p q ++ nmLC ps qs
  | _, _ => []
def nm1 : PV → PV → List (Nat × Nat)
  | .agg a, .agg b => nmL a b
  | .tup a, .tup b => nmL a b
  | .fn _ a b, .fn _ c d => nmLC a c ++ nmLC b d
  | p, q => nm0 p q
def nmL1 : List PV → List PV → List (Nat × Nat)
  | p :: ps, q :: qs => nm1 p q ++ nmL1 ps qs
  | _, _ => []
def nmS (sl : List (Nat × PV)) : List (Nat × PV) → List (Nat × Nat)
  | [] => []
  | (t, q) :: S => (match look sl t with | some p => nm1 p q | none => []) ++ nmS sl S
def nmR : List (List PV) → List (List PV) → List (Nat × Nat)
  | p :: ps, q :: qs => nmL1 p q ++ nmR ps qs
  | _, _ => []
def nmE (m m' : List (Nat × Ent)) : List (Nat × Nat) → List (Nat × Nat)
  | [] => []
  | (a, b) :: r => (match look m a, look m' b with | some e, some e' => if e'.data then [] else nmR e.es e'.es | _, _ => []) ++ nmE m m' r
def nmF : List (Nat × Nat) → Nat → Option (Nat × Nat)
  | [], _ => none
  | (a, b) :: r, n => if Nat.beq b n then some (a, b) else nmF r n
def nmA (s S : St) : Ren :=
  let f := nmS s.slots S.slots
  let g := nmE s.mem S.mem f
  let all := f ++ g ++ nmE s.mem S.mem g
  S.mem.filterMap fun x => nmF all x.1
theorem Wk.nA {s S : St} (hn : PW.nrm (S.slots.map (·.1)) (nmA s S) s = S := by kernel_rfl) (hk : (nmA s S).ok = true := by kernel_rfl) : Wk s S := Wk.nrmTo _ _ hn hk
theorem lf {γ : Type} {G : γ → Prop} {S : γ → St} {s : St} (v : γ) (h : G v) (hn : PW.nrm ((S v).slots.map (·.1)) (nmA s (S v)) s = S v := by kernel_rfl) (hk : (nmA s (S v)).ok = true := by kernel_rfl) : ∃ v, G v ∧ Wk s (S v) :=
  ⟨v, h, Wk.nrmTo _ _ hn hk⟩
theorem lb {γ : Type} {G : γ → Prop} {S : γ → St} {μ : γ → Nat} {k : Nat} {s : St} (v : γ) (h : G v) (hl : μ v < k := by exact Nat.lt_succ_self _) (hn : PW.nrm ((S v).slots.map (·.1)) (nmA s (S v)) s = S v := by kernel_rfl) (hk : (nmA s (S v)).ok = true := by kernel_rfl) : ∃ v, G v ∧ μ v < k ∧ Wk s (S v) :=
  ⟨v, h, hl, Wk.nrmTo _ _ hn hk⟩
theorem nb {a b : Nat} (h : Nat.ble a b = true := by rfl) : a ≤ b := Nat.le_of_ble_eq_true h
section
variable {P : Program} {r : List LOper} {acc : List Log} {sl : List (Nat × PV)} {m : List (Nat × Ent)} {g d : Nat} {K : List Log → St → Prop} {R β : Type} {z : R} {E : Option β} {f : β → Option R}
theorem cb {fid : FuncId} {as : List LX} {args xs qs : List PV} {res : β → PV} (h : E.bind f = some z) (hs : ∀ v, E = some v → PSpec P fid args (res v)) (kk : ∀ v, E = some v → f v = some z → W P r ((d :: xs.flatMap nameOf, []) :: acc) ⟨(d, res v) :: sl, m, g⟩ K)
    (hx : lxs sl as = some xs := by rfl) (hq : argsD (look m) xs = some qs := by rfl) (hl : Les qs args := by first | exact Les.refl _ | repeat constructor) (hd : qs.all PV.dataOk = true := by rfl) (hf : ∀ v, xs.any PV.isOwn = false ∨ (res v).flat = true := by first | exact fun _ => .inl rfl | exact fun _ => .inr rfl) (hu : (r.all fun o => o.dst != some d) = true := by rfl) : W P (⟨some d, none, .call fid as⟩ :: r) acc ⟨sl, m, g⟩ K := by
  obtain ⟨v, hv, h⟩ := obind h
  exact W.call (hs v hv) hx hq hl hd (hf v) hu (kk v hv h)
end
def oM (d n : Nat) : LOper := ⟨some d, none, .mv (.t n)⟩
def oO (d : Nat) (o : LOp) : LOper := ⟨some d, none, o⟩
def oT (d c : Nat) (o : LOp) : LOper := ⟨some d, some (c, true), o⟩
def oF (d c : Nat) (o : LOp) : LOper := ⟨some d, some (c, false), o⟩
def oX (o : LOp) : LOper := ⟨none, none, o⟩
def rG (l : List LOper) : LReg := ⟨l, false, []⟩
def kI (n : Int) : LX := .c (.int .i64 n)
def kB (b : Bool) : LX := .c (.bool b)
def bT (o : BinOp) (a b : Nat) : LOp := .bin o (.t a) (.t b)
def bK (o : BinOp) (a : Nat) (n : Int) : LOp := .bin o (.t a) (kI n)
def lV (n a : Nat) : LOp := .load n false (.t a)
def lA (n a : Nat) : LOp := .load n true (.t a)
def fA (k a : Nat) : LOp := .fieldAddr k (.t a)
def iX (n a b : Nat) : LOp := .idx n (.t a) (.t b)
def lN (a : Nat) : LOp := .len (.t a)
def sN (a : Nat) : LOp := .slen (.t a)
def eX (k a : Nat) : LOp := .extract k (.t a)
def sT (n a b : Nat) : LOp := .store n (.t a) (.t b)
def cA (f : FuncId) (l : List Nat) : LOp := .call f (l.map .t)
def mK (k : LX) : LOp := .mv k
def pK (a b : Nat) (k : LX) : LOp := .pick (.t a) (.t b) k
def pL (a : Nat) (k : LX) (b : Nat) : LOp := .pick (.t a) k (.t b)
end Go.PW
