/-
  PwDec: what functions compute, in Lean (partial operations as options), and the rules of a walk over lists of typed things.
-/
import Derived.Test.YtjmmlddioeehbaaGreatDoorPwMove
namespace Go.PW
open Go.RowKit
theorem obind {α β : Type} {x : Option α} {f : α → Option β} {r : β} (h : x.bind f = some r) : ∃ a, x = some a ∧ f a = some r := by
  cases x with
  | none => simp at h
  | some a => exact ⟨a, rfl, by simpa using h⟩
theorem iteT {α : Type} {c : Bool} {a b : Option α} {r : α} (h : (if c = true then a else b) = some r) (e : c = true) : a = some r := by rw [if_pos e] at h; exact h
theorem iteF {α : Type} {c : Bool} {a b : Option α} {r : α} (h : (if c = true then a else b) = some r) (e : c = false) : b = some r := by rw [e] at h; simpa using h
def gchk (n : Int) : Option Int := if -9223372036854775808 ≤ n ∧ n < 9223372036854775808 then some n else none
def gadd (a b : Int) : Option Int := gchk (a + b)
def gsub (a b : Int) : Option Int := gchk (a - b)
def gmul (a b : Int) : Option Int := gchk (a * b)
def gidx {α : Type} (l : List α) (i : Int) : Option α := if 0 ≤ i then l[i.toNat]? else none
def gcut {α : Type} (l : List α) (lo hi : Int) : Option (List α) := if 0 ≤ lo ∧ lo ≤ hi ∧ hi ≤ l.length then some ((l.take hi.toNat).drop lo.toNat) else none
def gapp {α : Type} (bytes : Nat) (xs ys : List α) : Option (List α) := if (xs.length + ys.length) * bytes ≤ big then some (xs ++ ys) else none
def gcat (s t : List UInt8) : Option (List UInt8) := if s.length + t.length ≤ big then some (s ++ t) else none
def gset {α : Type} (l : List α) (i : Int) (x : α) : List α := l.set i.toNat x
def gshr (k : IntKind) (a b : Int) : Option Int := if b < 0 then none else some (a.fdiv (2 ^ min b.toNat k.bits))
def kshr (k : IntKind) (a : Int) (n : Nat) : Int := a.fdiv (2 ^ min n k.bits)
theorem gchk_some {n m : Int} (h : gchk n = some m) : n = m ∧ -9223372036854775808 ≤ m ∧ m < 9223372036854775808 := by
  unfold gchk at h
  split at h
  · rename_i hr; injection h with h; subst h; exact ⟨rfl, hr⟩
  · cases h
theorem gchk_ok {n : Int} (h : -9223372036854775808 ≤ n ∧ n < 9223372036854775808) : gchk n = some n := if_pos h
theorem gidx_some {α : Type} {l : List α} {i : Int} {x : α} (h : gidx l i = some x) : 0 ≤ i ∧ l[i.toNat]? = some x := by
  unfold gidx at h
  split at h
  · exact ⟨by assumption, h⟩
  · cases h
theorem gidx_lt {α : Type} {l : List α} {i : Int} {x : α} (h : gidx l i = some x) : i.toNat < l.length := (List.getElem?_eq_some_iff.1 (gidx_some h).2).1
theorem gcut_some {α : Type} {l t : List α} {lo hi : Int} (h : gcut l lo hi = some t) : 0 ≤ lo ∧ lo.toNat ≤ hi.toNat ∧ hi.toNat ≤ l.length ∧ 0 ≤ hi ∧ (l.take hi.toNat).drop lo.toNat = t := by
  unfold gcut at h
  split at h
  · rename_i hr; injection h with h; exact ⟨hr.1, by omega, by omega, by omega, h⟩
  · cases h
theorem gapp_some {α : Type} {by_ : Nat} {xs ys zs : List α} (h : gapp by_ xs ys = some zs) : zs.length * by_ ≤ big ∧ xs ++ ys = zs := by
  unfold gapp at h
  split at h
  · rename_i hr; injection h with h; subst h; exact ⟨by rw [List.length_append]; exact hr, rfl⟩
  · cases h
def cI (n : Int) : List PV := [.int .i64 n]
def cB (b : Bool) : List PV := [.bool b]
def cF (b : Bool) : List PV := [.ifc b]
def cS (s : List UInt8) : List PV := [.str s]
def cK (k : IntKind) (n : Int) : List PV := [.int k n]
def cL {α : Type} (sz : Nat) (c : α → List PV) (l : List α) : List PV := [.list sz (l.map c)]
theorem map_at {α : Type} {c : α → List PV} {l : List α} {i : Nat} {x : α} (h : l[i]? = some x) : (l.map c)[i]? = some (c x) := by rw [List.getElem?_map, h]; rfl
theorem map_cut {α : Type} (c : α → List PV) (l : List α) (i j : Nat) : ((l.map c).take i).drop j = ((l.take i).drop j).map c := by rw [← List.map_take, ← List.map_drop]
theorem map_set {α : Type} (c : α → List PV) (l : List α) (i : Nat) (x : α) : (l.map c).set i (c x) = (l.set i x).map c := by rw [List.map_set]
theorem Le.tups {ps qs : List PV} (h : Les ps qs) : Le (.tup ps) (.tup qs) := .tup ps qs h.out.1 h.out.2
theorem Le.aggs {ps qs : List PV} (h : Les ps qs) (ho : qs.all PV.one = true) : Le (.agg ps) (.agg qs) := .agg ps qs h.out.1 h.out.2 fun q hq => List.all_eq_true.1 ho q hq
noncomputable section
variable {P : Program} {r : List LOper} {acc : List Log} {sl : List (Nat × PV)} {m : List (Nat × Ent)} {g d : Nat} {K : List Log → St → Prop} {x y : LX} {k : IntKind} {a b : Int} {p q : PV}
variable {α : Type} {l : List α} {c : α → List PV} {v v' : α}
theorem W.addG {n : Int} (hx : lx sl x = some (.int .i64 a)) (hy : lx sl y = some (.int .i64 b)) (h : gadd a b = some n)
    (kk : W P r (([], []) :: acc) ⟨(d, .int .i64 n) :: sl, m, g⟩ K) : W P (⟨some d, none, .bin .add x y⟩ :: r) acc ⟨sl, m, g⟩ K :=
  W.add hx hy (gchk_some h).1 (gchk_some h).2 kk
theorem W.subG {n : Int} (hx : lx sl x = some (.int .i64 a)) (hy : lx sl y = some (.int .i64 b)) (h : gsub a b = some n)
    (kk : W P r (([], []) :: acc) ⟨(d, .int .i64 n) :: sl, m, g⟩ K) : W P (⟨some d, none, .bin .sub x y⟩ :: r) acc ⟨sl, m, g⟩ K :=
  W.sub hx hy (gchk_some h).1 (gchk_some h).2 kk
theorem W.mulG {n : Int} (hx : lx sl x = some (.int .i64 a)) (hy : lx sl y = some (.int .i64 b)) (h : gmul a b = some n)
    (kk : W P r (([], []) :: acc) ⟨(d, .int .i64 n) :: sl, m, g⟩ K) : W P (⟨some d, none, .bin .mul x y⟩ :: r) acc ⟨sl, m, g⟩ K :=
  W.mul hx hy (gchk_some h).1 (gchk_some h).2 kk
theorem W.shrG {k k' : IntKind} {n : Int} (hx : lx sl x = some (.int k a)) (hy : lx sl y = some (.int k' b)) (h : gshr k a b = some n)
    (kk : W P r (([], []) :: acc) ⟨(d, .int k n) :: sl, m, g⟩ K) : W P (⟨some d, none, .bin .shr x y⟩ :: r) acc ⟨sl, m, g⟩ K := by
  unfold gshr at h
  split at h
  · cases h
  · rename_i h0
    injection h with h; subst h
    exact W.bin hx hy (by simp only [binPV, binInt, binSh, h0, if_false, ite_self]) kk
theorem W.shrC {k k' : IntKind} {n : Nat} (hx : lx sl x = some (.int k a)) (hy : lx sl y = some (.int k' (n : Int)))
    (kk : W P r (([], []) :: acc) ⟨(d, .int k (kshr k a n)) :: sl, m, g⟩ K) : W P (⟨some d, none, .bin .shr x y⟩ :: r) acc ⟨sl, m, g⟩ K :=
  W.shrG hx hy (by unfold gshr kshr; rw [if_neg (by omega)]; rfl) kk
theorem W.catG {s t u : List UInt8} (hx : lx sl x = some (.str s)) (hy : lx sl y = some (.str t)) (h : gcat s t = some u)
    (kk : W P r (([], []) :: acc) ⟨(d, .str u) :: sl, m, g⟩ K) : W P (⟨some d, none, .bin .add x y⟩ :: r) acc ⟨sl, m, g⟩ K := by
  unfold gcat at h
  split at h
  · rename_i hb; injection h with h; subst h; exact W.sadd hx hy hb kk
  · cases h
theorem W.sleq {s t : List UInt8} (hx : lx sl x = some (.str s)) (hy : lx sl y = some (.str t))
    (kk : W P r (([], []) :: acc) ⟨(d, .bool (Op.bytesLess s t || s == t)) :: sl, m, g⟩ K) : W P (⟨some d, none, .bin .leq x y⟩ :: r) acc ⟨sl, m, g⟩ K :=
  W.bin hx hy (by simp only [binPV, binStr]) kk
theorem W.sgtr {s t : List UInt8} (hx : lx sl x = some (.str s)) (hy : lx sl y = some (.str t))
    (kk : W P r (([], []) :: acc) ⟨(d, .bool (!(Op.bytesLess s t || s == t))) :: sl, m, g⟩ K) : W P (⟨some d, none, .bin .gtr x y⟩ :: r) acc ⟨sl, m, g⟩ K :=
  W.bin hx hy (by simp only [binPV, binStr]) kk
theorem W.sgeq {s t : List UInt8} (hx : lx sl x = some (.str s)) (hy : lx sl y = some (.str t))
    (kk : W P r (([], []) :: acc) ⟨(d, .bool (!(Op.bytesLess s t))) :: sl, m, g⟩ K) : W P (⟨some d, none, .bin .geq x y⟩ :: r) acc ⟨sl, m, g⟩ K :=
  W.bin hx hy (by simp only [binPV, binStr]) kk
theorem W.sidxG {s : List UInt8} {c : UInt8} (hx : lx sl x = some (.str s)) (hy : lx sl y = some (.int k a)) (h : gidx s a = some c)
    (kk : W P r (([], []) :: acc) ⟨(d, .int .u8 c.toNat) :: sl, m, g⟩ K) : W P (⟨some d, none, .sidx x y⟩ :: r) acc ⟨sl, m, g⟩ K :=
  W.sidx hx hy (gidx_some h).1 (gidx_some h).2 kk
theorem W.lenL {sz : Nat} (hx : lx sl x = some (.list sz (l.map c)))
    (kk : W P r (([], []) :: acc) ⟨(d, .int .i64 l.length) :: sl, m, g⟩ K) : W P (⟨some d, none, .len x⟩ :: r) acc ⟨sl, m, g⟩ K :=
  W.len (sz := sz) (es := l.map c) (n := l.length) hx rfl (List.length_map ..) kk
theorem W.lenN (hx : lx sl x = some .nils)
    (kk : W P r (([], []) :: acc) ⟨(d, .int .i64 0) :: sl, m, g⟩ K) : W P (⟨some d, none, .len x⟩ :: r) acc ⟨sl, m, g⟩ K :=
  W.len (sz := 0) (es := []) (n := 0) hx rfl rfl kk
theorem W.lenO {nm ver : Nat} {e : Ent} (hx : lx sl x = some (.own nm ver)) (hl : liveF (look m) nm ver = some e) (he : e.es = l.map c)
    (kk : W P r (([nm], []) :: acc) ⟨(d, .int .i64 l.length) :: sl, m, g⟩ K) : W P (⟨some d, none, .len x⟩ :: r) acc ⟨sl, m, g⟩ K :=
  W.len (sz := e.sz) (es := e.es) (n := l.length) hx (by simp only [srcRows, asList, hl, Option.map_some]) (by rw [he, List.length_map]) kk
theorem W.idxL {sz : Nat} (hx : lx sl x = some (.list sz (l.map c))) (hy : lx sl y = some (.int k a)) (h : gidx l a = some v)
    (kk : W P r (([], []) :: acc) ⟨(d, .pim (c v)) :: sl, m, g⟩ K) : W P (⟨some d, none, .idx sz x y⟩ :: r) acc ⟨sl, m, g⟩ K :=
  W.idx hx hy (gidx_some h).1 (map_at (gidx_some h).2) kk
theorem W.idxR {sz nm ver : Nat} {e : Ent} (hx : lx sl x = some (.own nm ver)) (hy : lx sl y = some (.int k a)) (hl : liveF (look m) nm ver = some e) (hs : e.sz = sz) (he : e.es = l.map c) (h : gidx l a = some v)
    (kk : W P r (([nm], []) :: acc) ⟨(d, .pown nm ver a.toNat 0) :: sl, m, g⟩ K) : W P (⟨some d, none, .idx sz x y⟩ :: r) acc ⟨sl, m, g⟩ K :=
  W.idxO hx hy hl hs (gidx_some h).1 rfl (by rw [he, List.length_map]; exact gidx_lt h) kk
theorem W.loadR {n : Nat} {ag : Bool} {nm ver i j : Nat} {e : Ent} (hx : lx sl x = some (.pown nm ver i j)) (hl : liveF (look m) nm ver = some e) (he : e.es = l.map c) (h : l[i]? = some v) (hr : rd n ag ((c v).drop j) = some p)
    (kk : W P r (([nm], []) :: acc) ⟨(d, p) :: sl, m, g⟩ K) : W P (⟨some d, none, .load n ag x⟩ :: r) acc ⟨sl, m, g⟩ K :=
  W.loadO hx hl (by rw [he]; exact map_at h) hr kk
theorem W.storeR {n nm ver i j : Nat} {e : Ent} (dt : Bool) (hx : lx sl x = some (.pown nm ver i j)) (hy : lx sl y = some q) (hl : liveF (look m) nm ver = some e) (he : e.es = l.map c) (h : l[i]? = some v)
    (hn : q.cells.length = n) (hj : j + n ≤ (c v).length) (ho : q.cells.all PV.one = true) (hs : splice (c v) j q.cells = c v') (hd : (e.data && q.cells.all PV.isD) = dt)
    (kk : W P r (([nm] ++ (nameOf q ++ []), [nm]) :: acc) ⟨sl, (nm, { e with es := (l.set i v').map c, data := dt }) :: m, g⟩ K) : W P (⟨none, none, .store n x y⟩ :: r) acc ⟨sl, m, g⟩ K :=
  W.store hx hy hl (by rw [he]; exact map_at h) hn hj ho hs (by rw [he, map_set]) hd kk
theorem W.sliceL {sz : Nat} {lo hi : Option LX} {t : List α} {rest : List PV} {i j : Int} (hx : lxs sl (x :: (lo.toList ++ hi.toList)) = some (.list sz (l.map c) :: rest)) (h : gcut l i j = some t)
    (hi' : sliceIx lo.isSome hi.isSome rest (l.map c).length = some (i.toNat, j.toNat))
    (kk : W P r ((rest.flatMap nameOf, []) :: acc) ⟨(d, .list sz (t.map c)) :: sl, m, g⟩ K) : W P (⟨some d, none, .slice sz x lo hi⟩ :: r) acc ⟨sl, m, g⟩ K := by
  obtain ⟨h1, h2, h3, h4, h5⟩ := gcut_some h
  exact W.slice hx hi' h2 (by rw [List.length_map]; exact h3) (by rw [map_cut, h5]) kk
theorem W.sliceR {sz : Nat} {lo hi : Option LX} {t : List α} {nm ver : Nat} {e : Ent} {rest : List PV} {i j : Int} (hx : lxs sl (x :: (lo.toList ++ hi.toList)) = some (.own nm ver :: rest)) (hl : liveF (look m) nm ver = some e) (hs : e.sz = sz) (he : e.es = l.map c) (h : gcut l i j = some t)
    (hi' : sliceIx lo.isSome hi.isSome rest e.es.length = some (i.toNat, j.toNat))
    (kk : W P r ((nm :: rest.flatMap nameOf, []) :: acc) ⟨(d, .sub nm ver i.toNat j.toNat) :: sl, m, g⟩ K) : W P (⟨some d, none, .slice sz x lo hi⟩ :: r) acc ⟨sl, m, g⟩ K := by
  obtain ⟨h1, h2, h3, h4, h5⟩ := gcut_some h
  exact W.sliceO hx hl hs hi' h2 (by rw [he, List.length_map]; exact h3) kk
theorem W.ssliceG {lo hi : Option LX} {s t : List UInt8} {rest : List PV} {i j : Int} (hx : lxs sl (x :: (lo.toList ++ hi.toList)) = some (.str s :: rest)) (h : gcut s i j = some t) (hi' : sliceIx lo.isSome hi.isSome rest s.length = some (i.toNat, j.toNat))
    (kk : W P r (([], []) :: acc) ⟨(d, .str t) :: sl, m, g⟩ K) : W P (⟨some d, none, .sslice x lo hi⟩ :: r) acc ⟨sl, m, g⟩ K := by
  obtain ⟨h1, h2, h3, h4, h5⟩ := gcut_some h
  exact W.sslice hx hi' h2 h3 h5 kk
theorem ix0 {a : Int} {k : IntKind} {n : Nat} (h : 0 ≤ a) : sliceIx true false [.int k a] n = some (a.toNat, ((n : Int)).toNat) := by simp [sliceIx, intIx, h]
theorem ix1 {a : Int} {k : IntKind} {n : Nat} (h : 0 ≤ a) : sliceIx false true [.int k a] n = some ((0 : Int).toNat, a.toNat) := by simp [sliceIx, intIx, h]
theorem ix2 {a b : Int} {k k' : IntKind} {n : Nat} (h : 0 ≤ a) (h' : 0 ≤ b) : sliceIx true true [.int k a, .int k' b] n = some (a.toNat, b.toNat) := by simp [sliceIx, intIx, h, h']
theorem W.appN {elem sz bytes : Nat} {ys zs : List α} (dt : Bool) (hx : lx sl x = some .nils) (hy : lx sl y = some q) (hs : srcRows (look m) sz q = some (sz, ys.map c)) (hf : freshF (look m) d = true) (h : gapp bytes [] ys = some zs) (hd : srcData (look m) q = dt)
    (kk : W P r ((d :: (nameOf q ++ []), [d]) :: acc) ⟨(d, .own d g) :: sl, (d, ⟨g, elem, sz, zs.map c, dt, true, false⟩) :: m, g⟩ K) : W P (⟨some d, none, .append elem sz bytes x y⟩ :: r) acc ⟨sl, m, g⟩ K := by
  obtain ⟨h1, h2⟩ := gapp_some h
  rw [List.nil_append] at h2; subst h2
  exact W.appendN hx hy hs hf (by rw [List.length_map]; exact h1) hd kk
theorem W.appR {elem sz bytes nm ver : Nat} {e : Ent} {ys zs : List α} (dt : Bool) (hx : lx sl x = some (.own nm ver)) (hl : liveF (look m) nm ver = some e) (hee : e.elem = elem) (hes : e.sz = sz) (he : e.es = l.map c) (hy : lx sl y = some q) (hs : srcRows (look m) sz q = some (sz, ys.map c)) (hf : freshF (look m) d = true)
    (h : gapp bytes l ys = some zs) (hd : (e.data && srcData (look m) q) = dt) (hne : (nm = d) = False)
    (kk : W P r ((d :: nm :: (nameOf q ++ []), [d, nm]) :: acc) ⟨(d, .own d g) :: sl, (d, ⟨g, elem, sz, zs.map c, dt, true, false⟩) :: (nm, { e with dead := true }) :: m, g⟩ K) : W P (⟨some d, none, .append elem sz bytes x y⟩ :: r) acc ⟨sl, m, g⟩ K := by
  obtain ⟨h1, h2⟩ := gapp_some h
  exact W.append hx hl hee hes hy hs hf (by rw [he, ← List.map_append, h2]) (by rw [List.length_map]; exact h1) hd hne kk
theorem W.isnilI {neg b : Bool} (hx : lx sl x = some (.ifc b))
    (kk : W P r (([], []) :: acc) ⟨(d, .bool ((!b) != neg)) :: sl, m, g⟩ K) : W P (⟨some d, none, .isnilI neg x⟩ :: r) acc ⟨sl, m, g⟩ K :=
  W.act (xs := [.ifc b]) (up := []) (lxs1 hx) (fun _ => by simp only [LOp.act]) kk
theorem W.isnilN {neg : Bool} (hx : lx sl x = some .nils)
    (kk : W P r (([], []) :: acc) ⟨(d, .bool (!neg)) :: sl, m, g⟩ K) : W P (⟨some d, none, .isnil neg x⟩ :: r) acc ⟨sl, m, g⟩ K :=
  W.act (xs := [.nils]) (up := []) (lxs1 hx) (fun _ => by simp only [LOp.act]) kk
theorem W.isnilZ {neg : Bool} (hx : lx sl x = some .nz)
    (kk : W P r (([], []) :: acc) ⟨(d, .bool neg) :: sl, m, g⟩ K) : W P (⟨some d, none, .isnil neg x⟩ :: r) acc ⟨sl, m, g⟩ K :=
  W.act (xs := [.nz]) (up := []) (lxs1 hx) (fun _ => by simp only [LOp.act]) kk
theorem W.isnilC {neg : Bool} {sz : Nat} {row : List PV} {es : List (List PV)} (hx : lx sl x = some (.list sz (row :: es)))
    (kk : W P r (([], []) :: acc) ⟨(d, .bool neg) :: sl, m, g⟩ K) : W P (⟨some d, none, .isnil neg x⟩ :: r) acc ⟨sl, m, g⟩ K :=
  W.act (xs := [.list sz (row :: es)]) (up := []) (lxs1 hx) (fun _ => by simp only [LOp.act]) kk
def bts (s : List UInt8) : List Int := s.map fun b => (b.toNat : Int)
theorem W.toBytes {e : Nat} {s : List UInt8} (hx : lx sl x = some (.str s))
    (kk : W P r (([], []) :: acc) ⟨(d, .list 1 ((bts s).map (cK .u8))) :: sl, m, g⟩ K) : W P (⟨some d, none, .toBytes e x⟩ :: r) acc ⟨sl, m, g⟩ K :=
  W.act (xs := [.str s]) (up := []) (lxs1 hx) (fun _ => by simp only [LOp.act, bts, List.map_map]; rfl) kk
theorem W.vidx {n0 sz : Nat} {ag : Bool} {cs : List PV} (hx : lx sl x = some (.agg cs)) (hy : lx sl y = some (.int k a)) (h0 : 0 ≤ a) (hn : a.toNat < n0) (hr : rd sz ag (cs.drop (a.toNat * sz)) = some p)
    (kk : W P r (([], []) :: acc) ⟨(d, p) :: sl, m, g⟩ K) : W P (⟨some d, none, .vidx n0 sz ag x y⟩ :: r) acc ⟨sl, m, g⟩ K :=
  W.act (xs := [.agg cs, .int k a]) (up := []) (lxs2 hx hy) (fun _ => by simp only [LOp.act, h0, hn, and_self, if_true, hr, Option.map_some]) kk
def garr (n : Nat) (x : Int) : Option Int := if 0 ≤ x ∧ x < n then some x else none
theorem garr_some {n : Nat} {x y : Int} (h : garr n x = some y) : x = y ∧ 0 ≤ y ∧ y < n := by
  unfold garr at h
  split at h
  · rename_i hc; injection h with h; subst h; exact ⟨rfl, hc⟩
  · cases h
theorem W.vidxG {n0 sz : Nat} {ag : Bool} {cs : List PV} {i : Int} (hx : lx sl x = some (.agg cs)) (hy : lx sl y = some (.int k a)) (h : garr n0 a = some i) (hr : rd sz ag (cs.drop (i.toNat * sz)) = some p)
    (kk : W P r (([], []) :: acc) ⟨(d, p) :: sl, m, g⟩ K) : W P (⟨some d, none, .vidx n0 sz ag x y⟩ :: r) acc ⟨sl, m, g⟩ K := by
  obtain ⟨rfl, h1, h2⟩ := garr_some h
  exact W.vidx hx hy h1 (by omega) hr kk
def gclear {α : Type} (l : List α) (lo hi : Nat) (z : α) : List α := l.take lo ++ List.replicate (hi - lo) z ++ l.drop hi
theorem map_clear {α : Type} (c : α → List PV) (l : List α) (lo hi : Nat) (z : α) : (gclear l lo hi z).map c = (l.map c).take lo ++ List.replicate (hi - lo) (c z) ++ (l.map c).drop hi := by
  unfold gclear
  simp only [List.map_append, List.map_take, List.map_drop, List.map_replicate]
end
end Go.PW
