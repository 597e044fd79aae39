/-
  PwEval: the abstract run of one operation.
-/
import Derived.Test.YtjmmlddioeehbaaGreatDoorPwCore
namespace Go.PW
open Classical Go.RowKit
noncomputable section
inductive Le : PV → PV → Prop
  | refl (p : PV) : Le p p
  | nils (sz : Nat) : Le .nils (.list sz [])
  | nz (sz : Nat) : Le .nz (.list sz [])
  | agg (ps qs : List PV) (hl : ps.length = qs.length) (h : ∀ (j : Nat) (p q : PV), ps[j]? = some p → qs[j]? = some q → Le p q) (ho : ∀ q ∈ qs, q.one = true) : Le (.agg ps) (.agg qs)
  | tup (ps qs : List PV) (hl : ps.length = qs.length) (h : ∀ (j : Nat) (p q : PV), ps[j]? = some p → qs[j]? = some q → Le p q) : Le (.tup ps) (.tup qs)
  | list (sz : Nat) (es es' : List (List PV)) (hl : es.length = es'.length) (hr : ∀ (i : Nat) (cs cs' : List PV), es[i]? = some cs → es'[i]? = some cs' → cs.length = cs'.length)
      (ho : ∀ (i : Nat) (cs' : List PV), es'[i]? = some cs' → ∀ q ∈ cs', q.one = true)
      (h : ∀ (i : Nat) (cs cs' : List PV) (j : Nat) (p q : PV), es[i]? = some cs → es'[i]? = some cs' → cs[j]? = some p → cs'[j]? = some q → Le p q) : Le (.list sz es) (.list sz es')
theorem DV.le {w : World} {I : Nat → Prop} {v : Value} {p q : PV} (h : DV w I v p) (hl : Le p q) : DV w I v q := by
  induction hl generalizing v with
  | refl p => exact h
  | nils sz => cases h; exact .list0 _ _ _ fun _ => rfl
  | nz sz => cases h; exact .list0 _ _ _ fun e => (by cases e)
  | agg ps qs hl h' ho ih =>
    cases h with
    | agg vs cs hl' _ hv =>
      refine .agg vs qs (by omega) ho fun j v q hj hq => ?_
      have hlt : j < ps.length := by have := (List.getElem?_eq_some_iff.1 hq).1; omega
      exact ih j ps[j] q (List.getElem?_eq_getElem hlt) hq (hv j v ps[j] hj (List.getElem?_eq_getElem hlt))
  | tup ps qs hl h' ih =>
    cases h with
    | tup vs cs hl' hv =>
      refine .tup vs qs (by omega) fun j v q hj hq => ?_
      have hlt : j < ps.length := by have := (List.getElem?_eq_some_iff.1 hq).1; omega
      exact ih j ps[j] q (List.getElem?_eq_getElem hlt) hq (hv j v ps[j] hj (List.getElem?_eq_getElem hlt))
  | list sz es es' hl hr ho h' ih =>
    cases h with
    | list0 a c sz h0 =>
      have : es' = [] := List.eq_nil_of_length_eq_zero (by rw [← hl]; rfl)
      subst this
      exact .list0 _ _ _ h0
    | list ad c sz es f hc hb hI hlt hsz hcell hval =>
      have back : ∀ (i : Nat) (cs' : List PV), es'[i]? = some cs' → ∃ cs, es[i]? = some cs ∧ cs.length = cs'.length := fun i cs' hi => by
        have hil := (List.getElem?_eq_some_iff.1 hi).1
        have he : es[i]? = some (es[i]'(by omega)) := List.getElem?_eq_getElem (by omega)
        exact ⟨_, he, hr i _ _ he hi⟩
      rw [hl]
      refine .list ad c sz es' f (by omega) (by omega) hI hlt (fun i cs' hi => ?_) (fun i cs' j q hi hj => ?_) (fun i cs' j q hi hj => ?_)
      · obtain ⟨cs, h1, h2⟩ := back i cs' hi
        exact ⟨by rw [← h2]; exact (hsz i cs h1).1, ho i cs' hi⟩
      · obtain ⟨cs, h1, h2⟩ := back i cs' hi
        have hjl := (List.getElem?_eq_some_iff.1 hj).1
        exact hcell i cs j _ h1 (List.getElem?_eq_getElem (by omega))
      · obtain ⟨cs, h1, h2⟩ := back i cs' hi
        have hjl := (List.getElem?_eq_some_iff.1 hj).1
        have hjc : cs[j]? = some (cs[j]'(by omega)) := List.getElem?_eq_getElem (by omega)
        exact ih i cs cs' j _ q h1 hi hjc hj (hval i cs j _ h1 hjc)
def PV.flat0 : PV → Bool
  | .int .. | .bool _ | .str _ | .nils | .pnil | .fnil | .ifc _ | .anyi => true
  | _ => false
def PV.flat1 : PV → Bool
  | .agg cs => cs.all PV.flat0
  | p => p.flat0
def PV.flat : PV → Bool
  | .tup cs => cs.all PV.flat1
  | p => p.flat1
inductive DVs (w : World) (I : Nat → Prop) : List Value → List PV → Prop
  | nil : DVs w I [] []
  | cons {v : Value} {p : PV} {vs : List Value} {ps : List PV} (h : DV w I v p) (t : DVs w I vs ps) : DVs w I (v :: vs) (p :: ps)
def PSpec (P : Program) (f : FuncId) (args : List PV) (res : PV) : Prop :=
  ∀ (w : World) (vs : List Value) (I : Nat → Prop), DVs w I vs args → Glob w I →
    Calls P f vs.toArray w fun e w' => ∃ v, e = .returned v ∧ Below w.heap.size w w' ∧ DV w' (fun b => I b ∨ w.heap.size ≤ b) v res
def bodied (P : Program) (f : FuncId) : Bool :=
  match P.funcs[f]? with
  | some fn => fn.body.isSome && fn.name != "runtime.NumGoroutine"
  | none => false
structure Mut where
  mem : List (Nat × Ent)
  mem' : List (Nat × Ent)
  /-- the caller's name and version of a row that was there -/
  τ : Nat → Nat × Nat
  /-- the caller's name for a new row -/
  ν : Nat → Nat
structure Fact (P : Program) where
  f : FuncId
  args : List PV
  res : PV
  chg : Option Mut
  pf : match chg with
    | none => PSpec P f args res
    | some u => PMut P f args u.mem res u.mem'
def Fact.of {P : Program} {f : FuncId} {args : List PV} {res : PV} (h : PSpec P f args res) : Fact P := ⟨f, args, res, none, h⟩
def Fact.ofMut {P : Program} {f : FuncId} {args : List PV} {res : PV} {mem mem' : List (Nat × Ent)} (τ : Nat → Nat × Nat) (ν : Nat → Nat) (h : PMut P f args mem res mem') : Fact P := ⟨f, args, res, some ⟨mem, mem', τ, ν⟩, h⟩
inductive LX where
  | t (n : Nat)
  | c (p : PV)
inductive LOp where
  | mv (x : LX)
  | pick (c a b : LX)
  | bin (op : BinOp) (x y : LX)
  | eqb (neg : Bool) (x y : LX)
  | eqs (neg : Bool) (ks : List Nat) (x y : LX)
  | mx (x y : LX)
  | mn (x y : LX)
  | conv (k : IntKind) (x : LX)
  | un (op : UnOp) (x : LX)
  | field (off n : Nat) (ag : Bool) (x : LX)
  | extract (i : Nat) (x : LX)
  | len (x : LX)
  | slen (x : LX)
  | sslice (x : LX) (lo hi : Option LX)
  | fieldAddr (off : Nat) (x : LX)
  | idx (sz : Nat) (x i : LX)
  | idxA (len sz : Nat) (x i : LX)
  | sidx (x i : LX)
  | vidx (n0 sz : Nat) (ag : Bool) (x i : LX)
  | load (n : Nat) (ag : Bool) (x : LX)
  | store (n : Nat) (x v : LX)
  | alloc (elem n : Nat) (zero : List PV)
  | box (elem n : Nat) (x : LX)
  | build (zero : List PV) (parts : List (Nat × Nat × LX))
  | mkSlice (elem sz len : Nat) (zero : List PV) (parts : List (Nat × LX))
  | make (elem sz bytes : Nat) (zero : List PV) (l : LX)
  | slice (sz : Nat) (x : LX) (lo hi : Option LX)
  | append (elem sz bytes : Nat) (s x : LX)
  | call (f : FuncId) (args : List LX)
  | callv (x : LX) (args : List LX)
  | nilCheck (x : LX)
  | mkfn (f : FuncId) (first caps : List LX)
  | copy (sz : Nat) (x y : LX)
  | isnil (neg : Bool) (x : LX)
  | isnilI (neg : Bool) (x : LX)
  | clear (sz : Nat) (zero : List PV) (x : LX)
  | toBytes (elem : Nat) (x : LX)
  | bad
structure LOper where
  dst : Option Nat
  guard : Option (Nat × Bool)
  op : LOp
structure St where
  slots : List (Nat × PV)
  mem : List (Nat × Ent)
  gen : Nat
def LOp.args : LOp → List LX
  | .mv x | .un _ x | .field _ _ _ x | .extract _ x | .len x | .slen x | .fieldAddr _ x | .load _ _ x | .box _ _ x | .make _ _ _ _ x | .nilCheck x | .conv _ x | .isnil _ x | .isnilI _ x | .clear _ _ x | .toBytes _ x => [x]
  | .pick c a b => [c, a, b]
  | .bin _ x y | .eqb _ x y | .eqs _ _ x y | .mx x y | .mn x y | .idx _ x y | .idxA _ _ x y | .sidx x y | .vidx _ _ _ x y | .store _ x y | .append _ _ _ x y | .copy _ x y => [x, y]
  | .alloc .. | .bad => []
  | .build _ ps => ps.map (·.2.2)
  | .mkSlice _ _ _ _ ps => ps.map (·.2)
  | .slice _ x lo hi | .sslice x lo hi => x :: (lo.toList ++ hi.toList)
  | .call _ as => as
  | .callv x as => x :: as
  | .mkfn _ a b => a ++ b
def lx (slots : List (Nat × PV)) : LX → Option PV
  | .t n => look slots n
  | .c p => some p
def lxs (slots : List (Nat × PV)) : List LX → Option (List PV)
  | [] => some []
  | x :: r => match lx slots x, lxs slots r with
    | some p, some ps => some (p :: ps)
    | _, _ => none
abbrev Look := Nat → Option Ent
def liveF (f : Look) (nm ver : Nat) : Option Ent :=
  match f nm with
  | some e => if e.ver = ver ∧ e.dead = false then some e else none
  | none => none
def freshF (f : Look) (d : Nat) : Bool :=
  match f d with
  | none => true
  | some e => !e.new
def asList (f : Look) : PV → Option (Nat × List (List PV))
  | .list sz es => some (sz, es)
  | .own nm ver => (liveF f nm ver).map fun e => (e.sz, e.es)
  | .sub nm ver lo hi => (liveF f nm ver).map fun e => (e.sz, (e.es.take hi).drop lo)
  | _ => none
def srcData (m : Look) : PV → Bool
  | .own nm ver => ((liveF m nm ver).map (·.data)).getD false
  | .sub nm ver _ _ => ((liveF m nm ver).map (·.data)).getD false
  | _ => true
def srcRows (m : Look) (sz : Nat) : PV → Option (Nat × List (List PV))
  | .nils => some (sz, [])
  | x => asList m x
def rd (n : Nat) (ag : Bool) (cs : List PV) : Option PV :=
  if ag then (if n ≤ cs.length then some (.agg (cs.take n)) else none) else cs.head?
def PV.val : PV → Bool
  | .agg cs => cs.all PV.one
  | p => p.one
def PV.cells : PV → List PV
  | .agg cs => cs
  | p => [p]
def splice (cs : List PV) (off : Nat) (new : List PV) : List PV := cs.take off ++ new ++ cs.drop (off + new.length)
def fillCells : List PV → List (Nat × Nat × PV) → Option (List PV)
  | cs, [] => some cs
  | cs, (off, n, p) :: r => if p.cells.length = n ∧ off + n ≤ cs.length ∧ p.val = true then fillCells (splice cs off p.cells) r else none
def fillRows (sz : Nat) : List (List PV) → List (Nat × PV) → Option (List (List PV))
  | es, [] => some es
  | es, (i, p) :: r => if p.cells.length = sz ∧ i < es.length ∧ p.val = true then fillRows sz (es.set i p.cells) r else none
def binSh (op : BinOp) (k : IntKind) (a b : Int) : Option PV :=
  match op with
  | .shl => if b < 0 then none else some (.int k (k.wrap (a * 2 ^ min b.toNat k.bits)))
  | .shr => if b < 0 then none else some (.int k (a.fdiv (2 ^ min b.toNat k.bits)))
  | _ => none
def bitsOf (k : IntKind) (a : Int) : BitVec k.bits := BitVec.ofInt k.bits a
def binInt (op : BinOp) (k : IntKind) (a b : Int) : Option PV :=
  match op with
  | .and => some (.int k (k.wrap (bitsOf k a &&& bitsOf k b).toNat))
  | .or => some (.int k (k.wrap (bitsOf k a ||| bitsOf k b).toNat))
  | .xor => some (.int k (k.wrap (bitsOf k a ^^^ bitsOf k b).toNat))
  | .andNot => some (.int k (k.wrap (bitsOf k a &&& ~~~ bitsOf k b).toNat))
  | .shl => if b < 0 then none else some (.int k (k.wrap (a * 2 ^ min b.toNat k.bits)))
  | .shr => if b < 0 then none else some (.int k (a.fdiv (2 ^ min b.toNat k.bits)))
  | .add => some (.int k (k.wrap (a + b)))
  | .sub => some (.int k (k.wrap (a - b)))
  | .mul => some (.int k (k.wrap (a * b)))
  | .quo => if b = 0 then none else some (.int k (k.wrap (a.tdiv b)))
  | .rem => if b = 0 then none else some (.int k (a.tmod b))
  | .eql => some (.bool (a == b))
  | .neq => some (.bool (a != b))
  | .lss => some (.bool (decide (a < b)))
  | .leq => some (.bool (decide (a ≤ b)))
  | .gtr => some (.bool (decide (a > b)))
  | .geq => some (.bool (decide (a ≥ b)))
def binStr (op : BinOp) (a b : List UInt8) : Option PV :=
  match op with
  | .add => if a.length + b.length ≤ big then some (.str (a ++ b)) else none
  | .eql => some (.bool (a == b))
  | .neq => some (.bool (!(a == b)))
  | .lss => some (.bool (Op.bytesLess a b))
  | .leq => some (.bool (Op.bytesLess a b || a == b))
  | .gtr => some (.bool (!(Op.bytesLess a b || a == b)))
  | .geq => some (.bool (!(Op.bytesLess a b)))
  | _ => none
def eqCells : List Nat → List PV → List PV → Option Bool
  | [], [], [] => some true
  | 0 :: ks, .int k a :: r, .int k' b :: s => if k = k' then (eqCells ks r s).map fun e => (a == b) && e else none
  | 1 :: ks, .bool a :: r, .bool b :: s => (eqCells ks r s).map fun e => (a == b) && e
  | 2 :: ks, .str a :: r, .str b :: s => (eqCells ks r s).map fun e => (a == b) && e
  | _, _, _ => none
def binPV (op : BinOp) (x y : PV) : Option PV :=
  match x, y with
  | .int k a, .int k' b => if k = k' then binInt op k a b else binSh op k a b
  | .str a, .str b => binStr op a b
  | _, _ => none
def intIx : PV → Option Nat
  | .int _ n => if 0 ≤ n then some n.toNat else none
  | _ => none
def optIx (d : Nat) : Option PV → Option Nat
  | none => some d
  | some p => intIx p
def sliceIx (lo hi : Bool) (r : List PV) (d : Nat) : Option (Nat × Nat) :=
  match lo, hi, r with
  | false, false, [] => some (0, d)
  | true, false, [p] => (intIx p).map fun l => (l, d)
  | false, true, [q] => (intIx q).map fun h => (0, h)
  | true, true, [p, q] => match intIx p, intIx q with
    | some l, some h => some (l, h)
    | _, _ => none
  | _, _, _ => none
def argD (f : Look) : PV → Option PV
  | .own nm ver => match liveF f nm ver with | some e => if e.data then some (.list e.sz e.es) else none | none => none
  | .sub nm ver lo hi => match liveF f nm ver with | some e => if e.data then some (.list e.sz ((e.es.take hi).drop lo)) else none | none => none
  | p => some p
def PV.isOwn : PV → Bool
  | .own .. | .sub .. => true
  | _ => false
def argsD (f : Look) : List PV → Option (List PV)
  | [] => some []
  | p :: r => match argD f p, argsD f r with
    | some q, some qs => some (q :: qs)
    | _, _ => none
def PV.dataOk : PV → Bool
  | .agg cs => cs.all PV.isD
  | .pim _ => true
  | .fn _ a b => a.all PV.isD && b.all PV.isD
  | p => p.isD
def Mut.post (u : Mut) (gen : Nat) (nm : Nat) (_ : Nat) : Nat × Nat := if u.mem.any (fun x => x.1 == nm) then u.τ nm else (u.ν nm, gen)
def Mut.ent (u : Mut) (m : Look) (gen nm : Nat) (e : Ent) : Ent :=
  { ver := (u.post gen nm 0).2, elem := e.elem, sz := e.sz, es := if e.data then e.es else e.es.map (·.map (m1 (u.post gen))), data := e.data,
    new := if u.mem.any (fun x => x.1 == nm) then ((m (u.τ nm).1).map (·.new)).getD true else true, dead := false }
def Mut.gone (u : Mut) (m : Look) : List (Nat × Ent) :=
  u.mem.filterMap fun x => if u.mem'.any (fun y => y.1 == x.1) then none else (m (u.τ x.1).1).map fun e => ((u.τ x.1).1, { e with dead := true })
def Mut.up (u : Mut) (m : Look) (gen : Nat) : List (Nat × Ent) := (u.mem'.map fun x => ((u.post gen x.1 0).1, u.ent m gen x.1 x.2)) ++ u.gone m
def Mut.foot (u : Mut) : List Nat := (u.mem.map fun x => (u.τ x.1).1) ++ u.mem'.map fun x => u.ν x.1
def Mut.names (u : Mut) : List Nat := u.mem.map (·.1) ++ u.mem'.map (·.1)
inductive ArgOk (u : Mut) (x p : PV) : Prop
  | data (hd : x.dataOk = true) (hl : Le x p)
  | tok (hx : x = m3 (fun nm _ => u.τ nm) p) (ho : ok3 u.names p = true)
structure RowGiven (u : Mut) (m : Look) (nm : Nat) (e : Ent) : Prop where
  hdr : e.ver = 0 ∧ e.new = false ∧ e.dead = false
  there : ∃ e0, liveF m (u.τ nm).1 (u.τ nm).2 = some e0 ∧ e0.elem = e.elem ∧ e0.sz = e.sz ∧ ((e.data = true ∧ e0.data = true ∧ e0.es = e.es) ∨
    (e.data = false ∧ e0.es = e.es.map (·.map (m1 fun n _ => u.τ n)) ∧ ∀ cs ∈ e.es, ∀ p ∈ cs, ok1 u.names p = true))
structure RowLeft (u : Mut) (m : Look) (nm : Nat) (e : Ent) : Prop where
  hdr : e.ver = 0 ∧ e.new = false ∧ e.dead = false
  kept : ∀ e0, look u.mem nm = some e0 → e.sz = e0.sz ∧ e.es.length = e0.es.length
  fresh : look u.mem nm = none → freshF m (u.ν nm) = true ∧ ∀ x ∈ u.mem, (u.τ x.1).1 ≠ u.ν nm
  cells : e.data = true ∨ ∀ cs ∈ e.es, ∀ p ∈ cs, ok1 u.names p = true
structure MutOk (m : Look) (gen : Nat) (xs args : List PV) (res : PV) (u : Mut) : Prop where
  len : xs.length = args.length
  args : ∀ (j : Nat) (x p : PV), xs[j]? = some x → args[j]? = some p → ArgOk u x p
  nd : ∀ x ∈ u.mem, look u.mem x.1 = some x.2
  nd' : ∀ x ∈ u.mem', look u.mem' x.1 = some x.2
  inj : ∀ x ∈ u.mem, ∀ y ∈ u.mem, x.1 ≠ y.1 → (u.τ x.1).1 ≠ (u.τ y.1).1
  inj' : ∀ x ∈ u.mem', ∀ y ∈ u.mem', x.1 ≠ y.1 → (u.post gen x.1 0).1 ≠ (u.post gen y.1 0).1
  given : ∀ x ∈ u.mem, RowGiven u m x.1 x.2
  left : ∀ x ∈ u.mem', RowLeft u m x.1 x.2
  res : ok3 u.names res = true
def callD (P : Program) (Γ : List (Nat × Fact P)) (dst : Option Nat) (gen : Nat) (f : FuncId) (args : List PV) (m : Look) : Option (PV × List (Nat × Ent)) :=
  match dst with
  | none => none
  | some d => match look Γ d with
    | none => none
    | some c => match c.chg with
      | some u => if c.f = f ∧ MutOk m gen args c.args c.res u then some (m3 (u.post gen) c.res, u.up m gen) else none
      | none => match argsD m args with
        | none => none
        | some qs =>
          if c.f = f ∧ qs.length = c.args.length ∧ (∀ (j : Nat) (p q : PV), qs[j]? = some p → c.args[j]? = some q → Le p q) ∧ qs.all PV.dataOk = true then
            if args.any PV.isOwn = false ∨ c.res.flat = true then some (c.res, []) else none
          else none
def nameOf1 : PV → List Nat
  | .own nm _ | .sub nm _ _ _ | .pown nm _ _ _ => [nm]
  | _ => []
def nameOf : PV → List Nat
  | .fn _ a b => (a ++ b).flatMap nameOf1
  | p => nameOf1 p
def foot {P : Program} (Γ : List (Nat × Fact P)) (dst : Option Nat) : List Nat := match dst with
  | none => []
  | some d => match look Γ d with
    | some c => match c.chg with
      | some u => u.foot
      | none => []
    | none => []
def LOp.reads (ft : List Nat) (o : LOp) (dst : Option Nat) (xs : List PV) : List Nat :=
  match o with
  | .len _ | .idx .. | .idxA .. | .fieldAddr .. | .nilCheck .. | .load .. | .store .. | .slice .. | .copy .. | .isnil .. | .clear .. => xs.flatMap nameOf
  | .alloc .. | .box .. | .mkSlice .. | .make .. => dst.toList
  | .append .. => dst.toList ++ xs.flatMap nameOf
  | .call .. | .callv .. => dst.toList ++ (ft ++ xs.flatMap nameOf)
  | _ => []
def copyAt (m : Look) (sz nm ver lo : Nat) (hi : Option Nat) (y : PV) : Option (PV × List (Nat × Ent)) :=
  match liveF m nm ver with
  | some e => match srcRows m sz y with
    | some (sz2, news) => if sz2 = sz ∧ e.sz = sz ∧ lo ≤ hi.getD e.es.length ∧ hi.getD e.es.length ≤ e.es.length then
        some (.int .i64 ((min news.length (hi.getD e.es.length - lo) : Nat) : Int), [(nm, { e with es := e.es.take lo ++ news.take (hi.getD e.es.length - lo) ++ e.es.drop (lo + min news.length (hi.getD e.es.length - lo)), data := e.data && srcData m y })]) else none
    | none => none
  | none => none
def clearAt (m : Look) (sz nm ver lo : Nat) (hi : Option Nat) (zero : List PV) : Option (PV × List (Nat × Ent)) :=
  match liveF m nm ver with
  | some e => if e.sz = sz ∧ lo ≤ hi.getD e.es.length ∧ hi.getD e.es.length ≤ e.es.length then
      some (.tup [], [(nm, { e with es := e.es.take lo ++ List.replicate (hi.getD e.es.length - lo) zero ++ e.es.drop (hi.getD e.es.length), data := e.data && zero.all PV.isD })]) else none
  | none => none
def bxUp (d gen elem n : Nat) : List PV → List (Nat × Ent)
  | [.pnil, .nils] => [(d, { ver := gen, elem, sz := n, es := [[.pown d gen BX BX, .nils]], data := false, new := true, dead := false })]
  | _ => []
def LOp.act {P : Program} (Γ : List (Nat × Fact P)) (o : LOp) (dst : Option Nat) (gen : Nat) (xs : List PV) (m : Look) : Option (PV × List (Nat × Ent)) :=
  match o, xs with
  | .mv _, [p] => some (p, [])
  | .pick _ _ _, [.bool c, a, b] => some (if c then a else b, [])
  | .bin op _ _, [x, y] => (binPV op x y).map (·, [])
  | .eqb neg _ _, [.bool x, .bool y] => some (.bool ((x == y) != neg), [])
  | .eqs neg ks _ _, [.agg xs, .agg ys] => (eqCells ks xs ys).map fun e => (.bool (e != neg), [])
  | .mx _ _, [.int k x, .int k' y] => if k = k' then some (.int k (if y > x then y else x), []) else none
  | .mn _ _, [.int k x, .int k' y] => if k = k' then some (.int k (if y < x then y else x), []) else none
  | .conv k _, [.int _ n] => some (.int k (k.wrap n), [])
  | .un .not _, [.bool b] => some (.bool (!b), [])
  | .un .neg _, [.int k n] => some (.int k (k.wrap (0 - n)), [])
  | .field off n ag _, [.agg cs] => (rd n ag (cs.drop off)).map (·, [])
  | .extract i _, [.tup vs] => vs[i]?.map (·, [])
  | .slen _, [.str l] => some (.int .i64 l.length, [])
  | .len _, [.nils] => some (.int .i64 0, [])
  | .len _, [p] => (asList m p).map fun r => (.int .i64 r.2.length, [])
  | .fieldAddr off _, [.pim cs] => some (.pim (cs.drop off), [])
  | .fieldAddr off _, [.pown nm ver i j] => if (liveF m nm ver).isSome ∧ Nat.blt (j + off) BX = true then some (.pown nm ver i (j + off), []) else none
  | .idx sz _ _, [.list sz' es, .int _ n] =>
    if 0 ≤ n ∧ sz' = sz then match es[n.toNat]? with | some cs => some (.pim cs, []) | none => none else none
  | .idx sz _ _, [.own nm ver, .int _ n] => match liveF m nm ver with
    | some e => if 0 ≤ n ∧ n.toNat < e.es.length ∧ e.sz = sz then some (.pown nm ver n.toNat 0, []) else none
    | none => none
  | .idx sz _ _, [.sub nm ver lo hi, .int _ n] => match liveF m nm ver with
    | some e => if 0 ≤ n ∧ lo + n.toNat < hi ∧ e.sz = sz then some (.pown nm ver (lo + n.toNat) 0, []) else none
    | none => none
  | .idxA n0 sz _ _, [.pim cs, .int _ n] => if 0 ≤ n ∧ n.toNat < n0 then some (.pim (cs.drop (n.toNat * sz)), []) else none
  | .idxA n0 sz _ _, [.pown nm ver i j, .int _ n] => if 0 ≤ n ∧ n.toNat < n0 ∧ (liveF m nm ver).isSome ∧ Nat.blt (j + n.toNat * sz) BX = true then some (.pown nm ver i (j + n.toNat * sz), []) else none
  | .sidx _ _, [.str l, .int _ n] => if 0 ≤ n then match l[n.toNat]? with | some b => some (.int .u8 b.toNat, []) | none => none else none
  | .vidx n0 sz ag _ _, [.agg cs, .int _ n] => if 0 ≤ n ∧ n.toNat < n0 then (rd sz ag (cs.drop (n.toNat * sz))).map (·, []) else none
  | .load n ag _, [.pim cs] => (rd n ag cs).map (·, [])
  | .load n ag _, [.pown nm ver i j] => match liveF m nm ver with
    | some e => match e.es[i]? with
      | some cs => (rd n ag (cs.drop j)).map (·, [])
      | none => none
    | none => none
  | .store n _ _, [.pown nm ver i j, v] => match liveF m nm ver with
    | some e => match e.es[i]? with
      | some cs => if v.cells.length = n ∧ j + n ≤ cs.length ∧ v.cells.all PV.one = true then
          some (.tup [], [(nm, { e with es := e.es.set i (splice cs j v.cells), data := e.data && v.cells.all PV.isD })]) else none
      | none => none
    | none => none
  | .alloc elem n zero, [] => match dst with
    | some d => if freshF m d = true ∧ zero.length = n then some (.pown d gen 0 0, bxUp d gen elem n zero ++ [(d, { ver := gen, elem, sz := n, es := [zero], data := zero.all PV.isD, new := true, dead := false })]) else none
    | none => none
  | .box elem n _, [p] => match dst with
    | some d => if freshF m d = true ∧ p.cells.length = n ∧ p.cells.all PV.one = true then some (.pown d gen 0 0, [(d, { ver := gen, elem, sz := n, es := [p.cells], data := p.cells.all PV.isD, new := true, dead := false })]) else none
    | none => none
  | .build zero parts, xs => if xs.length = parts.length then (fillCells zero ((parts.zip xs).map fun q => (q.1.1, q.1.2.1, q.2))).map fun cs => (.agg cs, []) else none
  | .mkSlice elem sz n0 zero parts, xs => match dst with
    | some d =>
      if xs.length = parts.length ∧ freshF m d = true then
        match fillRows sz (List.replicate n0 zero) ((parts.zip xs).map fun q => (q.1.1, q.2)) with
        | some es => if es.all (fun cs => cs.all PV.one) = true then some (.own d gen, [(d, { ver := gen, elem, sz, es, data := es.all fun cs => cs.all PV.isD, new := true, dead := false })]) else none
        | none => none
      else none
    | none => none
  | .make elem sz bytes zero _, [.int .i64 n] => match dst with
    | some d => if freshF m d = true ∧ 0 ≤ n ∧ n.toNat * bytes ≤ big then
        some (.own d gen, [(d, { ver := gen, elem, sz, es := List.replicate n.toNat zero, data := zero.all PV.isD, new := true, dead := false })]) else none
    | none => none
  | .sslice _ lo hi, .str s :: r => match sliceIx lo.isSome hi.isSome r s.length with
    | some (l, h) => if l ≤ h ∧ h ≤ s.length then some (.str ((s.take h).drop l), []) else none
    | none => none
  | .slice sz _ lo hi, .list sz' es :: r => match sliceIx lo.isSome hi.isSome r es.length with
    | some (l, h) => if sz' = sz ∧ l ≤ h ∧ h ≤ es.length then some (.list sz ((es.take h).drop l), []) else none
    | none => none
  | .slice sz _ lo hi, .own nm ver :: r => match liveF m nm ver with
    | some e => match sliceIx lo.isSome hi.isSome r e.es.length with
      | some (l, h) => if e.sz = sz ∧ l ≤ h ∧ h ≤ e.es.length then some (.sub nm ver l h, []) else none
      | none => none
    | none => none
  | .slice _ _ lo hi, .nils :: r => match sliceIx lo.isSome hi.isSome r 0 with
    | some (l, h) => if l = 0 ∧ h = 0 then some (.nils, []) else none
    | none => none
  | .append elem sz bytes _ _, [s, x] => match dst with
    | none => none
    | some d => match srcRows m sz x with
      | none => none
      | some (sz2, news) => if sz2 = sz ∧ freshF m d = true then
          match s with
          | .nils => if news.length * bytes ≤ big then some (.own d gen, [(d, { ver := gen, elem, sz, es := news, data := srcData m x, new := true, dead := false })]) else none
          | .own nm ver => match liveF m nm ver with
            | some e => if e.elem = elem ∧ e.sz = sz ∧ (e.es.length + news.length) * bytes ≤ big then
                some (.own d gen, (d, { ver := gen, elem, sz, es := e.es ++ news, data := e.data && srcData m x, new := true, dead := false }) ::
                  (if nm = d then [] else [(nm, { e with dead := true })])) else none
            | none => none
          | _ => none
        else none
  | .call f _, xs => callD P Γ dst gen f xs m
  | .callv _ _, .fn f a b :: xs => if bodied P f = true then callD P Γ dst gen f (a ++ xs ++ b) m else none
  | .nilCheck _, [.pown nm ver i j] => if (liveF m nm ver).isSome ∧ Nat.blt j BX = true then some (.pown nm ver i j, []) else none
  | .nilCheck _, [.pim cs] => some (.pim cs, [])
  | .mkfn f a _, xs => some (.fn f (xs.take a.length) (xs.drop a.length), [])
  | .copy sz _ _, [.own nm ver, y] => copyAt m sz nm ver 0 none y
  | .copy sz _ _, [.sub nm ver lo hi, y] => copyAt m sz nm ver lo (some hi) y
  | .isnil neg _, [.nils] => some (.bool (!neg), [])
  | .isnilI neg _, [.ifc b] => some (.bool ((!b) != neg), [])
  | .isnil neg _, [.nz] => some (.bool neg, [])
  | .isnil neg _, [.list _ (_ :: _)] => some (.bool neg, [])
  | .clear _ _ _, [.nils] => some (.tup [], [])
  | .clear sz z _, [.own nm ver] => clearAt m sz nm ver 0 none z
  | .clear sz z _, [.sub nm ver lo hi] => clearAt m sz nm ver lo (some hi) z
  | .toBytes _ _, [.str s] => some (.list 1 (s.map fun b => [.int .u8 b.toNat]), [])
  | _, _ => none
def put (slots : List (Nat × PV)) (dst : Option Nat) (p : PV) : List (Nat × PV) :=
  match dst with
  | some d => (d, p) :: slots
  | none => slots
def step {P : Program} (Γ : List (Nat × Fact P)) (o : LOper) (st : St) : Option St :=
  let go : Option St := match lxs st.slots o.op.args with
    | none => none
    | some xs => (o.op.act Γ o.dst st.gen xs (look st.mem)).map fun r => { st with slots := put st.slots o.dst r.1, mem := r.2 ++ st.mem }
  match o.guard with
  | none => go
  | some (g, b) => match look st.slots g with
    | some (.bool c) => if c = b then go else some { st with slots := put st.slots o.dst (.tup []) }
    | some (.tup []) => some { st with slots := put st.slots o.dst (.tup []) }
    | _ => none
def steps {P : Program} (Γ : List (Nat × Fact P)) : List LOper → St → Option St
  | [], st => some st
  | o :: r, st => match step Γ o st with
    | some st' => steps Γ r st'
    | none => none
end
end Go.PW
