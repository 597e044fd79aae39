/-
  PwCore: abstract values ('PV'), what it means that a value of the model is one of them ('DV': data; 'RV': data or a thing of the call's own).
-/
import Derived.Calls
import Derived.Orders
import Derived.Below
import Derived.Maps.AppendAt
import Derived.Laws.MakeOwn
namespace Go.PW
open Go.RowKit
inductive PV where
  | top
  | int (k : IntKind) (n : Int)
  | bool (b : Bool)
  | str (s : List UInt8)
  | nils
  | nz
  | list (sz : Nat) (es : List (List PV))
  | agg (cs : List PV)
  | tup (vs : List PV)
  | pnil
  | fnil
  | ifc (b : Bool)
  | anyi
  | pim (cs : List PV)
  | own (nm ver : Nat)
  | sub (nm ver lo hi : Nat)
  | pown (nm ver i j : Nat)
  | fn (f : FuncId) (first caps : List PV)
  deriving Inhabited
def PV.one : PV → Bool
  | .top | .agg _ | .tup _ => false
  | _ => true
def PV.isD : PV → Bool
  | .int .. | .bool _ | .str _ | .nils | .nz | .list .. | .pnil | .fnil | .ifc _ | .anyi => true
  | _ => false
def big : Nat := 140737488355328
inductive DV (w : World) (I : Nat → Prop) : Value → PV → Prop
  | top (v : Value) : DV w I v .top
  | int (k : IntKind) (n : Int) : DV w I (.int k n) (.int k n)
  | bool (b : Bool) : DV w I (.bool b) (.bool b)
  | str (l : List UInt8) (h : l.length ≤ big) : DV w I (.string ⟨l.toArray⟩) (.str l)
  | nils : DV w I (.slice none 0 0) .nils
  | nz (ad : Addr) (c : Nat) : DV w I (.slice (some ad) 0 c) .nz
  | list0 (a : Option Addr) (c sz : Nat) (h0 : a = none → c = 0) : DV w I (.slice a 0 c) (.list sz [])
  | list (ad : Addr) (c sz : Nat) (es : List (List PV)) (f : Nat → Nat → Value)
      (hc : es.length ≤ c) (hb : es.length ≤ big) (hI : I ad.block) (hlt : ad.block < w.heap.size)
      (hsz : ∀ (i : Nat) (cs : List PV), es[i]? = some cs → cs.length = sz ∧ ∀ p ∈ cs, p.one = true)
      (hcell : ∀ (i : Nat) (cs : List PV) (j : Nat) (p : PV), es[i]? = some cs → cs[j]? = some p → w.cell? (ad.add (i * sz + j)) = some (f i j))
      (hval : ∀ (i : Nat) (cs : List PV) (j : Nat) (p : PV), es[i]? = some cs → cs[j]? = some p → DV w I (f i j) p) :
      DV w I (.slice (some ad) es.length c) (.list sz es)
  | agg (vs : Array Value) (cs : List PV) (hl : vs.size = cs.length)
      (hone : ∀ p ∈ cs, p.one = true)
      (hval : ∀ (j : Nat) (v : Value) (p : PV), vs[j]? = some v → cs[j]? = some p → DV w I v p) : DV w I (.agg vs) (.agg cs)
  | tup (vs : Array Value) (cs : List PV) (hl : vs.size = cs.length)
      (hval : ∀ (j : Nat) (v : Value) (p : PV), vs[j]? = some v → cs[j]? = some p → DV w I v p) : DV w I (.tuple vs) (.tup cs)
  | pnil : DV w I (.pointer none) .pnil
  | fnil : DV w I .nilFunc .fnil
  | nilI : DV w I .nilIface (.ifc false)
  | iface (t : TypeId) (v : Value) : DV w I (.iface t v) (.ifc true)
  | anyi (n : Int) : DV w I (.int .i64 n) .anyi
  | pim (ad : Addr) (cs : List PV) (f : Nat → Value) (hI : I ad.block) (hlt : ad.block < w.heap.size)
      (hone : ∀ p ∈ cs, p.one = true)
      (hcell : ∀ (j : Nat) (p : PV), cs[j]? = some p → w.cell? (ad.add j) = some (f j))
      (hval : ∀ (j : Nat) (p : PV), cs[j]? = some p → DV w I (f j) p) : DV w I (.pointer (some ad)) (.pim cs)
  | fn (f : FuncId) (vf vc : Array Value) (first caps : List PV) (hlf : vf.size = first.length) (hlc : vc.size = caps.length)
      (hf : ∀ (j : Nat) (v : Value) (p : PV), vf[j]? = some v → first[j]? = some p → DV w I v p)
      (hc : ∀ (j : Nat) (v : Value) (p : PV), vc[j]? = some v → caps[j]? = some p → DV w I v p) : DV w I (.func (.func f) vf vc) (.fn f first caps)
theorem DV.list0if {w : World} {I : Nat → Prop} {ad : Option Addr} {c k sz : Nat} {f : Addr → Addr} (h0 : ad = none → c = 0) : DV w I (.slice (if c = k then ad else Option.map f ad) 0 (c - k)) (.list sz []) :=
  .list0 _ _ _ fun e => by
    have : ad = none := by
      split at e
      · exact e
      · simpa using e
    have := h0 this
    omega
theorem block_add (a : Addr) (n : Nat) : (a.add n).block = a.block := by unfold Addr.add; split <;> rfl
theorem add_add (a : Addr) (i j : Nat) : (a.add i).add j = a.add (i + j) := by
  unfold Addr.add
  by_cases hi : i = 0 <;> by_cases hj : j = 0 <;> simp [hi, hj, Nat.add_assoc]
theorem DV.mono {w w' : World} {I I' : Nat → Prop} (hs : w.heap.size ≤ w'.heap.size) (hI : ∀ b, b < w.heap.size → I b → I' b ∧ w'.heap[b]? = w.heap[b]?)
    {v : Value} {p : PV} (h : DV w I v p) : DV w' I' v p := by
  have hcl : ∀ {a : Addr} {u : Value}, a.block < w.heap.size → I a.block → w.cell? a = some u → w'.cell? a = some u := by
    intro a u hlt hi hc
    rw [World.cell?_of_block (hI _ hlt hi).2]; exact hc
  induction h with
  | top v => exact .top v
  | int k n => exact .int k n
  | bool b => exact .bool b
  | str l h => exact .str l h
  | nils => exact .nils
  | nz ad c => exact .nz ad c
  | list0 a c sz h0 => exact .list0 a c sz h0
  | list ad c sz es f hc hb hi hlt hsz hcell _ ih =>
    exact .list ad c sz es f hc hb (hI _ hlt hi).1 (by omega) hsz (fun i cs j p h1 h2 => hcl (by rw [block_add]; exact hlt) (by rw [block_add]; exact hi) (hcell i cs j p h1 h2)) ih
  | agg vs cs hl ho _ ih => exact .agg vs cs hl ho ih
  | tup vs cs hl _ ih => exact .tup vs cs hl ih
  | pnil => exact .pnil
  | fnil => exact .fnil
  | nilI => exact .nilI
  | iface t v => exact .iface t v
  | anyi n => exact .anyi n
  | pim ad cs f hi hlt ho hcell _ ih =>
    exact .pim ad cs f (hI _ hlt hi).1 (by omega) ho (fun j p h1 => hcl (by rw [block_add]; exact hlt) (by rw [block_add]; exact hi) (hcell j p h1)) ih
  | fn f vf vc first caps h1 h2 _ _ ih1 ih2 => exact .fn f vf vc first caps h1 h2 ih1 ih2
structure Ent where
  ver : Nat
  elem : TypeId
  sz : Nat
  es : List (List PV)
  data : Bool
  new : Bool
  dead : Bool
def look {α : Type} : List (Nat × α) → Nat → Option α
  | [], _ => none
  | (k, v) :: r, n => if k = n then some v else look r n
def live (mem : List (Nat × Ent)) (nm ver : Nat) : Option Ent :=
  match look mem nm with
  | some e => if e.ver = ver ∧ e.dead = false then some e else none
  | none => none
def usable (mem : List (Nat × Ent)) (gen nm ver : Nat) : Prop := ver < gen ∨ (ver = gen ∧ ∃ e, look mem nm = some e ∧ e.new = true)
def free (mem : List (Nat × Ent)) (hd : Nat → Value) (b : Nat) : Prop := ∀ nm ver e, live mem nm ver = some e → (hd nm).ownBlock ≠ some b
def imm (mem : List (Nat × Ent)) (hd : Nat → Value) (I0 : Nat → Prop) (b : Nat) : Prop :=
  I0 b ∧ ∀ nm ver e, live mem nm ver = some e → (hd nm).ownBlock ≠ some b
def subHdr (hd : Value) (sz n lo hi : Nat) (v : Value) : Prop :=
  match hd with
  | .slice a _ c => lo ≤ hi ∧ hi ≤ n ∧ v = .slice (if c = lo then a else a.map (·.add (lo * sz))) (hi - lo) (c - lo)
  | _ => False
def BX : Nat := 281474976710656
def pownHdr (hd : Value) (sz i j : Nat) (v : Value) : Prop :=
  match hd with
  | .slice (some a) n c => if i = BX ∧ j = BX then n = 1 ∧ c = 1 ∧ (v = .pointer none ∨ v = .pointer (some a)) else v = .pointer (some (a.add (i * sz + j)))
  | _ => False
structure Ctx where
  w : World
  mem : List (Nat × Ent)
  hd : Nat → Value
  gen : Nat
  I0 : Nat → Prop
  gh : Nat → Value
inductive RV (C : Ctx) : Value → PV → Prop
  | data (v : Value) (p : PV) (h : DV C.w (imm C.mem C.hd C.I0) v p) : RV C v p
  | own (nm ver : Nat) (v : Value) (h1 : v.oneCell' = true) (hu : usable C.mem C.gen nm ver) (h : ∀ e, live C.mem nm ver = some e → v = C.hd nm) : RV C v (.own nm ver)
  | sub (nm ver lo hi : Nat) (v : Value) (h1 : v.oneCell' = true) (hu : usable C.mem C.gen nm ver) (h : ∀ e, live C.mem nm ver = some e → subHdr (C.hd nm) e.sz e.es.length lo hi v) : RV C v (.sub nm ver lo hi)
  | pown (nm ver i j : Nat) (v : Value) (h1 : v.oneCell' = true) (hu : usable C.mem C.gen nm ver) (h : ∀ e, live C.mem nm ver = some e → pownHdr (C.hd nm) e.sz i j v) : RV C v (.pown nm ver i j)
  | agg (vs : Array Value) (cs : List PV) (hl : vs.size = cs.length)
      (hone : ∀ p ∈ cs, p.one = true)
      (hval : ∀ (j : Nat) (v : Value) (p : PV), vs[j]? = some v → cs[j]? = some p → RV C v p) : RV C (.agg vs) (.agg cs)
  | tup (vs : Array Value) (cs : List PV) (hl : vs.size = cs.length)
      (hval : ∀ (j : Nat) (v : Value) (p : PV), vs[j]? = some v → cs[j]? = some p → RV C v p) : RV C (.tuple vs) (.tup cs)
  | fn (f : FuncId) (vf vc : Array Value) (first caps : List PV) (hlf : vf.size = first.length) (hlc : vc.size = caps.length)
      (hf : ∀ (j : Nat) (v : Value) (p : PV), vf[j]? = some v → first[j]? = some p → RV C v p)
      (hc : ∀ (j : Nat) (v : Value) (p : PV), vc[j]? = some v → caps[j]? = some p → RV C v p) : RV C (.func (.func f) vf vc) (.fn f first caps)
structure Later (C C' : Ctx) : Prop where
  size : C.w.heap.size ≤ C'.w.heap.size
  use_ : ∀ nm ver, usable C.mem C.gen nm ver → usable C'.mem C'.gen nm ver
  live_ : ∀ nm ver e', usable C.mem C.gen nm ver → live C'.mem nm ver = some e' → ∃ e, live C.mem nm ver = some e ∧ e.sz = e'.sz ∧ e.es.length = e'.es.length ∧ C'.hd nm = C.hd nm
  reach_ : ∀ b, C.I0 b → C'.I0 b
  free_ : ∀ b, b < C.w.heap.size → free C.mem C.hd b → free C'.mem C'.hd b ∧ C'.w.heap[b]? = C.w.heap[b]?
theorem Later.imm_ {C C' : Ctx} (L : Later C C') (b : Nat) (h : b < C.w.heap.size) (hi : imm C.mem C.hd C.I0 b) : imm C'.mem C'.hd C'.I0 b ∧ C'.w.heap[b]? = C.w.heap[b]? :=
  ⟨⟨L.reach_ b hi.1, (L.free_ b h hi.2).1⟩, (L.free_ b h hi.2).2⟩
theorem Later.dv {C C' : Ctx} (L : Later C C') {v : Value} {p : PV} (h : DV C.w (PW.imm C.mem C.hd C.I0) v p) : DV C'.w (PW.imm C'.mem C'.hd C'.I0) v p :=
  h.mono L.size L.imm_
theorem Later.rv {C C' : Ctx} (L : Later C C') {v : Value} {p : PV} (h : RV C v p) : RV C' v p := by
  induction h with
  | data v p h => exact .data v p (L.dv h)
  | own nm ver v h1 hu h =>
    refine .own nm ver v h1 (L.use_ _ _ hu) fun e' he' => ?_
    obtain ⟨e, he, _, _, hh⟩ := L.live_ nm ver e' hu he'
    rw [hh]; exact h e he
  | sub nm ver lo hi v h1 hu h =>
    refine .sub nm ver lo hi v h1 (L.use_ _ _ hu) fun e' he' => ?_
    obtain ⟨e, he, hs, hn, hh⟩ := L.live_ nm ver e' hu he'
    rw [hh, ← hs, ← hn]; exact h e he
  | pown nm ver i j v h1 hu h =>
    refine .pown nm ver i j v h1 (L.use_ _ _ hu) fun e' he' => ?_
    obtain ⟨e, he, hs, _, hh⟩ := L.live_ nm ver e' hu he'
    rw [hh, ← hs]; exact h e he
  | agg vs cs hl ho _ ih => exact .agg vs cs hl ho ih
  | tup vs cs hl _ ih => exact .tup vs cs hl ih
  | fn f vf vc first caps h1 h2 _ _ ih1 ih2 => exact .fn f vf vc first caps h1 h2 ih1 ih2
theorem DV.oneCell {w : World} {I : Nat → Prop} {v : Value} {p : PV} (h : DV w I v p) (hp : p.one = true) : v.oneCell' = true := by
  cases h <;> first | rfl | simp [PV.one] at hp
theorem RV.oneCell {C : Ctx} {v : Value} {p : PV} (h : RV C v p) (hp : p.one = true) : v.oneCell' = true := by
  cases h with
  | data _ _ h => exact h.oneCell hp
  | own _ _ _ h1 _ _ => exact h1
  | sub _ _ _ _ _ h1 _ _ => exact h1
  | pown _ _ _ _ _ h1 _ _ => exact h1
  | agg => simp [PV.one] at hp
  | tup => simp [PV.one] at hp
  | fn => rfl
theorem RV.isD {C : Ctx} {v : Value} {p : PV} (h : RV C v p) (hp : p.isD = true) : DV C.w (imm C.mem C.hd C.I0) v p := by
  cases h with
  | data _ _ h => exact h
  | _ => simp [PV.isD] at hp
theorem Later.refl (C : Ctx) : Later C C := ⟨Nat.le_refl _, fun _ _ h => h, fun _ _ e _ h => ⟨e, h, rfl, rfl, rfl⟩, fun _ h => h, fun _ _ h => ⟨h, rfl⟩⟩
def RowOk (B : Nat) (C : Ctx) (nm : Nat) (e : Ent) : Prop :=
  ∃ xs, C.w.ownsRow B e.elem e.sz (C.hd nm) e.es.length xs ∧ e.es.length ≤ big ∧
    ∀ (i : Nat) (cs : List PV), e.es[i]? = some cs → cs.length = e.sz ∧ (∀ p ∈ cs, p.one = true) ∧
      ∀ (j : Nat) (p : PV), cs[j]? = some p → ∃ v, xs[i * e.sz + j]? = some v ∧ RV C v p ∧ (e.data = true → DV C.w (imm C.mem C.hd C.I0) v p)
structure Base where
  w : World
  B : Nat
  hB : B ≤ w.heap.size
def globs : List (Nat × List PV) := [(0, [.anyi]), (1, [.int .u64 1, .int .u64 10, .int .u64 100, .int .u64 1000, .int .u64 10000, .int .u64 100000, .int .u64 1000000, .int .u64 10000000, .int .u64 100000000, .int .u64 1000000000, .int .u64 10000000000, .int .u64 100000000000, .int .u64 1000000000000, .int .u64 10000000000000, .int .u64 100000000000000, .int .u64 1000000000000000, .int .u64 10000000000000000, .int .u64 100000000000000000, .int .u64 1000000000000000000, .int .u64 10000000000000000000]), (2, [.ifc true]), (3, [.ifc true])]
def Exact (w : World) (g n : Nat) : Prop := ∃ vs t fr, w.heap[g]? = some (.cells vs t fr) ∧ vs.size = n
def Glob (w : World) (I : Nat → Prop) : Prop := ∀ g cs, look globs g = some cs → DV w I (.pointer (some ⟨g, 0, none⟩)) (.pim cs) ∧ Exact w g cs.length
theorem Glob.mono {w w' : World} {I I' : Nat → Prop} (h : Glob w I) (hs : w.heap.size ≤ w'.heap.size) (hI : ∀ b, b < w.heap.size → I b → I' b ∧ w'.heap[b]? = w.heap[b]?) : Glob w' I' := by
  intro g cs hg
  obtain ⟨hd, vs, t, fr, e1, e2⟩ := h g cs hg
  refine ⟨hd.mono hs hI, vs, t, fr, ?_, e2⟩
  cases hd with
  | pim ad _ f hi hlt _ _ _ => rw [(hI _ hlt hi).2]; exact e1
theorem Later.globs {C C' : Ctx} (L : Later C C') (h : Glob C.w (imm C.mem C.hd C.I0)) : Glob C'.w (imm C'.mem C'.hd C'.I0) := h.mono L.size L.imm_
structure MemInv (w0 : Base) (C : Ctx) : Prop where
  i0 : ∀ b, w0.w.heap.size ≤ b → C.I0 b
  glob : Glob C.w (imm C.mem C.hd C.I0)
  below : Below w0.B w0.w C.w
  vers : ∀ nm e, look C.mem nm = some e → (e.new = true → e.ver = C.gen) ∧ (e.new = false → e.ver < C.gen)
  rows : ∀ nm ver e, live C.mem nm ver = some e → RowOk w0.B C nm e
  apart : ∀ nm nm' ver ver' e e' b, nm ≠ nm' → live C.mem nm ver = some e → live C.mem nm' ver' = some e' → (C.hd nm).ownBlock = some b → (C.hd nm').ownBlock ≠ some b
  own0 : ∀ nm ver e b, live C.mem nm ver = some e → (C.hd nm).ownBlock = some b → C.I0 b
def m0 (tk : Nat → Nat → Nat × Nat) : PV → PV
  | .own nm v => .own (tk nm v).1 (tk nm v).2
  | .sub nm v a b => .sub (tk nm v).1 (tk nm v).2 a b
  | .pown nm v a b => .pown (tk nm v).1 (tk nm v).2 a b
  | .agg _ => .top
  | .tup _ => .top
  | .fn .. => .top
  | p => p
def mc (tk : Nat → Nat → Nat × Nat) : PV → PV
  | .fn f a b => .fn f (a.map (m0 tk)) (b.map (m0 tk))
  | .agg cs => if cs.all fun p => (m0 tk p).one then .agg (cs.map (m0 tk)) else .top
  | p => m0 tk p
def m1 (tk : Nat → Nat → Nat × Nat) : PV → PV
  | .fn f a b => .fn f (a.map (mc tk)) (b.map (mc tk))
  | p => m0 tk p
def m2 (tk : Nat → Nat → Nat × Nat) : PV → PV
  | .agg cs => .agg (cs.map (m1 tk))
  | p => m1 tk p
def m3 (tk : Nat → Nat → Nat × Nat) : PV → PV
  | .tup cs => .tup (cs.map (m2 tk))
  | p => m2 tk p
def ok0 (ns : List Nat) : PV → Bool
  | .own n v | .sub n v _ _ | .pown n v _ _ => v == 0 && ns.contains n
  | .agg _ | .tup _ | .fn .. => false
  | _ => true
def okc (ns : List Nat) : PV → Bool
  | .fn _ a b => a.all (ok0 ns) && b.all (ok0 ns)
  | .agg cs => cs.all fun p => ok0 ns p && p.one
  | p => ok0 ns p
def ok1 (ns : List Nat) : PV → Bool
  | .fn _ a b => a.all (okc ns) && b.all (okc ns)
  | p => ok0 ns p
def ok2 (ns : List Nat) : PV → Bool
  | .agg cs => cs.all (ok1 ns)
  | p => ok1 ns p
def ok3 (ns : List Nat) : PV → Bool
  | .tup cs => cs.all (ok2 ns)
  | p => ok2 ns p
def PMut (P : Program) (f : FuncId) (args : List PV) (mem : List (Nat × Ent)) (res : PV) (mem' : List (Nat × Ent)) : Prop :=
  ∀ (w : World) (hd : Nat → Value) (I : Nat → Prop) (gh : Nat → Value) (vs : List Value), MemInv ⟨w, 0, Nat.zero_le _⟩ ⟨w, mem, hd, 2, fun b => I b ∨ w.heap.size ≤ b, gh⟩ →
    vs.length = args.length → (∀ (j : Nat) (v : Value) (p : PV), vs[j]? = some v → args[j]? = some p → RV ⟨w, mem, hd, 2, fun b => I b ∨ w.heap.size ≤ b, gh⟩ v p) →
    Calls P f vs.toArray w fun e w' => ∃ v hd', e = .returned v ∧ MemInv ⟨w, 0, Nat.zero_le _⟩ ⟨w', mem', hd', 2, fun b => I b ∨ w.heap.size ≤ b, gh⟩ ∧ RV ⟨w', mem', hd', 2, fun b => I b ∨ w.heap.size ≤ b, gh⟩ v res ∧
      (∀ nm e e', live mem nm 0 = some e → live mem' nm 0 = some e' → hd' nm = hd nm) ∧
      ∀ b, b < w.heap.size → free mem hd b → free mem' hd' b ∧ w'.heap[b]? = w.heap[b]?
end Go.PW
