/-
  PwNorm: a state in its normal form; the run of code up to its loops.
-/
import Derived.Test.YtjmmlddioeehbaaGreatDoorPwFn
namespace Go.PW
open Go.RowKit
noncomputable section
def tokV (mem : List (Nat × Ent)) (ms : List Nat) (nm ver : Nat) : Nat := if (live mem nm ver).isSome = true ∧ ms.contains nm = true then 0 else 1
def t0 (mem : List (Nat × Ent)) (ms : List Nat) : PV → PV
  | .own nm v => .own nm (tokV mem ms nm v)
  | .sub nm v a b => .sub nm (tokV mem ms nm v) a b
  | .pown nm v a b => .pown nm (tokV mem ms nm v) a b
  | .agg _ => .top
  | .tup _ => .top
  | .fn .. => .top
  | p => p
def t1 (mem : List (Nat × Ent)) (ms : List Nat) : PV → PV
  | .fn f a b => .fn f (a.map (t0 mem ms)) (b.map (t0 mem ms))
  | p => t0 mem ms p
def t2 (mem : List (Nat × Ent)) (ms : List Nat) : PV → PV
  | .agg cs => .agg (cs.map (t1 mem ms))
  | p => t1 mem ms p
def t3 (mem : List (Nat × Ent)) (ms : List Nat) : PV → PV
  | .tup cs => .tup (cs.map (t2 mem ms))
  | p => t2 mem ms p
def normEnt (mem : List (Nat × Ent)) (ms : List Nat) (n : Nat) : Option Ent := match look mem n with
  | some e => if e.dead then none else some { e with ver := 0, new := false, es := e.es.map (·.map (t1 mem ms)) }
  | none => none
def normMem (ms : List Nat) (mem : List (Nat × Ent)) : List (Nat × Ent) := ms.filterMap fun n => (normEnt mem ms n).map fun e => (n, e)
def norm (ks ms : List Nat) (st : St) : St := { slots := ks.filterMap fun t => (look st.slots t).map fun p => (t, t3 st.mem ms p), mem := normMem ms st.mem, gen := 2 }
theorem look_fm {β γ : Type} (f : Nat → Option β) (g : β → γ) : ∀ (ks : List Nat) (t : Nat) (p : γ), look (ks.filterMap fun t => (f t).map fun p => (t, g p)) t = some p → t ∈ ks ∧ ∃ q, f t = some q ∧ p = g q
  | [], t, p, h => by simp [look] at h
  | k :: ks, t, p, h => by
    rw [List.filterMap_cons] at h
    cases hk : f k with
    | none =>
      simp only [hk, Option.map_none] at h
      obtain ⟨h1, h2⟩ := look_fm f g ks t p h
      exact ⟨List.mem_cons_of_mem _ h1, h2⟩
    | some q =>
      simp only [hk, Option.map_some, look] at h
      split at h
      · rename_i e; subst e; injection h with h; subst h; exact ⟨by simp, q, hk, rfl⟩
      · obtain ⟨h1, h2⟩ := look_fm f g ks t p h
        exact ⟨List.mem_cons_of_mem _ h1, h2⟩
theorem normMem_look {ms : List Nat} {mem : List (Nat × Ent)} {n : Nat} {e' : Ent} (h : look (normMem ms mem) n = some e') :
    n ∈ ms ∧ ∃ e, look mem n = some e ∧ e.dead = false ∧ e' = { e with ver := 0, new := false, es := e.es.map (·.map (t1 mem ms)) } := by
  obtain ⟨h1, q, h2, h3⟩ := look_fm (normEnt mem ms) id ms n e' h
  subst h3
  refine ⟨h1, ?_⟩
  unfold normEnt at h2
  split at h2
  · rename_i e he
    split at h2
    · cases h2
    · rename_i hd
      injection h2 with h2
      exact ⟨e, he, by simpa using hd, h2.symm⟩
  · cases h2
theorem t1_one {mem : List (Nat × Ent)} {ms : List Nat} {p : PV} (h : p.one = true) : (t1 mem ms p).one = true := by
  cases p <;> first | rfl | simp [PV.one] at h
section
variable {C : Ctx} {ms : List Nat}
def nctx (C : Ctx) (ms : List Nat) : Ctx := { C with mem := normMem ms C.mem, gen := 2 }
theorem nlive {nm v : Nat} {e' : Ent} (h : live (nctx C ms).mem nm v = some e') : v = 0 ∧ nm ∈ ms ∧ ∃ e, look C.mem nm = some e ∧ live C.mem nm e.ver = some e ∧ e' = { e with ver := 0, new := false, es := e.es.map (·.map (t1 C.mem ms)) } := by
  obtain ⟨h1, h2, h3⟩ := live_some.1 h
  obtain ⟨h4, e, h5, h6, rfl⟩ := normMem_look h1
  exact ⟨h2.symm, h4, e, h5, live_some.2 ⟨h5, rfl, h6⟩, rfl⟩
theorem tok_live {nm v : Nat} {e' : Ent} (h : live (nctx C ms).mem nm (tokV C.mem ms nm v) = some e') : ∃ e, live C.mem nm v = some e ∧ e' = { e with ver := 0, new := false, es := e.es.map (·.map (t1 C.mem ms)) } := by
  obtain ⟨h1, h2, e, h3, h4, h5⟩ := nlive h
  unfold tokV at h1
  split at h1
  · rename_i hc
    obtain ⟨x, hx⟩ := Option.isSome_iff_exists.1 hc.1
    have : x = e := by
      have := (live_some.1 hx).1
      rw [h3] at this; injection this with this; exact this.symm
    subst this
    exact ⟨x, hx, h5⟩
  · cases h1
theorem tok_use (nm v : Nat) : usable (nctx C ms).mem (nctx C ms).gen nm (tokV C.mem ms nm v) := by
  refine .inl ?_
  show tokV C.mem ms nm v < 2
  unfold tokV; split <;> omega
theorem nimm {b : Nat} (h : imm C.mem C.hd C.I0 b) : imm (nctx C ms).mem (nctx C ms).hd (nctx C ms).I0 b := by
  refine ⟨h.1, fun nm v e he => ?_⟩
  obtain ⟨_, _, e0, _, h4, _⟩ := nlive he
  exact h.2 nm _ e0 h4
theorem nfree {b : Nat} (h : free C.mem C.hd b) : free (nctx C ms).mem (nctx C ms).hd b := by
  intro nm v e he
  obtain ⟨_, _, e0, _, h4, _⟩ := nlive he
  exact h nm _ e0 h4
theorem ndv {v : Value} {p : PV} (h : DV C.w (imm C.mem C.hd C.I0) v p) : DV (nctx C ms).w (imm (nctx C ms).mem (nctx C ms).hd (nctx C ms).I0) v p :=
  h.mono (Nat.le_refl _) fun _ _ hi => ⟨nimm hi, rfl⟩
theorem t0_dv {w : World} {I : Nat → Prop} {mem : List (Nat × Ent)} {v : Value} {p : PV} (h : DV w I v p) : DV w I v (t0 mem ms p) := by
  cases p with
  | own => cases h
  | sub => cases h
  | pown => cases h
  | agg => exact .top _
  | tup => exact .top _
  | fn => exact .top _
  | _ => exact h
theorem t1_dv {w : World} {I : Nat → Prop} {mem : List (Nat × Ent)} {v : Value} {p : PV} (h : DV w I v p) : DV w I v (t1 mem ms p) := by
  cases p with
  | fn f a b =>
    cases h with
    | fn _ vf vc _ _ h1 h2 h3 h4 =>
      refine .fn f vf vc _ _ (by simpa using h1) (by simpa using h2) (fun j u q g1 g2 => ?_) fun j u q g1 g2 => ?_
      · rw [List.getElem?_map, Option.map_eq_some_iff] at g2
        obtain ⟨q', g3, rfl⟩ := g2
        exact t0_dv (h3 j u q' g1 g3)
      · rw [List.getElem?_map, Option.map_eq_some_iff] at g2
        obtain ⟨q', g3, rfl⟩ := g2
        exact t0_dv (h4 j u q' g1 g3)
  | _ => exact t0_dv (mem := mem) (ms := ms) h
theorem t0_rv {v : Value} {p : PV} (h : RV C v p) : RV (nctx C ms) v (t0 C.mem ms p) := by
  cases p with
  | own nm ver =>
    refine .own nm _ v h.own_inv.2.1 (tok_use nm ver) fun e' he => ?_
    obtain ⟨e, h1, _⟩ := tok_live he
    exact h.own_inv.2.2 e h1
  | sub nm ver lo hi =>
    refine .sub nm _ lo hi v h.sub_inv.2.1 (tok_use nm ver) fun e' he => ?_
    obtain ⟨e, h1, rfl⟩ := tok_live he
    have := h.sub_inv.2.2 e h1
    simp only [List.length_map]
    exact this
  | pown nm ver i j =>
    refine .pown nm _ i j v h.pown_inv.2.1 (tok_use nm ver) fun e' he => ?_
    obtain ⟨e, h1, rfl⟩ := tok_live he
    exact h.pown_inv.2.2 e h1
  | agg => exact .data _ _ (.top _)
  | tup => exact .data _ _ (.top _)
  | fn => exact .data _ _ (.top _)
  | top => exact .data _ _ (.top _)
  | _ => cases h with | data _ _ h => exact .data _ _ (ndv h)
theorem t1_rv {v : Value} {p : PV} (h : RV C v p) : RV (nctx C ms) v (t1 C.mem ms p) := by
  cases p with
  | fn f a b =>
    cases h with
    | data _ _ h => exact .data _ _ (t1_dv (ndv h))
    | fn _ vf vc _ _ h1 h2 h3 h4 =>
      refine .fn f vf vc _ _ (by simpa using h1) (by simpa using h2) (fun j u q g1 g2 => ?_) fun j u q g1 g2 => ?_
      · rw [List.getElem?_map, Option.map_eq_some_iff] at g2
        obtain ⟨q', g3, rfl⟩ := g2
        exact t0_rv (h3 j u q' g1 g3)
      · rw [List.getElem?_map, Option.map_eq_some_iff] at g2
        obtain ⟨q', g3, rfl⟩ := g2
        exact t0_rv (h4 j u q' g1 g3)
  | _ => exact t0_rv h
theorem t2_rv {v : Value} {p : PV} (h : RV C v p) : RV (nctx C ms) v (t2 C.mem ms p) := by
  cases p with
  | agg cs =>
    obtain ⟨vs, rfl, hl, ho, hv⟩ := h.agg_inv
    refine .agg vs _ (by simpa using hl) (fun q hq => ?_) fun j u q g1 g2 => ?_
    · rw [List.mem_map] at hq
      obtain ⟨q', h1, rfl⟩ := hq
      exact t1_one (ho q' h1)
    · rw [List.getElem?_map, Option.map_eq_some_iff] at g2
      obtain ⟨q', g3, rfl⟩ := g2
      exact t1_rv (hv j u q' g1 g3)
  | _ => exact t1_rv h
theorem t3_rv {v : Value} {p : PV} (h : RV C v p) : RV (nctx C ms) v (t3 C.mem ms p) := by
  cases p with
  | tup cs =>
    obtain ⟨vs, rfl, hl, hv⟩ := h.tup_inv
    refine .tup vs _ (by simpa using hl) fun j u q g1 g2 => ?_
    rw [List.getElem?_map, Option.map_eq_some_iff] at g2
    obtain ⟨q', g3, rfl⟩ := g2
    exact t2_rv (hv j u q' g1 g3)
  | _ => exact t2_rv h
end
theorem Wk.norm (ks ms : List Nat) (st : St) : Wk st (norm ks ms st) := by
  intro w0 I0 N a w hd R
  have M := R.mem
  refine ⟨hd, ⟨⟨M.i0, M.glob.mono (Nat.le_refl _) fun b _ hi => ⟨⟨hi.1, nfree (C := { w, mem := st.mem, hd, gen := st.gen, I0 := fun b => I0 b ∨ w0.w.heap.size ≤ b, gh := I0.gh }) hi.2⟩, rfl⟩, M.below, fun nm e he => ?_, fun nm ver e he => ?_, fun nm nm' ver ver' e e' b hne he he' hb => ?_, fun nm ver e b he hb => ?_⟩, R.defers, R.size, R.top, fun t p ht => ?_, fun b o e => ⟨(R.frame b o e).1, (R.frame b o e).2.1, nfree (C := { w, mem := st.mem, hd, gen := st.gen, I0 := fun b => I0 b ∨ w0.w.heap.size ≤ b, gh := I0.gh }) (R.frame b o e).2.2⟩⟩⟩
  · obtain ⟨_, e0, _, _, rfl⟩ := normMem_look he
    exact ⟨fun h => by simp at h, fun _ => by simp [PW.norm]⟩
  · obtain ⟨_, _, e0, _, h4, rfl⟩ := nlive (C := { w, mem := st.mem, hd, gen := st.gen, I0 := fun b => I0 b ∨ w0.w.heap.size ≤ b, gh := I0.gh }) he
    obtain ⟨xs, ho, hbig, hc⟩ := M.rows nm _ e0 h4
    refine ⟨xs, by simpa using ho, by simpa using hbig, fun i cs hi => ?_⟩
    simp only [List.getElem?_map, Option.map_eq_some_iff] at hi
    obtain ⟨cs0, h5, rfl⟩ := hi
    obtain ⟨c1, c2, c3⟩ := hc i cs0 h5
    refine ⟨by simpa using c1, fun p hp => ?_, fun j p hj => ?_⟩
    · rw [List.mem_map] at hp
      obtain ⟨p', h6, rfl⟩ := hp
      exact t1_one (c2 p' h6)
    · rw [List.getElem?_map, Option.map_eq_some_iff] at hj
      obtain ⟨p', h6, rfl⟩ := hj
      obtain ⟨u, a1, a2, a3⟩ := c3 j p' h6
      exact ⟨u, a1, t1_rv a2, fun hd => t1_dv (ndv (a3 hd))⟩
  · obtain ⟨_, _, e0, _, h4, rfl⟩ := nlive (C := { w, mem := st.mem, hd, gen := st.gen, I0 := fun b => I0 b ∨ w0.w.heap.size ≤ b, gh := I0.gh }) he
    obtain ⟨_, _, e1, _, h5, rfl⟩ := nlive (C := { w, mem := st.mem, hd, gen := st.gen, I0 := fun b => I0 b ∨ w0.w.heap.size ≤ b, gh := I0.gh }) he'
    exact M.apart nm nm' _ _ e0 e1 b hne h4 h5 hb
  · obtain ⟨_, _, e0, _, h4, rfl⟩ := nlive (C := { w, mem := st.mem, hd, gen := st.gen, I0 := fun b => I0 b ∨ w0.w.heap.size ≤ b, gh := I0.gh }) he
    exact M.own0 nm _ e0 b h4 hb
  · obtain ⟨_, q, h1, rfl⟩ := look_fm (look st.slots) (t3 st.mem ms) ks t p ht
    exact ⟨(R.slot t q h1).1, t3_rv (R.slot t q h1).2⟩
def run (P : Program) (N : Nat) (Γ : List (Nat × Fact P)) : LCode → St → (Ex → St → Prop) → Prop
  | .skip, st, Q => Q .normal st
  | .reg g, st, Q => wpS (runReg Γ g st) (Q .normal)
  | .seq a b, st, Q => run P N Γ a st (Ex.then (fun s => run P N Γ b s Q) Q)
  | .cond l a b, st, Q => match lx st.slots l with
    | some (.bool c) => (c = true → run P N Γ a st Q) ∧ (c = false → run P N Γ b st Q)
    | _ => False
  | .block id c, st, Q => run P N Γ c st (Ex.inBlock id Q)
  | .loop c, st, Q => Ev P N (.loop c) st Q
  | .exit id, st, Q => Q (.exit id) st
  | .ret, st, Q => Q .ret st
end
end Go.PW
