/-
  PwMove: rows renamed, rows that become data, and other changes of a state that cost nothing.
-/
import Derived.LoopN
import Derived.Test.YtjmmlddioeehbaaGreatDoorPwWalk
namespace Go.PW
open Go.RowKit
noncomputable section
def lc (g : PV → PV) : PV → PV
  | .fn f a b => .fn f (a.map g) (b.map g)
  | .agg cs => if cs.all fun p => (g p).one then .agg (cs.map g) else .top
  | p => g p
def l1 (g : PV → PV) : PV → PV
  | .fn f a b => .fn f (a.map (lc g)) (b.map (lc g))
  | p => g p
def l2 (g : PV → PV) : PV → PV
  | .agg cs => .agg (cs.map (l1 g))
  | p => l1 g p
def l3 (g : PV → PV) : PV → PV
  | .tup cs => .tup (cs.map (l2 g))
  | p => l2 g p
section
variable {C C' : Ctx} {g : PV → PV}
theorem l1_one (h1 : ∀ p : PV, p.one = true → (g p).one = true) {p : PV} (h : p.one = true) : (l1 g p).one = true := by
  cases p <;> first | rfl | exact h1 _ h
theorem lc_rv (h0 : ∀ v p, RV C v p → RV C' v (g p)) {v : Value} {p : PV} (h : RV C v p) : RV C' v (lc g p) := by
  cases p with
  | fn f a b =>
    have key : ∃ vf vc : Array Value, v = .func (.func f) vf vc ∧ vf.size = a.length ∧ vc.size = b.length ∧
        (∀ (j : Nat) (u : Value) (q : PV), vf[j]? = some u → a[j]? = some q → RV C u q) ∧ (∀ (j : Nat) (u : Value) (q : PV), vc[j]? = some u → b[j]? = some q → RV C u q) := by
      cases h with
      | data _ _ h => cases h with | fn _ vf vc _ _ h1 h2 h3 h4 => exact ⟨vf, vc, rfl, h1, h2, fun j u q g1 g2 => .data _ _ (h3 j u q g1 g2), fun j u q g1 g2 => .data _ _ (h4 j u q g1 g2)⟩
      | fn _ vf vc _ _ h1 h2 h3 h4 => exact ⟨vf, vc, rfl, h1, h2, h3, h4⟩
    obtain ⟨vf, vc, rfl, h1, h2, h3, h4⟩ := key
    refine .fn f vf vc _ _ (by simpa using h1) (by simpa using h2) (fun j u q g1 g2 => ?_) fun j u q g1 g2 => ?_
    · rw [List.getElem?_map, Option.map_eq_some_iff] at g2
      obtain ⟨q', g3, rfl⟩ := g2
      exact h0 _ _ (h3 j u q' g1 g3)
    · rw [List.getElem?_map, Option.map_eq_some_iff] at g2
      obtain ⟨q', g3, rfl⟩ := g2
      exact h0 _ _ (h4 j u q' g1 g3)
  | agg cs =>
    obtain ⟨vs, rfl, hl, hone, hv⟩ := h.agg_inv
    simp only [lc]
    split
    · rename_i hall
      refine .agg vs _ (by simpa using hl) (fun q hq => ?_) fun j u q g1 g2 => ?_
      · rw [List.mem_map] at hq
        obtain ⟨q', h1, rfl⟩ := hq
        exact List.all_eq_true.1 hall q' h1
      · rw [List.getElem?_map, Option.map_eq_some_iff] at g2
        obtain ⟨q', g3, rfl⟩ := g2
        exact h0 _ _ (hv j u q' g1 g3)
    · exact .data _ _ (.top _)
  | _ => exact h0 _ _ h
theorem l1_rv (h0 : ∀ v p, RV C v p → RV C' v (g p)) {v : Value} {p : PV} (h : RV C v p) : RV C' v (l1 g p) := by
  cases p with
  | fn f a b =>
    have key : ∃ vf vc : Array Value, v = .func (.func f) vf vc ∧ vf.size = a.length ∧ vc.size = b.length ∧
        (∀ (j : Nat) (u : Value) (q : PV), vf[j]? = some u → a[j]? = some q → RV C u q) ∧ (∀ (j : Nat) (u : Value) (q : PV), vc[j]? = some u → b[j]? = some q → RV C u q) := by
      cases h with
      | data _ _ h => cases h with | fn _ vf vc _ _ h1 h2 h3 h4 => exact ⟨vf, vc, rfl, h1, h2, fun j u q g1 g2 => .data _ _ (h3 j u q g1 g2), fun j u q g1 g2 => .data _ _ (h4 j u q g1 g2)⟩
      | fn _ vf vc _ _ h1 h2 h3 h4 => exact ⟨vf, vc, rfl, h1, h2, h3, h4⟩
    obtain ⟨vf, vc, rfl, h1, h2, h3, h4⟩ := key
    refine .fn f vf vc _ _ (by simpa using h1) (by simpa using h2) (fun j u q g1 g2 => ?_) fun j u q g1 g2 => ?_
    · rw [List.getElem?_map, Option.map_eq_some_iff] at g2
      obtain ⟨q', g3, rfl⟩ := g2
      exact lc_rv h0 (h3 j u q' g1 g3)
    · rw [List.getElem?_map, Option.map_eq_some_iff] at g2
      obtain ⟨q', g3, rfl⟩ := g2
      exact lc_rv h0 (h4 j u q' g1 g3)
  | _ => exact h0 _ _ h
theorem l2_rv (h1 : ∀ p : PV, p.one = true → (g p).one = true) (h0 : ∀ v p, RV C v p → RV C' v (g p)) {v : Value} {p : PV} (h : RV C v p) : RV C' v (l2 g p) := by
  cases p with
  | agg cs =>
    obtain ⟨vs, rfl, hl, ho, hv⟩ := h.agg_inv
    refine .agg vs _ (by simpa using hl) (fun q hq => ?_) fun j u q g1 g2 => ?_
    · rw [List.mem_map] at hq
      obtain ⟨q', h2, rfl⟩ := hq
      exact l1_one h1 (ho q' h2)
    · rw [List.getElem?_map, Option.map_eq_some_iff] at g2
      obtain ⟨q', g3, rfl⟩ := g2
      exact l1_rv h0 (hv j u q' g1 g3)
  | _ => exact l1_rv h0 h
theorem l3_rv (h1 : ∀ p : PV, p.one = true → (g p).one = true) (h0 : ∀ v p, RV C v p → RV C' v (g p)) {v : Value} {p : PV} (h : RV C v p) : RV C' v (l3 g p) := by
  cases p with
  | tup cs =>
    obtain ⟨vs, rfl, hl, hv⟩ := h.tup_inv
    refine .tup vs _ (by simpa using hl) fun j u q g1 g2 => ?_
    rw [List.getElem?_map, Option.map_eq_some_iff] at g2
    obtain ⟨q', g3, rfl⟩ := g2
    exact l2_rv h1 h0 (hv j u q' g1 g3)
  | _ => exact l2_rv h1 h0 h
end
abbrev Ren := List (Nat × Nat)
def Ren.ok (ρ : Ren) : Bool := ρ.all (fun x => ρ.all fun y => (x.1 == y.1) == (x.2 == y.2))
def tokR (mem : List (Nat × Ent)) (ρ : Ren) (nm ver : Nat) : Nat × Nat :=
  if (live mem nm ver).isSome then match look ρ nm with | some n => (n, 0) | none => (nm, 1) else (nm, 1)
def gR (mem : List (Nat × Ent)) (ρ : Ren) : PV → PV
  | .own nm v => .own (tokR mem ρ nm v).1 (tokR mem ρ nm v).2
  | .sub nm v a b => .sub (tokR mem ρ nm v).1 (tokR mem ρ nm v).2 a b
  | .pown nm v a b => .pown (tokR mem ρ nm v).1 (tokR mem ρ nm v).2 a b
  | .agg _ => .top
  | .tup _ => .top
  | .fn .. => .top
  | p => p
def entR (mem : List (Nat × Ent)) (ρ : Ren) (e : Ent) : Ent := { e with ver := 0, new := false, es := if e.data then e.es else e.es.map (·.map (l1 (gR mem ρ))) }
def memR (ρ : Ren) (mem : List (Nat × Ent)) : List (Nat × Ent) := ρ.filterMap fun x => match look mem x.1 with
  | some e => if e.dead then none else some (x.2, entR mem ρ e)
  | none => none
def nrm (ks : List Nat) (ρ : Ren) (st : St) : St := { slots := ks.filterMap fun t => (look st.slots t).map fun p => (t, l3 (gR st.mem ρ) p), mem := memR ρ st.mem, gen := 2 }
theorem memR_look {ρ : Ren} {mem : List (Nat × Ent)} {n : Nat} {e' : Ent} (h : look (memR ρ mem) n = some e') : ∃ o e, (o, n) ∈ ρ ∧ look mem o = some e ∧ e.dead = false ∧ e' = entR mem ρ e := by
  have := lk_mem h
  unfold memR at this
  rw [List.mem_filterMap] at this
  obtain ⟨x, hx, h2⟩ := this
  split at h2
  · rename_i e he
    split at h2
    · cases h2
    · rename_i hd
      injection h2 with h2; injection h2 with h2 h3
      subst h2 h3
      exact ⟨x.1, e, hx, he, by simpa using hd, rfl⟩
  · cases h2
theorem ren_ok {ρ : Ren} (h : ρ.ok = true) {a b c d : Nat} (h1 : (a, b) ∈ ρ) (h2 : (c, d) ∈ ρ) : a = c ↔ b = d := by
  unfold Ren.ok at h
  rw [List.all_eq_true] at h
  have := h _ h1
  rw [List.all_eq_true] at this
  have := this _ h2
  simp only [beq_iff_eq] at this
  constructor
  · intro e; subst e; simpa using this
  · intro e; subst e; simpa using this
section
variable {C : Ctx} {ρ : Ren} {hd' : Nat → Value}
def rctx (C : Ctx) (ρ : Ren) (hd' : Nat → Value) : Ctx := { C with mem := memR ρ C.mem, gen := 2, hd := hd' }
theorem rlive {nm v : Nat} {e' : Ent} (h : live (rctx C ρ hd').mem nm v = some e') : v = 0 ∧ ∃ o e, (o, nm) ∈ ρ ∧ live C.mem o e.ver = some e ∧ e' = entR C.mem ρ e := by
  obtain ⟨h1, h2, h3⟩ := live_some.1 h
  obtain ⟨o, e, h4, h5, h6, rfl⟩ := memR_look h1
  exact ⟨h2.symm, o, e, h4, live_some.2 ⟨h5, rfl, h6⟩, rfl⟩
theorem rtok (hok : ρ.ok = true) (hh : ∀ o n, (o, n) ∈ ρ → hd' n = C.hd o) {nm v : Nat} {e' : Ent} (h : live (rctx C ρ hd').mem (tokR C.mem ρ nm v).1 (tokR C.mem ρ nm v).2 = some e') :
    ∃ e, live C.mem nm v = some e ∧ e' = entR C.mem ρ e ∧ hd' (tokR C.mem ρ nm v).1 = C.hd nm := by
  obtain ⟨h1, o, e, h2, h3, h4⟩ := rlive h
  unfold tokR at h1 h2
  split at h1
  · rename_i hl
    rw [if_pos hl] at h2
    split at h1
    · rename_i n hn
      rw [hn] at h2
      simp only at h2
      have := (ren_ok hok (lk_mem hn) h2).2 rfl
      subst this
      obtain ⟨x, hx⟩ := Option.isSome_iff_exists.1 hl
      have hxe : x = e := by
        have k1 := (live_some.1 hx).1
        have k2 := (live_some.1 h3).1
        rw [k1] at k2; injection k2
      subst hxe
      refine ⟨x, hx, h4, ?_⟩
      unfold tokR
      rw [if_pos hl, hn]
      exact hh _ _ (lk_mem hn)
    · cases h1
  · cases h1
theorem rtok_use (nm v : Nat) : usable (rctx C ρ hd').mem (rctx C ρ hd').gen (tokR C.mem ρ nm v).1 (tokR C.mem ρ nm v).2 := by
  refine .inl ?_
  show (tokR C.mem ρ nm v).2 < 2
  unfold tokR
  split
  · split <;> simp
  · simp
theorem entR_len (mem : List (Nat × Ent)) (ρ : Ren) (e : Ent) : (entR mem ρ e).es.length = e.es.length := by
  unfold entR
  simp only
  split
  · rfl
  · simp
theorem rfree (hh : ∀ o n, (o, n) ∈ ρ → hd' n = C.hd o) {b : Nat} (h : free C.mem C.hd b) : free (rctx C ρ hd').mem (rctx C ρ hd').hd b := by
  intro nm v e he
  obtain ⟨_, o, e0, h1, h2, _⟩ := rlive he
  show (hd' nm).ownBlock ≠ _
  rw [hh _ _ h1]
  exact h _ _ e0 h2
theorem rdv (hh : ∀ o n, (o, n) ∈ ρ → hd' n = C.hd o) {v : Value} {p : PV} (h : DV C.w (imm C.mem C.hd C.I0) v p) : DV (rctx C ρ hd').w (imm (rctx C ρ hd').mem (rctx C ρ hd').hd (rctx C ρ hd').I0) v p :=
  h.mono (Nat.le_refl _) fun _ _ hi => ⟨⟨hi.1, rfree hh hi.2⟩, rfl⟩
theorem gR_rv (hok : ρ.ok = true) (hh : ∀ o n, (o, n) ∈ ρ → hd' n = C.hd o) (v : Value) (p : PV) (h : RV C v p) : RV (rctx C ρ hd') v (gR C.mem ρ p) := by
  cases p with
  | own nm ver =>
    refine .own _ _ v h.own_inv.2.1 (rtok_use nm ver) fun e' he => ?_
    obtain ⟨e, h1, h2, h3⟩ := rtok hok hh he
    show v = hd' _
    rw [h3]; exact h.own_inv.2.2 e h1
  | sub nm ver lo hi =>
    refine .sub _ _ lo hi v h.sub_inv.2.1 (rtok_use nm ver) fun e' he => ?_
    obtain ⟨e, h1, h2, h3⟩ := rtok hok hh he
    show subHdr (hd' _) _ _ _ _ _
    rw [h3, h2, entR_len]; exact h.sub_inv.2.2 e h1
  | pown nm ver i j =>
    refine .pown _ _ i j v h.pown_inv.2.1 (rtok_use nm ver) fun e' he => ?_
    obtain ⟨e, h1, h2, h3⟩ := rtok hok hh he
    show pownHdr (hd' _) _ _ _ _
    rw [h3, h2]; exact h.pown_inv.2.2 e h1
  | agg => exact .data _ _ (.top _)
  | tup => exact .data _ _ (.top _)
  | fn => exact .data _ _ (.top _)
  | top => exact .data _ _ (.top _)
  | _ => cases h with | data _ _ h => exact .data _ _ (rdv hh h)
end
theorem l1_gR_one {mem : List (Nat × Ent)} {ρ : Ren} {p : PV} (h : p.one = true) : (l1 (gR mem ρ) p).one = true := by
  cases p <;> first | rfl | (simp [PV.one] at h)
theorem l2_rv' {C C' : Ctx} {g : PV → PV} (h1 : ∀ p : PV, p.one = true → (l1 g p).one = true) (h0 : ∀ v p, RV C v p → RV C' v (g p)) {v : Value} {p : PV} (h : RV C v p) : RV C' v (l2 g p) := by
  cases p with
  | agg cs =>
    obtain ⟨vs, rfl, hl, ho, hv⟩ := h.agg_inv
    refine .agg vs _ (by simpa using hl) (fun q hq => ?_) fun j u q g1 g2 => ?_
    · rw [List.mem_map] at hq
      obtain ⟨q', h2, rfl⟩ := hq
      exact h1 _ (ho q' h2)
    · rw [List.getElem?_map, Option.map_eq_some_iff] at g2
      obtain ⟨q', g3, rfl⟩ := g2
      exact l1_rv h0 (hv j u q' g1 g3)
  | _ => exact l1_rv h0 h
theorem l3_rv' {C C' : Ctx} {g : PV → PV} (h1 : ∀ p : PV, p.one = true → (l1 g p).one = true) (h0 : ∀ v p, RV C v p → RV C' v (g p)) {v : Value} {p : PV} (h : RV C v p) : RV C' v (l3 g p) := by
  cases p with
  | tup cs =>
    obtain ⟨vs, rfl, hl, hv⟩ := h.tup_inv
    refine .tup vs _ (by simpa using hl) fun j u q g1 g2 => ?_
    rw [List.getElem?_map, Option.map_eq_some_iff] at g2
    obtain ⟨q', g3, rfl⟩ := g2
    exact l2_rv' h1 h0 (hv j u q' g1 g3)
  | _ => exact l2_rv' h1 h0 h
theorem Wk.nrm (ks : List Nat) (ρ : Ren) (hok : ρ.ok = true) (st : St) : Wk st (nrm ks ρ st) := by
  intro w0 I0 N a w hd R
  have M := R.mem
  let C : Ctx := { w, mem := st.mem, hd, gen := st.gen, I0 := fun b => I0 b ∨ w0.w.heap.size ≤ b, gh := I0.gh }
  let hd' : Nat → Value := fun n => match ρ.find? (fun x => x.2 == n) with | some x => hd x.1 | none => undef
  have hh : ∀ o n, (o, n) ∈ ρ → hd' n = C.hd o := by
    intro o n h
    show (match ρ.find? _ with | some x => hd x.1 | none => undef) = _
    split
    · rename_i y hy
      have h1 := List.mem_of_find?_eq_some hy
      have h2 := List.find?_some hy
      simp only [beq_iff_eq] at h2
      rw [(ren_ok hok h1 h).2 h2]
    · rename_i hy
      rw [List.find?_eq_none] at hy
      exact absurd (hy _ h) (by simp)
  refine ⟨hd', ⟨⟨M.i0, M.glob.mono (Nat.le_refl _) fun b _ hi => ⟨⟨hi.1, rfree (C := C) hh hi.2⟩, rfl⟩, M.below, fun nm e he => ?_, fun nm ver e he => ?_, fun nm nm' ver ver' e e' b hne he he' hb => ?_, fun nm ver e b he hb => ?_⟩, R.defers, R.size, R.top, fun t p ht => ?_, fun b o e => ⟨(R.frame b o e).1, (R.frame b o e).2.1, rfree (C := C) hh (R.frame b o e).2.2⟩⟩⟩
  · obtain ⟨_, e0, _, _, _, rfl⟩ := memR_look he
    exact ⟨fun h => by simp [entR] at h, fun _ => by simp [PW.nrm, entR]⟩
  · obtain ⟨_, o, e0, h1, h4, rfl⟩ := rlive (C := C) (hd' := hd') he
    obtain ⟨xs, ho, hbig, hc⟩ := M.rows o _ e0 h4
    refine ⟨xs, ?_, by rw [entR_len]; exact hbig, fun i cs hi => ?_⟩
    · show w.ownsRow w0.B e0.elem e0.sz (hd' nm) _ xs
      rw [hh _ _ h1, entR_len]; exact ho
    · by_cases hdt : e0.data = true
      · have hes : (entR C.mem ρ e0).es = e0.es := by unfold entR; simp only [hdt, if_true]
        rw [hes] at hi
        obtain ⟨c1, c2, c3⟩ := hc i cs hi
        refine ⟨c1, c2, fun j p hj => ?_⟩
        obtain ⟨u, a1, a2, a3⟩ := c3 j p hj
        have := rdv (C := C) (ρ := ρ) hh (a3 hdt)
        exact ⟨u, a1, .data _ _ this, fun _ => this⟩
      · have hes : (entR C.mem ρ e0).es = e0.es.map (·.map (l1 (gR C.mem ρ))) := by unfold entR; simp only [if_neg hdt]
        rw [hes, List.getElem?_map, Option.map_eq_some_iff] at hi
        obtain ⟨cs0, h5, rfl⟩ := hi
        obtain ⟨c1, c2, c3⟩ := hc i cs0 h5
        refine ⟨by rw [List.length_map]; exact c1, fun p hp => ?_, fun j p hj => ?_⟩
        · rw [List.mem_map] at hp
          obtain ⟨p', h6, rfl⟩ := hp
          exact l1_gR_one (c2 p' h6)
        · rw [List.getElem?_map, Option.map_eq_some_iff] at hj
          obtain ⟨p', h6, rfl⟩ := hj
          obtain ⟨u, a1, a2, a3⟩ := c3 j p' h6
          exact ⟨u, a1, l1_rv (gR_rv hok hh) a2, fun h => absurd h hdt⟩
  · obtain ⟨_, o, e0, h1, h4, rfl⟩ := rlive (C := C) (hd' := hd') he
    obtain ⟨_, o', e1, h2, h5, rfl⟩ := rlive (C := C) (hd' := hd') he'
    have hb : (hd' nm).ownBlock = some b := hb
    show (hd' nm').ownBlock ≠ some b
    rw [hh _ _ h1] at hb
    rw [hh _ _ h2]
    exact M.apart o o' _ _ e0 e1 b (fun h => hne ((ren_ok hok h1 h2).1 h)) h4 h5 hb
  · obtain ⟨_, o, e0, h1, h4, rfl⟩ := rlive (C := C) (hd' := hd') he
    have hb : (hd' nm).ownBlock = some b := hb
    rw [hh _ _ h1] at hb
    exact M.own0 o _ e0 b h4 hb
  · obtain ⟨_, q, h1, rfl⟩ := look_fm (look st.slots) (l3 (gR st.mem ρ)) ks t p ht
    exact ⟨(R.slot t q h1).1, l3_rv' (fun _ => l1_gR_one) (gR_rv (C := C) (hd' := hd') hok hh) (R.slot t q h1).2⟩
theorem Wk.nrmTo (ks : List Nat) (ρ : Ren) {s S : St} (h : PW.nrm ks ρ s = S) (hok : ρ.ok = true) : Wk s S := by rw [← h]; exact Wk.nrm ks ρ hok s
theorem live_dead {mem : List (Nat × Ent)} {nm : Nat} {e : Ent} {n v : Nat} {x : Ent} (h : live ((nm, { e with dead := true }) :: mem) n v = some x) : nm ≠ n ∧ live mem n v = some x := by
  obtain ⟨h1, h2, h3⟩ := live_some.1 h
  by_cases hn : nm = n
  · subst hn
    rw [look_same] at h1
    injection h1 with h1; subst h1
    simp at h3
  · rw [look_ne _ _ hn] at h1
    exact ⟨hn, live_some.2 ⟨h1, h2, h3⟩⟩
theorem MemInv.kill {w0 : Base} {C : Ctx} (M : MemInv w0 C) {nm : Nat} {e : Ent} (he : look C.mem nm = some e) :
    let C' : Ctx := { C with mem := (nm, { e with dead := true }) :: C.mem }
    MemInv w0 C' ∧ Later C C' := by
  intro C'
  have L : Later C C' := by
    refine ⟨Nat.le_refl _, fun n v hu => ?_, fun n v x _ hx => ⟨x, (live_dead hx).2, rfl, rfl, rfl⟩, fun _ h => h, fun b _ hi => ⟨fun n v x hx => hi n v x (live_dead hx).2, rfl⟩⟩
    rcases hu with hu | ⟨h1, x, h2, h3⟩
    · exact .inl hu
    · by_cases hn : nm = n
      · subst hn
        rw [he] at h2; injection h2 with h2; subst h2
        exact .inr ⟨h1, _, look_same _ _ _, h3⟩
      · exact .inr ⟨h1, x, by show look ((nm, _) :: C.mem) n = some x; rw [look_ne _ _ hn]; exact h2, h3⟩
  refine ⟨⟨M.i0, L.globs M.glob, M.below, fun n x hx => ?_, fun n v x hx => ?_, fun n n' v v' x x' b hne hx hx' hb => M.apart n n' v v' x x' b hne (live_dead hx).2 (live_dead hx').2 hb, fun n v x b hx hb => M.own0 n v x b (live_dead hx).2 hb⟩, L⟩
  · by_cases hn : nm = n
    · subst hn
      have hx : look ((nm, { e with dead := true }) :: C.mem) nm = some x := hx
      rw [look_same] at hx
      injection hx with hx; subst hx
      exact M.vers nm e he
    · have hx : look ((nm, { e with dead := true }) :: C.mem) n = some x := hx
      rw [look_ne _ _ hn] at hx
      exact M.vers n x hx
  · exact (M.rows n v x (live_dead hx).2).later L rfl fun b _ => rfl
theorem killed_dv {w0 : Base} {C : Ctx} (M : MemInv w0 C) {nm ver : Nat} {e : Ent} (hl : live C.mem nm ver = some e) (hd : e.data = true) :
    DV C.w (imm ((nm, { e with dead := true }) :: C.mem) C.hd C.I0) (C.hd nm) (.list e.sz e.es) := by
  obtain ⟨M', L⟩ := M.kill (live_some.1 hl).1
  obtain ⟨ys, ho, hb, hc⟩ := M.rows nm ver e hl
  rcases ho.2 with ⟨h1, h2⟩ | ⟨g, cap, cur, h1, hg, hh, hn, hm, hs', ht'⟩
  · have : e.es = [] := List.eq_nil_of_length_eq_zero h2
    rw [h1, this]; exact .list0 _ _ _ fun _ => rfl
  · rw [h1]
    have hlt : g < C.w.heap.size := (Array.getElem?_eq_some_iff.1 hh).1
    refine .list ⟨g, 0, none⟩ cap e.sz e.es (fun i j => ys.getD (i * e.sz + j) undef) hn hb ⟨M.own0 nm ver e g hl (by rw [h1]; rfl), fun n v x hx => ?_⟩ hlt (fun i cs hi => ⟨(hc i cs hi).1, (hc i cs hi).2.1⟩) (fun i cs j p hi hj => ?_) fun i cs j p hi hj => ?_
    · obtain ⟨hne, hx⟩ := live_dead hx
      exact M.apart nm n ver v e x g hne hl hx (by rw [h1]; rfl)
    · obtain ⟨u, a1, a2, a3⟩ := (hc i cs hi).2.2 j p hj
      have := ho.cells (g := g) (by rw [h1]; rfl) _ u a1
      simpa [List.getD, a1] using this
    · obtain ⟨u, a1, a2, a3⟩ := (hc i cs hi).2.2 j p hj
      have := L.dv (a3 hd)
      simpa [List.getD, a1] using this
theorem list_pim {w : World} {I : Nat → Prop} {hd v : Value} {sz i j : Nat} {es : List (List PV)} {cs : List PV} (h : DV w I hd (.list sz es)) (hcs : es[i]? = some cs) (hp : pownHdr hd sz i j v) : DV w I v (.pim (cs.drop j)) := by
  cases h with
  | list0 => simp at hcs
  | list ad c _ _ f hc hb hI hlt hsz hcell hval =>
    simp only [pownHdr] at hp
    rw [if_neg (not_bx (List.getElem?_eq_some_iff.1 hcs).1 hb)] at hp
    subst hp
    refine .pim (ad.add (i * sz + j)) _ (fun k => f i (j + k)) (by rw [block_add]; exact hI) (by rw [block_add]; exact hlt) (fun p hp => (hsz i cs hcs).2 p (List.mem_of_mem_drop hp)) (fun k p hk => ?_) fun k p hk => ?_
    · rw [List.getElem?_drop] at hk
      rw [add_add, Nat.add_assoc]
      exact hcell i cs (j + k) p hcs hk
    · rw [List.getElem?_drop] at hk
      exact hval i cs (j + k) p hcs hk
def gF (nm ver : Nat) (e : Ent) : PV → PV
  | .own n v => if n = nm ∧ v = ver then .list e.sz e.es else .own n v
  | .sub n v lo hi => if n = nm ∧ v = ver then .list e.sz ((e.es.take hi).drop lo) else .sub n v lo hi
  | .pown n v i j => if n = nm ∧ v = ver then (match e.es[i]? with | some cs => .pim (cs.drop j) | none => .pown n v i j) else .pown n v i j
  | p => p
def entF (nm ver : Nat) (e x : Ent) : Ent := if x.data then x else
  { x with es := x.es.map (·.map (l1 (gF nm ver e))), data := x.es.all fun cs => cs.all fun p => (l1 (gF nm ver e) p).isD }
def frz (nm ver : Nat) (e : Ent) (st : St) : St :=
  { slots := st.slots.map fun x => (x.1, l3 (gF nm ver e) x.2), mem := (nm, { e with dead := true }) :: st.mem.map fun x => (x.1, entF nm ver e x.2), gen := st.gen }
theorem look_map_snd {α β : Type} (f : α → β) : ∀ (l : List (Nat × α)) (n : Nat), look (l.map fun x => (x.1, f x.2)) n = (look l n).map f
  | [], n => rfl
  | (k, v) :: l, n => by
    simp only [List.map_cons, look]
    split
    · rfl
    · exact look_map_snd f l n
theorem gF_one {nm ver : Nat} {e : Ent} (p : PV) (h : p.one = true) : (gF nm ver e p).one = true := by
  cases p <;> simp only [gF] <;> first | exact h | (split <;> first | rfl | (split <;> rfl))
theorem entF_same (nm ver : Nat) (e x : Ent) : (entF nm ver e x).ver = x.ver ∧ (entF nm ver e x).new = x.new ∧ (entF nm ver e x).dead = x.dead ∧ (entF nm ver e x).sz = x.sz ∧ (entF nm ver e x).elem = x.elem ∧ (entF nm ver e x).es.length = x.es.length := by
  unfold entF
  split
  · exact ⟨rfl, rfl, rfl, rfl, rfl, rfl⟩
  · exact ⟨rfl, rfl, rfl, rfl, rfl, by simp⟩
theorem Wk.frz {st : St} (nm ver : Nat) {e : Ent} (hl : liveF (look st.mem) nm ver = some e) (hd : e.data = true) : Wk st (frz nm ver e st) := by
  intro w0 I0 N a w hdr R
  have M := R.mem
  rw [← live_eq] at hl
  let C : Ctx := { w, mem := st.mem, hd := hdr, gen := st.gen, I0 := fun b => I0 b ∨ w0.w.heap.size ≤ b, gh := I0.gh }
  let C' : Ctx := { C with mem := (nm, { e with dead := true }) :: st.mem }
  let C2 : Ctx := { C with mem := (PW.frz nm ver e st).mem }
  have he : look st.mem nm = some e := (live_some.1 hl).1
  obtain ⟨M', L'⟩ := M.kill he
  have hdv := killed_dv M hl hd
  -- the rows behind it
  have hlk : ∀ n, look C2.mem n = (look C'.mem n).map (fun x => if n = nm then x else entF nm ver e x) := by
    intro n
    show look ((nm, _) :: st.mem.map _) n = (look ((nm, _) :: st.mem) n).map _
    by_cases hn : nm = n
    · subst hn; rw [look_same, look_same]; simp
    · rw [look_ne _ _ hn, look_ne _ _ hn, look_map_snd]
      simp only [if_neg (Ne.symm hn)]
  have hlv : ∀ n v x', live C2.mem n v = some x' → ∃ x, live C'.mem n v = some x ∧ x' = entF nm ver e x ∧ nm ≠ n ∧ live C.mem n v = some x := by
    intro n v x' h
    obtain ⟨h1, h2, h3⟩ := live_some.1 h
    rw [hlk, Option.map_eq_some_iff] at h1
    obtain ⟨x, h4, rfl⟩ := h1
    by_cases hn : n = nm
    · subst hn
      have h4 : look ((n, { e with dead := true }) :: st.mem) n = some x := h4
      rw [look_same] at h4
      injection h4 with h4; subst h4
      rw [if_pos rfl] at h3; simp at h3
    · rw [if_neg hn] at h2 h3
      obtain ⟨k1, k2, k3, _⟩ := entF_same nm ver e x
      have hx : live C'.mem n v = some x := live_some.2 ⟨h4, by rw [← k1]; exact h2, by rw [← k3]; exact h3⟩
      exact ⟨x, hx, by rw [if_neg hn], Ne.symm hn, (live_dead hx).2⟩
  have L2 : Later C C2 := by
    refine ⟨Nat.le_refl _, fun n v hu => ?_, fun n v x' hu h => ?_, fun _ h => h, fun b hb hf => ⟨fun n v x' h => ?_, rfl⟩⟩
    · rcases L'.use_ n v hu with h | ⟨h1, x, h2, h3⟩
      · exact .inl h
      · refine .inr ⟨h1, _, by rw [hlk, h2]; rfl, ?_⟩
        split
        · exact h3
        · rw [(entF_same nm ver e x).2.1]; exact h3
    · obtain ⟨x, h1, rfl, h3, h4⟩ := hlv n v x' h
      obtain ⟨_, _, _, k4, _, k6⟩ := entF_same nm ver e x
      exact ⟨x, h4, k4.symm, k6.symm, rfl⟩
    · obtain ⟨x, h1, rfl, h3, h4⟩ := hlv n v x' h
      exact hf n v x h4
  have dv2 : ∀ v p, DV w (imm C'.mem C'.hd C'.I0) v p → DV w (imm C2.mem C2.hd C2.I0) v p := fun v p h =>
    h.mono (Nat.le_refl _) fun b _ hi => ⟨⟨hi.1, fun n v x' h => by
      obtain ⟨x, h1, _⟩ := hlv n v x' h
      exact hi.2 n v x h1⟩, rfl⟩
  have g0 : ∀ v p, RV C v p → RV C2 v (gF nm ver e p) := by
    intro v p h
    cases p with
    | own n vr =>
      simp only [gF]
      split
      · rename_i hn
        obtain ⟨rfl, rfl⟩ := hn
        refine .data _ _ (dv2 _ _ ?_)
        rw [h.own_inv.2.2 e hl]; exact hdv
      · exact L2.rv h
    | sub n vr lo hi =>
      simp only [gF]
      split
      · rename_i hn
        obtain ⟨rfl, rfl⟩ := hn
        exact .data _ _ (dv2 _ _ (sub_dv hdv rfl (h.sub_inv.2.2 e hl)))
      · exact L2.rv h
    | pown n vr i j =>
      simp only [gF]
      split
      · rename_i hn
        obtain ⟨rfl, rfl⟩ := hn
        split
        · rename_i cs hcs
          exact .data _ _ (dv2 _ _ (list_pim hdv hcs (h.pown_inv.2.2 e hl)))
        · exact L2.rv h
      · exact L2.rv h
    | _ => exact L2.rv h
  refine ⟨hdr, ⟨⟨M.i0, L2.globs M.glob, M.below, fun n x' h => ?_, fun n v x' h => ?_, fun n n' v v' x x' b hne h h' hb => ?_, fun n v x' b h hb => ?_⟩, R.defers, R.size, R.top, fun t p ht => ?_, L2.frame R.frame⟩⟩
  · have h : look C2.mem n = some x' := h
    rw [hlk, Option.map_eq_some_iff] at h
    obtain ⟨x, h1, rfl⟩ := h
    have := M'.vers n x h1
    split
    · exact this
    · obtain ⟨k1, k2, _⟩ := entF_same nm ver e x
      rw [k1, k2]; exact this
  · obtain ⟨x, h1, rfl, h3, h4⟩ := hlv n v x' h
    obtain ⟨_, _, _, k4, k5, k6⟩ := entF_same nm ver e x
    obtain ⟨xs, ho, hbig, hc⟩ := M.rows n v x h4
    refine ⟨xs, by rw [k4, k5, k6]; exact ho, by rw [k6]; exact hbig, fun i cs hi => ?_⟩
    by_cases hdt : x.data = true
    · have : entF nm ver e x = x := by unfold entF; rw [if_pos hdt]
      rw [this] at hi ⊢
      obtain ⟨c1, c2, c3⟩ := hc i cs hi
      refine ⟨c1, c2, fun j p hj => ?_⟩
      obtain ⟨u, a1, a2, a3⟩ := c3 j p hj
      have := L2.dv (a3 hdt)
      exact ⟨u, a1, .data _ _ this, fun _ => this⟩
    · have hx : entF nm ver e x = { x with es := x.es.map (·.map (l1 (gF nm ver e))), data := x.es.all fun cs => cs.all fun p => (l1 (gF nm ver e) p).isD } := by unfold entF; rw [if_neg hdt]
      rw [hx] at hi ⊢
      simp only [List.getElem?_map, Option.map_eq_some_iff] at hi
      obtain ⟨cs0, h5, rfl⟩ := hi
      obtain ⟨c1, c2, c3⟩ := hc i cs0 h5
      refine ⟨by simpa using c1, fun p hp => ?_, fun j p hj => ?_⟩
      · rw [List.mem_map] at hp
        obtain ⟨p', h6, rfl⟩ := hp
        exact l1_one gF_one (c2 p' h6)
      · rw [List.getElem?_map, Option.map_eq_some_iff] at hj
        obtain ⟨p', h6, rfl⟩ := hj
        obtain ⟨u, a1, a2, a3⟩ := c3 j p' h6
        have hrv := l1_rv g0 a2
        refine ⟨u, a1, hrv, fun hall => ?_⟩
        simp only [List.all_eq_true] at hall
        exact hrv.isD (hall cs0 (List.mem_of_getElem? h5) p' (List.mem_of_getElem? h6))
  · obtain ⟨x1, _, _, _, h1⟩ := hlv n v x h
    obtain ⟨x2, _, _, _, h2⟩ := hlv n' v' x' h'
    exact M.apart n n' v v' x1 x2 b hne h1 h2 hb
  · obtain ⟨x1, _, _, _, h1⟩ := hlv n v x' h
    exact M.own0 n v x1 b h1 hb
  · have ht : look (st.slots.map fun x => (x.1, l3 (gF nm ver e) x.2)) t = some p := ht
    rw [look_map_snd, Option.map_eq_some_iff] at ht
    obtain ⟨q, h1, rfl⟩ := ht
    exact ⟨(R.slot t q h1).1, l3_rv gF_one g0 (R.slot t q h1).2⟩
theorem Wk.frzTo {st S : St} (nm ver : Nat) {e : Ent} (hl : liveF (look st.mem) nm ver = some e) (hd : e.data = true) (h : PW.frz nm ver e st = S) : Wk st S := by rw [← h]; exact Wk.frz nm ver hl hd
theorem Ev.nilSplit {P : Program} {N : Nat} {st : St} {L : LCode} {Q : Ex → St → Prop} (t sz : Nat) (h : look st.slots t = some (.list sz [])) (_ht : t < gst)
    (h1 : Ev P N L { st with slots := (t, .nils) :: st.slots } Q) (h2 : Ev P N L { st with slots := (t, .nz) :: st.slots } Q) : Ev P N L st Q := by
  intro w0 I0 c a w hd hc R
  obtain ⟨hN, hv⟩ := R.slot t _ h
  obtain ⟨v, hvv⟩ : ∃ v, slotV { w := w, mem := st.mem, hd := hd, gen := st.gen, I0 := fun b => I0 b ∨ w0.w.heap.size ≤ b, gh := I0.gh } a t = v := ⟨_, rfl⟩
  have mk : ∀ p, RV { w := w, mem := st.mem, hd := hd, gen := st.gen, I0 := fun b => I0 b ∨ w0.w.heap.size ≤ b, gh := I0.gh } v p → Rep w0 I0 N { st with slots := (t, p) :: st.slots } a w hd := fun p hp => by
    rw [← hvv] at hp
    refine ⟨R.mem, R.defers, R.size, R.top, fun t' p' h' => ?_, R.frame⟩
    by_cases q : t = t'
    · subst q
      have h' : look ((t, p) :: st.slots) t = some p' := h'
      rw [look_same] at h'
      injection h' with h'; subst h'
      exact ⟨hN, hp⟩
    · have h' : look ((t, p) :: st.slots) t' = some p' := h'
      rw [look_ne _ _ q] at h'
      exact R.slot t' p' h'
  have hd' := hv.list_inv
  rw [hvv] at hd'
  cases hd' with
  | list0 A cc _ h0 =>
    cases A with
    | none =>
      have := h0 rfl
      subst this
      exact h1 w0 I0 c a w hd hc (mk .nils (.data _ _ .nils))
    | some ad => exact h2 w0 I0 c a w hd hc (mk .nz (.data _ _ (.nz ad cc)))
  | list ad cc _ _ f => exact h2 w0 I0 c a w hd hc (mk .nz (.data _ _ (.nz ad cc)))
section
variable {P : Program} {N : Nat} {st : St} {Q : Ex → St → Prop} {x y : LCode}
theorem Ev.loopW {β : Type} (S : β → St) (J : β → Prop) (μ : β → Nat) (b0 : β) (h0 : Wk st (S b0)) (j0 : J b0)
    (round : ∀ b, J b → Ev P N x (S b) (Ex.then (fun s' => ∃ b', J b' ∧ μ b' < μ b ∧ Wk s' (S b')) Q)) : Ev P N (.loop x) st Q := by
  refine Ev.weak (st' := S b0) ?_ h0
  refine Ev.loop (fun b s => s = S b ∧ J b) μ b0 ⟨rfl, j0⟩ fun b s hs => ?_
  obtain ⟨rfl, hj⟩ := hs
  refine (round b hj).mono fun e s' h => ?_
  cases e <;> simp only [Ex.then] at h ⊢
  · obtain ⟨b', h1, h2, h3⟩ := h
    exact ⟨b', _, h3, ⟨rfl, h1⟩, h2⟩
  · exact h
  · exact h
def EvR (P : Program) (N : Nat) (x : LCode) (Q : Ex → St → Prop) : Nat → St → Prop
  | 0, _ => False
  | n + 1, st => Ev P N x st (Ex.then (EvR P N x Q n) Q)
theorem EvR.go {n : Nat} (h : Ev P N x st (Ex.then (EvR P N x Q n) Q)) : EvR P N x Q (n + 1) st := h
theorem Ev.unroll (n : Nat) (h : EvR P N x Q n st) : Ev P N (.loop x) st Q := by
  intro w0 I0 c a w hd hc R
  cases c <;> simp only [compCode, reduceCtorEq] at hc
  case loop c1 =>
    simp only [Option.map_eq_some_iff] at hc
    obtain ⟨x', h1, h2⟩ := hc
    injection h2 with h2; subst h2
    have key : ∀ n (s : St) (a : Act) (w : World) (hd : Nat → Value), EvR P N x' Q n s → Rep w0 I0 N s a w hd → Code.rounds P c1 (postOf w0 I0 N Q) n a w := by
      intro n
      induction n with
      | zero => intro s a w hd h _; exact h.elim
      | succ n ih =>
        intro s a w hd h R
        rw [rounds_succ]
        refine wp_mono (h w0 I0 c1 a w hd h1 R) ?_
        intro e a' w' hp
        cases e <;> simp only [postOf, Ex.then, Exit.then] at hp ⊢
        · obtain ⟨s', hd', R', he⟩ := hp
          exact ih s' a' w' hd' he R'
        all_goals exact hp
    exact wp_loop_rounds n (key n st a w hd h R)
  all_goals (first | (simp only [Option.map_eq_some_iff] at hc; obtain ⟨_, _, h⟩ := hc; cases h) | (split at hc <;> simp at hc) | (cases hc))
theorem Ev.seqJ {γ : Type} (S : γ → St) (G : γ → Prop) (h : Ev P N x st (Ex.then (fun s => ∃ v, G v ∧ Wk s (S v)) Q)) (k : ∀ v, G v → Ev P N y (S v) Q) : Ev P N (.seq x y) st Q := by
  refine Ev.seq (h.mono fun e s hs => ?_)
  cases e <;> simp only [Ex.then] at hs ⊢
  · obtain ⟨v, h1, h2⟩ := hs
    exact Ev.weak (k v h1) h2
  · exact hs
  · exact hs
end
end
end Go.PW
