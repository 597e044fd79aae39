/-
 PwBorrow: a call that only reads a row of the caller's and hands back a row of its own, beside numbers: the caller's row stays the caller's.
-/
import Derived.Test.YtlkknmhhefjmjaaGreatDoorPwEat
namespace Go.PW
open Go.RowKit
variable {P : Program} {f : FuncId}
def bd0 (sz : Nat) (es : List (List PV)) : PV → PV
 | .own 1 0 => .list sz es
 | p => p
def bd (sz : Nat) (es : List (List PV)) : PV → PV
 | .agg cs => .agg (cs.map (bd0 sz es))
 | p => bd0 sz es p
def bok0 : PV → Bool
 | .own 1 0 => true
 | p => p.isD
def bok : PV → Bool
 | .agg cs => cs.all bok0
 | .own 1 0 => true
 | p => p.dataOk
def flat0 : PV → Bool
 | .int .. | .bool _ | .str _ | .nils | .pnil | .own 70000 0 => true
 | _ => false
def flat1 : PV → Bool
 | .agg cs => cs.all flat0
 | p => flat0 p
def flat2 : PV → Bool
 | .tup cs => cs.all flat1
 | p => flat1 p
def flatC : PV → Bool
 | .int .. | .bool _ | .str _ | .nils | .pnil => true
 | _ => false
theorem flatC_dv {w w' : World} {I I' : Nat → Prop} {v : Value} {p : PV} (hf : flatC p = true) (h : DV w I v p) : DV w' I' v p := by
 cases h with
 | int k n => exact .int k n
 | bool b => exact .bool b
 | str l h => exact .str l h
 | nils => exact .nils
 | pnil => exact .pnil
 | _ => simp [flatC] at hf
theorem flatC_rv {C : Ctx} {w' : World} {I' : Nat → Prop} {v : Value} {p : PV} (hf : flatC p = true) (h : RV C v p) : DV w' I' v p := by
 cases h with
 | data _ _ h => exact flatC_dv hf h
 | _ => simp [flatC] at hf
theorem flatS (l : List (List UInt8)) : (List.map cS l).all (fun cs => cs.all flatC) = true := by
 rw [List.all_eq_true]
 intro cs h
 obtain ⟨s, _, rfl⟩ := List.mem_map.1 h
 rfl
theorem flat0_cases {p : PV} (h : flat0 p = true) : flatC p = true ∨ p = .own 70000 0 := by
 unfold flat0 at h
 split at h <;> first | exact .inl rfl | exact .inr rfl | cases h
section
variable {C C' : Ctx}
theorem flat0_rv (hT : ∀ v, RV C v (.own 70000 0) → RV C' v (.own 70000 0)) {v : Value} {p : PV} (hf : flat0 p = true) (h : RV C v p) : RV C' v p := by
 rcases flat0_cases hf with h1 | rfl
 ·exact .data _ _ (flatC_rv h1 h)
 ·exact hT v h
theorem flat1_rv (hT : ∀ v, RV C v (.own 70000 0) → RV C' v (.own 70000 0)) {v : Value} {p : PV} (hf : flat1 p = true) (h : RV C v p) : RV C' v p := by
 cases p with
 | agg cs =>
  obtain ⟨vs, rfl, hl, ho, hv⟩ := h.agg_inv
  exact .agg vs cs hl ho fun j u q g1 g2 => flat0_rv hT (List.all_eq_true.1 hf q (List.mem_of_getElem? g2)) (hv j u q g1 g2)
 | _ => exact flat0_rv hT hf h
theorem flat2_rv (hT : ∀ v, RV C v (.own 70000 0) → RV C' v (.own 70000 0)) {v : Value} {p : PV} (hf : flat2 p = true) (h : RV C v p) : RV C' v p := by
 cases p with
 | tup cs =>
  obtain ⟨vs, rfl, hl, hv⟩ := h.tup_inv
  exact .tup vs cs hl fun j u q g1 g2 => flat1_rv hT (List.all_eq_true.1 hf q (List.mem_of_getElem? g2)) (hv j u q g1 g2)
 | _ => exact flat1_rv hT hf h
end
theorem bok0_cases {p : PV} (h : bok0 p = true) : p = .own 1 0 ∨ (p.isD = true ∧ ∀ sz es, bd0 sz es p = p) := by
 unfold bok0 at h
 split at h
 ·exact .inl rfl
 ·rename_i hne
  refine .inr ⟨h, fun sz es => ?_⟩
  unfold bd0
  split
  ·exact absurd rfl hne
  ·rfl
theorem PMut.borrow {args : List PV} {elem sz elem2 sz2 : Nat} {es es2 : List (List PV)} {res : PV} (h : PMut P f (args.map (bd sz es)) [] res [(70000, ⟨0, elem2, sz2, es2, true, false, false⟩)])
  (hd : args.all bok = true) (hfl : es2.all (fun cs => cs.all flatC) = true) (hr : flat2 res = true) :
  PMut P f args [(1, ⟨0, elem, sz, es, true, false, false⟩)] res [(1, ⟨0, elem, sz, es, true, false, false⟩), (70000, ⟨0, elem2, sz2, es2, true, false, false⟩)] := by
 intro w hdr I gh vs M hl hv
 let E : Ent := ⟨0, elem, sz, es, true, false, false⟩
 let E2 : Ent := ⟨0, elem2, sz2, es2, true, false, false⟩
 have lv1 : live [(1, E)] 1 0 = some E := (live1 rfl rfl).2 ⟨rfl, rfl, rfl⟩
 have hkill := killed_dv M lv1 rfl
 let C0 : Ctx := ⟨w, [], hdr, 2, fun b => I b ∨ w.heap.size ≤ b, gh⟩
 have him : ∀ b, (I b ∨ w.heap.size ≤ b) → imm C0.mem C0.hd C0.I0 b := fun b hb => ⟨hb, fun nm ver e h => by simp [C0, live, look] at h⟩
 have M0 : MemInv ⟨w, 0, Nat.zero_le _⟩ C0 := by
  refine ⟨M.i0, Below.refl _ _, ?_, ?_, ?_, ?_⟩
  ·intro nm e h; simp [C0, look] at h
  ·intro nm ver e h; simp [C0, live, look] at h
  ·intro nm nm' ver ver' e e' b _ h; simp [C0, live, look] at h
  ·intro nm ver e b h; simp [C0, live, look] at h
 have hown : ∀ v, RV ⟨w, [(1, E)], hdr, 2, fun b => I b ∨ w.heap.size ≤ b, gh⟩ v (.own 1 0) → DV w (imm C0.mem C0.hd C0.I0) v (.list sz es) := by
  intro v hr
  have : v = hdr 1 := by
   cases hr with
   | data _ _ h => cases h
   | own _ _ _ _ _ h => exact h _ lv1
  rw [this]
  exact hkill.mono (Nat.le_refl _) fun b _ hi => ⟨him b hi.1, rfl⟩
 have hdat : ∀ v p, p.isD = true → RV ⟨w, [(1, E)], hdr, 2, fun b => I b ∨ w.heap.size ≤ b, gh⟩ v p → DV w (imm C0.mem C0.hd C0.I0) v p := by
  intro v p hp hr
  exact (hr.isD hp).mono (Nat.le_refl _) fun b _ hi => ⟨him b hi.1, rfl⟩
 have hargs : ∀ (j : Nat) (v : Value) (p : PV), vs[j]? = some v → (args.map (bd sz es))[j]? = some p → RV C0 v p := by
  intro j v p h1 h2
  rw [List.getElem?_map, Option.map_eq_some_iff] at h2
  obtain ⟨q, h3, rfl⟩ := h2
  have h4 := hv j v q h1 h3
  have hq := List.all_eq_true.1 hd q (List.mem_of_getElem? h3)
  have key0 : ∀ v q, bok0 q = true → RV ⟨w, [(1, E)], hdr, 2, fun b => I b ∨ w.heap.size ≤ b, gh⟩ v q → RV C0 v (bd0 sz es q) := by
   intro v q hq h4
   rcases bok0_cases hq with rfl | ⟨h5, h6⟩
   ·exact .data _ _ (hown v h4)
   ·rw [h6]; exact .data _ _ (hdat v q h5 h4)
  have hplain : q.dataOk = true → RV C0 v q := fun hq =>
   .data _ _ ((h4.dataOk' hq).mono (Nat.le_refl _) fun b _ hi => ⟨him b hi.1, rfl⟩)
  cases q with
  | agg cs =>
   obtain ⟨us, rfl, hl2, ho, hu⟩ := h4.agg_inv
   refine .agg us _ (by simpa using hl2) (fun p hp => ?_) fun i u p g1 g2 => ?_
   ·obtain ⟨q, hq1, rfl⟩ := List.mem_map.1 hp
    rcases bok0_cases (List.all_eq_true.1 hq q hq1) with rfl | ⟨_, h6⟩
    ·rfl
    ·rw [h6]; exact ho q hq1
   ·rw [List.getElem?_map, Option.map_eq_some_iff] at g2
    obtain ⟨q, g3, rfl⟩ := g2
    exact key0 u q (List.all_eq_true.1 hq q (List.mem_of_getElem? g3)) (hu i u q g1 g3)
  | own nm ver =>
   unfold bok at hq
   split at hq
   ·rename_i e; cases e
   ·rename_i e
    injection e with e1 e2
    subst e1 e2
    exact .data _ _ (hown v h4)
   ·simp [PV.dataOk, PV.isD] at hq
  | top => simp [bok, PV.dataOk, PV.isD] at hq
  | tup _ => simp [bok, PV.dataOk, PV.isD] at hq
  | sub _ _ _ _ => simp [bok, PV.dataOk, PV.isD] at hq
  | pown _ _ _ _ => simp [bok, PV.dataOk, PV.isD] at hq
  | _ => exact hplain hq
 refine (h w hdr I gh vs M0 (by simpa using hl) hargs).mono ?_
 rintro r w' ⟨v, hd', he, M', hres, _, hfree⟩
 let hd2 : Nat → Value := fun n => if n = 1 then hdr 1 else hd' n
 have lvn : ∀ {nm ver e0}, live [(1, E), (70000, E2)] nm ver = some e0 → (nm = 1 ∧ ver = 0 ∧ e0 = E) ∨ (nm = 70000 ∧ ver = 0 ∧ e0 = E2) := by
  intro nm ver e0 h
  rw [live_some] at h
  obtain ⟨h1, h2, _⟩ := h
  simp only [look] at h1
  by_cases hn : 1 = nm
  ·rw [if_pos hn] at h1; injection h1 with h1; subst h1
   exact .inl ⟨hn.symm, h2.symm, rfl⟩
  ·rw [if_neg hn] at h1
   by_cases hn2 : 70000 = nm
   ·rw [if_pos hn2] at h1; injection h1 with h1; subst h1
    exact .inr ⟨hn2.symm, h2.symm, rfl⟩
   ·rw [if_neg hn2] at h1; cases h1
 have lv2 : live [(70000, E2)] 70000 0 = some E2 := live_some.2 ⟨by simp [look], rfl, rfl⟩
 have e1 : hd2 1 = hdr 1 := by simp [hd2]
 have e2 : hd2 70000 = hd' 70000 := by simp [hd2]
 -- the block of the row 1 and that of the new row
 have hap : ∀ b, (hdr 1).ownBlock = some b → (hd' 70000).ownBlock ≠ some b := by
  intro b hb
  have hlt := (M.rows 1 0 E lv1).lt b hb
  exact (hfree b hlt.2 (fun nm ver e h => by simp [live, look] at h)).1 70000 0 E2 lv2
 have hnew : ∀ b, b < w.heap.size → (hd' 70000).ownBlock ≠ some b := fun b hlt => (hfree b hlt (fun nm ver e h => by simp [live, look] at h)).1 70000 0 E2 lv2
 have hheap : ∀ b, b < w.heap.size → w'.heap[b]? = w.heap[b]? := fun b hlt => (hfree b hlt (fun nm ver e h => by simp [live, look] at h)).2
 have hsize : w.heap.size ≤ w'.heap.size := M'.below.size
 let C2 : Ctx := ⟨w', [(1, E), (70000, E2)], hd2, 2, fun b => I b ∨ w.heap.size ≤ b, gh⟩
 have hdv2 : ∀ v p, DV w (imm [(1, E)] hdr fun b => I b ∨ w.heap.size ≤ b) v p → DV w' (imm C2.mem C2.hd C2.I0) v p := by
  intro v p hp
  refine hp.mono hsize fun b hlt hi => ⟨⟨hi.1, fun nm ver e h => ?_⟩, hheap b hlt⟩
  rcases lvn h with ⟨rfl, rfl, rfl⟩ | ⟨rfl, rfl, rfl⟩
  ·show (hd2 1).ownBlock ≠ some b
   rw [e1]; exact hi.2 1 0 E lv1
  ·show (hd2 70000).ownBlock ≠ some b
   rw [e2]; exact hnew b hlt
 refine ⟨v, hd2, he, ⟨M.i0, M'.below, ?_, ?_, ?_, ?_⟩, ?_, ?_, ?_⟩
 ·intro nm e h
  simp only [look] at h
  split at h
  ·injection h with h; subst h; exact ⟨fun h => (by cases h), fun _ => (by show 0 < 2; omega)⟩
  ·split at h
   ·injection h with h; subst h; exact ⟨fun h => (by cases h), fun _ => (by show 0 < 2; omega)⟩
   ·cases h
 ·intro nm ver e h
  rcases lvn h with ⟨rfl, rfl, rfl⟩ | ⟨rfl, rfl, rfl⟩
  ·obtain ⟨xs, ho, hbig, hc⟩ := M.rows 1 0 E lv1
   refine ⟨xs, ?_, hbig, fun i cs hi => ⟨(hc i cs hi).1, (hc i cs hi).2.1, fun j p hj => ?_⟩⟩
   ·show w'.ownsRow _ _ _ (hd2 1) _ _
    rw [e1]
    refine ⟨ho.1, ?_⟩
    rcases ho.2 with h0 | ⟨g, cap, cur, hv1, hg, hh, rest⟩
    ·exact .inl h0
    ·exact .inr ⟨g, cap, cur, hv1, hg, by rw [hheap g (Array.getElem?_eq_some_iff.1 hh).1]; exact hh, rest⟩
   ·obtain ⟨u, h1, _, h3⟩ := (hc i cs hi).2.2 j p hj
    have := hdv2 u p (h3 rfl)
    exact ⟨u, h1, .data _ _ this, fun _ => this⟩
  ·obtain ⟨xs, ho, hbig, hc⟩ := M'.rows 70000 0 E2 lv2
   refine ⟨xs, ?_, hbig, fun i cs hi => ⟨(hc i cs hi).1, (hc i cs hi).2.1, fun j p hj => ?_⟩⟩
   ·show w'.ownsRow _ _ _ (hd2 70000) _ _
    rw [e2]; exact ho
   ·obtain ⟨u, h1, h2, _⟩ := (hc i cs hi).2.2 j p hj
    have hfp : flatC p = true := List.all_eq_true.1 (List.all_eq_true.1 hfl cs (List.mem_of_getElem? hi)) p (List.mem_of_getElem? hj)
    exact ⟨u, h1, .data _ _ (flatC_rv hfp h2), fun _ => flatC_rv hfp h2⟩
 ·intro nm nm' ver ver' e e' b hne h h' hb
  rcases lvn h with ⟨rfl, rfl, rfl⟩ | ⟨rfl, rfl, rfl⟩
  ·rcases lvn h' with ⟨rfl, rfl, rfl⟩ | ⟨rfl, rfl, rfl⟩
   ·exact absurd rfl hne
   ·show (hd2 70000).ownBlock ≠ some b
    have hb' : (hd2 1).ownBlock = some b := hb
    rw [e1] at hb'
    rw [e2]; exact hap b hb'
  ·rcases lvn h' with ⟨rfl, rfl, rfl⟩ | ⟨rfl, rfl, rfl⟩
   ·show (hd2 1).ownBlock ≠ some b
    have hb' : (hd2 70000).ownBlock = some b := hb
    rw [e2] at hb'
    rw [e1]
    intro hc; exact hap b hc hb'
   ·exact absurd rfl hne
 ·intro nm ver e b h hb
  rcases lvn h with ⟨rfl, rfl, rfl⟩ | ⟨rfl, rfl, rfl⟩
  ·have hb' : (hd2 1).ownBlock = some b := hb
   rw [e1] at hb'
   exact M.own0 1 0 E b lv1 hb'
  ·have hb' : (hd2 70000).ownBlock = some b := hb
   rw [e2] at hb'
   exact M'.own0 70000 0 E2 b lv2 hb'
 ·refine flat2_rv (C' := C2) (fun u hu => ?_) hr hres
  refine .own 70000 0 u hu.own_inv.2.1 (.inl (by show 0 < 2; omega)) fun e h => ?_
  rcases lvn h with ⟨h1, _, _⟩ | ⟨_, _, rfl⟩
  ·cases h1
  ·show u = hd2 70000
   rw [e2]
   exact hu.own_inv.2.2 E2 lv2
 ·intro nm e e' h _
  obtain ⟨rfl, _, _⟩ := (live1 rfl rfl).1 h
  exact e1
 ·intro b hlt hf
  refine ⟨fun nm ver e h => ?_, hheap b hlt⟩
  rcases lvn h with ⟨rfl, rfl, rfl⟩ | ⟨rfl, rfl, rfl⟩
  ·rw [e1]; exact hf 1 0 E lv1
  ·rw [e2]; exact hnew b hlt
section
variable {d nm v : Nat} {elem sz elem2 sz2 : Nat} {es es2 : List (List PV)} {nw : Bool} {sl : List (Nat × PV)} {m : List (Nat × Ent)} {g : Nat} {r : List LOper} {acc : List Log} {K : List Log → St → Prop}
theorem W.callB {as : List LX} {args xs : List PV} {res res' : PV} {ns : List Nat} (h : PMut P f (args.map (bd sz es)) [] res [(70000, ⟨0, elem2, sz2, es2, true, false, false⟩)]) (hx : lxs sl as = some xs)
  (hxa : xs = args.map (m3 fun _ _ => (nm, v))) (hok : args.all (fun p => bok p && ok3 [1, 1, 70000] p) = true) (hfl : es2.all (fun cs => cs.all flatC) = true) (hfr : flat2 res = true) (hres : ok3 [1, 1, 70000] res = true)
  (hr : m3 (Mut.post ⟨[(1, ⟨0, elem, sz, es, true, false, false⟩)], [(1, ⟨0, elem, sz, es, true, false, false⟩), (70000, ⟨0, elem2, sz2, es2, true, false, false⟩)], fun _ => (nm, v), fun _ => d⟩ g) res = res')
  (hm : look m nm = some ⟨v, elem, sz, es, true, nw, false⟩) (hf : freshF (look m) d = true) (hne : nm ≠ d) (hns : nm :: d :: d :: xs.flatMap nameOf = ns) (hu : (r.all fun o => o.dst != some d) = true)
  (kk : W P r ((d :: ns, [nm, d]) :: acc) ⟨(d, res') :: sl, (nm, ⟨v, elem, sz, es, true, nw, false⟩) :: (d, ⟨g, elem2, sz2, es2, true, true, false⟩) :: m, g⟩ K) : W P (⟨some d, none, .call f as⟩ :: r) acc ⟨sl, m, g⟩ K := by
 have hb1 : args.all bok = true := List.all_eq_true.2 fun p hp => by
  have := List.all_eq_true.1 hok p hp
  simp only [Bool.and_eq_true] at this
  exact this.1
 have hp := PMut.borrow (elem := elem) h hb1 hfl hfr
 refine W.callM (fun _ => (nm, v)) (fun _ => d) hp hx ?_ (res' := res') (up := [(nm, ⟨v, elem, sz, es, true, nw, false⟩), (d, ⟨g, elem2, sz2, es2, true, true, false⟩)]) hr ?_ (ns := ns) ?_ hu kk
 ·refine ⟨by rw [hxa]; simp, ?_, ?_, ?_, ?_, ?_, ?_, ?_, ?_⟩
  ·intro j x p h1 h2
   rw [hxa, List.getElem?_map, h2] at h1
   injection h1 with h1
   have := List.all_eq_true.1 hok p (List.mem_of_getElem? h2)
   simp only [Bool.and_eq_true] at this
   exact .tok h1.symm this.2
  ·intro x hx2; simp at hx2; subst hx2; simp [look]
  ·intro x hx2; simp at hx2; rcases hx2 with rfl | rfl <;> simp [look]
  ·intro x hx2 y hy hne2
   simp at hx2 hy; subst hx2 hy; exact absurd rfl hne2
  ·intro x hx2 y hy hne2
   simp at hx2 hy
   rcases hx2 with rfl | rfl <;> rcases hy with rfl | rfl <;> first | exact absurd rfl hne2 | (simp [Mut.post]; first | exact hne | exact fun e => hne e.symm)
  ·intro x hx2
   simp at hx2; subst hx2
   exact ⟨⟨rfl, rfl, rfl⟩, ⟨v, elem, sz, es, true, nw, false⟩, by simp [liveF, hm], rfl, rfl, .inl ⟨rfl, rfl, rfl⟩⟩
  ·intro x hx2
   simp at hx2
   rcases hx2 with rfl | rfl
   ·refine ⟨⟨rfl, rfl, rfl⟩, ?_, ?_, .inl rfl⟩
    ·intro e0 h0; simp [look] at h0; subst h0; exact ⟨rfl, rfl⟩
    ·intro h0; simp [look] at h0
   ·refine ⟨⟨rfl, rfl, rfl⟩, ?_, ?_, .inl rfl⟩
    ·intro e0 h0; simp [look] at h0
    ·intro _; exact ⟨hf, fun x hx3 => by simp at hx3; subst hx3; exact hne⟩
  ·exact hres
 ·simp [Mut.up, Mut.post, Mut.ent, Mut.gone, hm]
 ·simpa [Mut.foot] using hns
theorem mutOk_newT {look : Look} {gen : Nat} {xs args : List PV} {e : Ent} {res : PV} (hl : Les xs args) (hd : xs.all PV.dataOk = true) (he : e.ver = 0 ∧ e.new = false ∧ e.dead = false ∧ e.data = true) (hf : freshF look d = true) (hres : ok3 [70000] res = true) :
  MutOk look gen xs args res ⟨[], [(70000, e)], fun _ => (0, 0), fun _ => d⟩ := by
 refine ⟨hl.out.1, fun j x p h1 h2 => .data (List.all_eq_true.1 hd x (List.mem_of_getElem? h1)) (hl.out.2 j x p h1 h2), by simp, fun x hx => ?_, by simp, fun x hx y hy hne => ?_, by simp, fun x hx => ?_, hres⟩
 ·simp at hx; subst hx; simp [PW.look]
 ·simp at hx hy; subst hx hy; exact absurd rfl hne
 ·simp at hx; subst hx
  exact ⟨⟨he.1, he.2.1, he.2.2.1⟩, fun _ h => by simp [PW.look] at h, fun _ => ⟨hf, by simp⟩, .inl he.2.2.2⟩
theorem W.callOT {as : List LX} {args xs : List PV} {res res' : PV} (h : PMut P f args [] res [(70000, ⟨0, elem, sz, es, true, false, false⟩)]) (hx : lxs sl as = some xs) (hl : Les xs args) (hd : xs.all PV.dataOk = true) (hf : freshF (look m) d = true) (hres : ok3 [70000] res = true)
  (hr : m3 (Mut.post ⟨[], [(70000, ⟨0, elem, sz, es, true, false, false⟩)], fun _ => (0, 0), fun _ => d⟩ g) res = res') (hu : (r.all fun o => o.dst != some d) = true)
  (kk : W P r ((d :: d :: xs.flatMap nameOf, [d]) :: acc) ⟨(d, res') :: sl, (d, ⟨g, elem, sz, es, true, true, false⟩) :: m, g⟩ K) : W P (⟨some d, none, .call f as⟩ :: r) acc ⟨sl, m, g⟩ K :=
 W.callM (fun _ => (0, 0)) (fun _ => d) h hx (mutOk_newT hl hd ⟨rfl, rfl, rfl, rfl⟩ hf hres) hr rfl rfl hu kk
end
end Go.PW
