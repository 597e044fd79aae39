/-
  PwMut: a call that changes rows of the caller's.
-/
import Derived.Test.YtjmmlddioeehbaaGreatDoorPwSa
namespace Go.PW
open Go.RowKit
structure TokMap (ns : List Nat) (C C' : Ctx) (tk : Nat → Nat → Nat × Nat) : Prop where
  use_ : ∀ nm, nm ∈ ns → usable C'.mem C'.gen (tk nm 0).1 (tk nm 0).2
  live_ : ∀ nm e', nm ∈ ns → live C'.mem (tk nm 0).1 (tk nm 0).2 = some e' → ∃ e, live C.mem nm 0 = some e ∧ e.sz = e'.sz ∧ e.es.length = e'.es.length ∧ C'.hd (tk nm 0).1 = C.hd nm
  dv_ : ∀ v p, DV C.w (imm C.mem C.hd C.I0) v p → DV C'.w (imm C'.mem C'.hd C'.I0) v p
section
variable {ns : List Nat} {C C' : Ctx} {tk : Nat → Nat → Nat × Nat}
theorem m0_dv {w : World} {I : Nat → Prop} {v : Value} {p : PV} (h : DV w I v p) : DV w I v (m0 tk p) := by
  cases p with
  | own => cases h
  | sub => cases h
  | pown => cases h
  | agg => exact .top _
  | tup => exact .top _
  | fn => exact .top _
  | _ => exact h
theorem mc_dv {w : World} {I : Nat → Prop} {v : Value} {p : PV} (h : DV w I v p) : DV w I v (mc tk p) := by
  cases p with
  | fn f a b =>
    cases h with
    | fn _ vf vc _ _ h1 h2 h3 h4 =>
      refine .fn f vf vc _ _ (by simpa using h1) (by simpa using h2) (fun j u q g1 g2 => ?_) fun j u q g1 g2 => ?_
      · rw [List.getElem?_map, Option.map_eq_some_iff] at g2
        obtain ⟨q', g3, rfl⟩ := g2
        exact m0_dv (h3 j u q' g1 g3)
      · rw [List.getElem?_map, Option.map_eq_some_iff] at g2
        obtain ⟨q', g3, rfl⟩ := g2
        exact m0_dv (h4 j u q' g1 g3)
  | agg cs =>
    simp only [mc]
    split
    · rename_i hall
      cases h with
      | agg vs _ hl _ hv =>
        refine .agg vs _ (by simpa using hl) (fun q hq => ?_) fun j u q g1 g2 => ?_
        · rw [List.mem_map] at hq
          obtain ⟨q', h1, rfl⟩ := hq
          exact List.all_eq_true.1 hall q' h1
        · rw [List.getElem?_map, Option.map_eq_some_iff] at g2
          obtain ⟨q', g3, rfl⟩ := g2
          exact m0_dv (hv j u q' g1 g3)
    · exact .top _
  | _ => exact m0_dv (tk := tk) h
theorem m1_dv {w : World} {I : Nat → Prop} {v : Value} {p : PV} (h : DV w I v p) : DV w I v (m1 tk p) := by
  cases p with
  | fn f a b =>
    cases h with
    | fn _ vf vc _ _ h1 h2 h3 h4 =>
      refine .fn f vf vc _ _ (by simpa using h1) (by simpa using h2) (fun j u q g1 g2 => ?_) fun j u q g1 g2 => ?_
      · rw [List.getElem?_map, Option.map_eq_some_iff] at g2
        obtain ⟨q', g3, rfl⟩ := g2
        exact mc_dv (h3 j u q' g1 g3)
      · rw [List.getElem?_map, Option.map_eq_some_iff] at g2
        obtain ⟨q', g3, rfl⟩ := g2
        exact mc_dv (h4 j u q' g1 g3)
  | _ => exact m0_dv (tk := tk) h
theorem m1_one {p : PV} (h : p.one = true) : (m1 tk p).one = true := by
  cases p <;> first | rfl | simp [PV.one] at h
theorem m0_rv (T : TokMap ns C C' tk) {v : Value} {p : PV} (h : RV C v p) (ho : ok0 ns p = true) : RV C' v (m0 tk p) := by
  cases p with
  | own nm ver =>
    simp only [ok0, Bool.and_eq_true, beq_iff_eq, List.contains_iff_mem] at ho
    obtain ⟨rfl, hn⟩ := ho
    refine .own _ _ v h.own_inv.2.1 (T.use_ nm hn) fun e' he => ?_
    obtain ⟨e, h1, _, _, h4⟩ := T.live_ nm e' hn he
    rw [h4]; exact h.own_inv.2.2 e h1
  | sub nm ver lo hi =>
    simp only [ok0, Bool.and_eq_true, beq_iff_eq, List.contains_iff_mem] at ho
    obtain ⟨rfl, hn⟩ := ho
    refine .sub _ _ lo hi v h.sub_inv.2.1 (T.use_ nm hn) fun e' he => ?_
    obtain ⟨e, h1, h2, h3, h4⟩ := T.live_ nm e' hn he
    rw [h4, ← h2, ← h3]; exact h.sub_inv.2.2 e h1
  | pown nm ver i j =>
    simp only [ok0, Bool.and_eq_true, beq_iff_eq, List.contains_iff_mem] at ho
    obtain ⟨rfl, hn⟩ := ho
    refine .pown _ _ i j v h.pown_inv.2.1 (T.use_ nm hn) fun e' he => ?_
    obtain ⟨e, h1, h2, h3, h4⟩ := T.live_ nm e' hn he
    rw [h4, ← h2]; exact h.pown_inv.2.2 e h1
  | agg => exact .data _ _ (.top _)
  | tup => exact .data _ _ (.top _)
  | fn => exact .data _ _ (.top _)
  | top => exact .data _ _ (.top _)
  | _ => cases h with | data _ _ h => exact .data _ _ (T.dv_ _ _ h)
theorem mc_rv (T : TokMap ns C C' tk) {v : Value} {p : PV} (h : RV C v p) (ho : okc ns p = true) : RV C' v (mc tk p) := by
  cases p with
  | fn f a b =>
    simp only [okc, Bool.and_eq_true, List.all_eq_true] at ho
    cases h with
    | data _ _ h => exact .data _ _ (mc_dv (T.dv_ _ _ h))
    | fn _ vf vc _ _ h1 h2 h3 h4 =>
      refine .fn f vf vc _ _ (by simpa using h1) (by simpa using h2) (fun j u q g1 g2 => ?_) fun j u q g1 g2 => ?_
      · rw [List.getElem?_map, Option.map_eq_some_iff] at g2
        obtain ⟨q', g3, rfl⟩ := g2
        exact m0_rv T (h3 j u q' g1 g3) (ho.1 _ (List.mem_of_getElem? g3))
      · rw [List.getElem?_map, Option.map_eq_some_iff] at g2
        obtain ⟨q', g3, rfl⟩ := g2
        exact m0_rv T (h4 j u q' g1 g3) (ho.2 _ (List.mem_of_getElem? g3))
  | agg cs =>
    simp only [okc, List.all_eq_true, Bool.and_eq_true] at ho
    obtain ⟨vs, rfl, hl, hone, hv⟩ := h.agg_inv
    simp only [mc]
    split
    · rename_i hall
      refine .agg vs _ (by simpa using hl) (fun q hq => ?_) fun j u q g1 g2 => ?_
      · rw [List.mem_map] at hq
        obtain ⟨q', h1, rfl⟩ := hq
        exact List.all_eq_true.1 hall q' h1
      · rw [List.getElem?_map, Option.map_eq_some_iff] at g2
        obtain ⟨q', g3, rfl⟩ := g2
        exact m0_rv T (hv j u q' g1 g3) (ho _ (List.mem_of_getElem? g3)).1
    · exact .data _ _ (.top _)
  | _ => exact m0_rv T h ho
theorem m1_rv (T : TokMap ns C C' tk) {v : Value} {p : PV} (h : RV C v p) (ho : ok1 ns p = true) : RV C' v (m1 tk p) := by
  cases p with
  | fn f a b =>
    simp only [ok1, Bool.and_eq_true, List.all_eq_true] at ho
    cases h with
    | data _ _ h => exact .data _ _ (m1_dv (T.dv_ _ _ h))
    | fn _ vf vc _ _ h1 h2 h3 h4 =>
      refine .fn f vf vc _ _ (by simpa using h1) (by simpa using h2) (fun j u q g1 g2 => ?_) fun j u q g1 g2 => ?_
      · rw [List.getElem?_map, Option.map_eq_some_iff] at g2
        obtain ⟨q', g3, rfl⟩ := g2
        exact mc_rv T (h3 j u q' g1 g3) (ho.1 _ (List.mem_of_getElem? g3))
      · rw [List.getElem?_map, Option.map_eq_some_iff] at g2
        obtain ⟨q', g3, rfl⟩ := g2
        exact mc_rv T (h4 j u q' g1 g3) (ho.2 _ (List.mem_of_getElem? g3))
  | _ => exact m0_rv T h ho
theorem m2_rv (T : TokMap ns C C' tk) {v : Value} {p : PV} (h : RV C v p) (ho : ok2 ns p = true) : RV C' v (m2 tk p) := by
  cases p with
  | agg cs =>
    simp only [ok2, List.all_eq_true] at ho
    obtain ⟨vs, rfl, hl, hone, hv⟩ := h.agg_inv
    refine .agg vs _ (by simpa using hl) (fun q hq => ?_) fun j u q g1 g2 => ?_
    · rw [List.mem_map] at hq
      obtain ⟨q', h1, rfl⟩ := hq
      exact m1_one (hone q' h1)
    · rw [List.getElem?_map, Option.map_eq_some_iff] at g2
      obtain ⟨q', g3, rfl⟩ := g2
      exact m1_rv T (hv j u q' g1 g3) (ho _ (List.mem_of_getElem? g3))
  | _ => exact m1_rv T h ho
theorem m3_rv (T : TokMap ns C C' tk) {v : Value} {p : PV} (h : RV C v p) (ho : ok3 ns p = true) : RV C' v (m3 tk p) := by
  cases p with
  | tup cs =>
    simp only [ok3, List.all_eq_true] at ho
    obtain ⟨vs, rfl, hl, hv⟩ := h.tup_inv
    refine .tup vs _ (by simpa using hl) fun j u q g1 g2 => ?_
    rw [List.getElem?_map, Option.map_eq_some_iff] at g2
    obtain ⟨q', g3, rfl⟩ := g2
    exact m2_rv T (hv j u q' g1 g3) (ho _ (List.mem_of_getElem? g3))
  | _ => exact m2_rv T h ho
end
structure TokBack (C C' : Ctx) (tk : Nat → Nat → Nat × Nat) : Prop where
  use_ : ∀ nm, usable C.mem C.gen nm 0
  live_ : ∀ nm e, live C.mem nm 0 = some e → ∃ e', live C'.mem (tk nm 0).1 (tk nm 0).2 = some e' ∧ e.sz = e'.sz ∧ e.es.length = e'.es.length ∧ C'.hd (tk nm 0).1 = C.hd nm
  dv_ : ∀ v p, DV C'.w (imm C'.mem C'.hd C'.I0) v p → DV C.w (imm C.mem C.hd C.I0) v p
section
variable {ns : List Nat} {C C' : Ctx} {tk : Nat → Nat → Nat × Nat}
theorem b0_rv (T : TokBack C C' tk) {v : Value} {p : PV} (h : RV C' v (m0 tk p)) (ho : ok0 ns p = true) : RV C v p := by
  cases p with
  | own nm ver =>
    simp only [ok0, Bool.and_eq_true, beq_iff_eq] at ho
    obtain ⟨rfl, _⟩ := ho
    refine .own _ _ v h.own_inv.2.1 (T.use_ nm) fun e he => ?_
    obtain ⟨e', h1, _, _, h4⟩ := T.live_ nm e he
    rw [← h4]; exact h.own_inv.2.2 e' h1
  | sub nm ver lo hi =>
    simp only [ok0, Bool.and_eq_true, beq_iff_eq] at ho
    obtain ⟨rfl, _⟩ := ho
    refine .sub _ _ lo hi v h.sub_inv.2.1 (T.use_ nm) fun e he => ?_
    obtain ⟨e', h1, h2, h3, h4⟩ := T.live_ nm e he
    rw [← h4, h2, h3]; exact h.sub_inv.2.2 e' h1
  | pown nm ver i j =>
    simp only [ok0, Bool.and_eq_true, beq_iff_eq] at ho
    obtain ⟨rfl, _⟩ := ho
    refine .pown _ _ i j v h.pown_inv.2.1 (T.use_ nm) fun e he => ?_
    obtain ⟨e', h1, h2, h3, h4⟩ := T.live_ nm e he
    rw [← h4, h2]; exact h.pown_inv.2.2 e' h1
  | agg => simp [ok0] at ho
  | tup => simp [ok0] at ho
  | fn => simp [ok0] at ho
  | top => exact .data _ _ (.top _)
  | _ => cases h with | data _ _ h => exact .data _ _ (T.dv_ _ _ h)
theorem bc_rv (T : TokBack C C' tk) {v : Value} {p : PV} (h : RV C' v (mc tk p)) (ho : okc ns p = true) : RV C v p := by
  cases p with
  | fn f a b =>
    simp only [okc, Bool.and_eq_true, List.all_eq_true] at ho
    have key : ∃ vf vc : Array Value, v = .func (.func f) vf vc ∧ vf.size = a.length ∧ vc.size = b.length ∧
        (∀ (j : Nat) (u : Value) (q : PV), vf[j]? = some u → (a.map (m0 tk))[j]? = some q → RV C' u q) ∧ (∀ (j : Nat) (u : Value) (q : PV), vc[j]? = some u → (b.map (m0 tk))[j]? = some q → RV C' u q) := by
      cases h with
      | data _ _ h => cases h with | fn _ vf vc _ _ h1 h2 h3 h4 => exact ⟨vf, vc, rfl, by simpa using h1, by simpa using h2, fun j u q g1 g2 => .data _ _ (h3 j u q g1 g2), fun j u q g1 g2 => .data _ _ (h4 j u q g1 g2)⟩
      | fn _ vf vc _ _ h1 h2 h3 h4 => exact ⟨vf, vc, rfl, by simpa using h1, by simpa using h2, h3, h4⟩
    obtain ⟨vf, vc, rfl, h1, h2, h3, h4⟩ := key
    refine .fn f vf vc _ _ h1 h2 (fun j u q g1 g2 => ?_) fun j u q g1 g2 => ?_
    · exact b0_rv T (h3 j u _ g1 (by rw [List.getElem?_map, g2]; rfl)) (ho.1 q (List.mem_of_getElem? g2))
    · exact b0_rv T (h4 j u _ g1 (by rw [List.getElem?_map, g2]; rfl)) (ho.2 q (List.mem_of_getElem? g2))
  | agg cs =>
    simp only [okc, List.all_eq_true, Bool.and_eq_true] at ho
    have hall : (cs.all fun p => (m0 tk p).one) = true := by
      rw [List.all_eq_true]
      intro p hp
      obtain ⟨h1, h2⟩ := ho p hp
      cases p <;> first | rfl | (simp [ok0] at h1; done) | (simp [PV.one] at h2; done)
    have e : mc tk (.agg cs) = .agg (cs.map (m0 tk)) := by simp only [mc]; rw [if_pos hall]
    rw [e] at h
    obtain ⟨vs, rfl, hl, hone, hv⟩ := h.agg_inv
    refine .agg vs _ (by simpa using hl) (fun q hq => (ho q hq).2) fun j u q g1 g2 => ?_
    exact b0_rv T (hv j u _ g1 (by rw [List.getElem?_map, g2]; rfl)) (ho q (List.mem_of_getElem? g2)).1
  | _ => exact b0_rv (ns := ns) T h ho
theorem b1_rv (T : TokBack C C' tk) {v : Value} {p : PV} (h : RV C' v (m1 tk p)) (ho : ok1 ns p = true) : RV C v p := by
  cases p with
  | fn f a b =>
    simp only [ok1, Bool.and_eq_true, List.all_eq_true] at ho
    have key : ∃ vf vc : Array Value, v = .func (.func f) vf vc ∧ vf.size = a.length ∧ vc.size = b.length ∧
        (∀ (j : Nat) (u : Value) (q : PV), vf[j]? = some u → (a.map (mc tk))[j]? = some q → RV C' u q) ∧ (∀ (j : Nat) (u : Value) (q : PV), vc[j]? = some u → (b.map (mc tk))[j]? = some q → RV C' u q) := by
      cases h with
      | data _ _ h => cases h with | fn _ vf vc _ _ h1 h2 h3 h4 => exact ⟨vf, vc, rfl, by simpa using h1, by simpa using h2, fun j u q g1 g2 => .data _ _ (h3 j u q g1 g2), fun j u q g1 g2 => .data _ _ (h4 j u q g1 g2)⟩
      | fn _ vf vc _ _ h1 h2 h3 h4 => exact ⟨vf, vc, rfl, by simpa using h1, by simpa using h2, h3, h4⟩
    obtain ⟨vf, vc, rfl, h1, h2, h3, h4⟩ := key
    refine .fn f vf vc _ _ h1 h2 (fun j u q g1 g2 => ?_) fun j u q g1 g2 => ?_
    · exact bc_rv T (h3 j u _ g1 (by rw [List.getElem?_map, g2]; rfl)) (ho.1 q (List.mem_of_getElem? g2))
    · exact bc_rv T (h4 j u _ g1 (by rw [List.getElem?_map, g2]; rfl)) (ho.2 q (List.mem_of_getElem? g2))
  | _ => exact b0_rv (ns := ns) T h ho
theorem b2_rv (T : TokBack C C' tk) {v : Value} {p : PV} (h : RV C' v (m2 tk p)) (ho : ok2 ns p = true) : RV C v p := by
  cases p with
  | agg cs =>
    simp only [ok2, List.all_eq_true] at ho
    obtain ⟨vs, rfl, hl, hone, hv⟩ := h.agg_inv
    have one' : ∀ p : PV, (m1 tk p).one = true → ok1 ns p = true → p.one = true := by
      intro p h1 h2
      cases p <;> first | rfl | (simp [ok1, ok0] at h2; done) | (simp [m1, m0, PV.one] at h1; done)
    refine .agg vs _ (by simpa using hl) (fun q hq => one' q (hone _ (List.mem_map_of_mem hq)) (ho q hq)) fun j u q g1 g2 => ?_
    exact b1_rv T (hv j u _ g1 (by rw [List.getElem?_map, g2]; rfl)) (ho q (List.mem_of_getElem? g2))
  | _ => exact b1_rv (ns := ns) T h ho
theorem b3_rv (T : TokBack C C' tk) {v : Value} {p : PV} (h : RV C' v (m3 tk p)) (ho : ok3 ns p = true) : RV C v p := by
  cases p with
  | tup cs =>
    simp only [ok3, List.all_eq_true] at ho
    obtain ⟨vs, rfl, hl, hv⟩ := h.tup_inv
    refine .tup vs _ (by simpa using hl) fun j u q g1 g2 => ?_
    exact b2_rv T (hv j u _ g1 (by rw [List.getElem?_map, g2]; rfl)) (ho q (List.mem_of_getElem? g2))
  | _ => exact b2_rv (ns := ns) T h ho
end
theorem ownsRow_base0 {w : World} {B : Nat} {e : TypeId} {sz n : Nat} {v : Value} {xs : List Value} (h : w.ownsRow B e sz v n xs) : w.ownsRow 0 e sz v n xs := by
  refine ⟨h.1, ?_⟩
  rcases h.2 with h0 | ⟨g, cap, cur, h1, h2, rest⟩
  · exact .inl h0
  · exact .inr ⟨g, cap, cur, h1, Nat.zero_le _, rest⟩
theorem lk_mem {α : Type} : ∀ {l : List (Nat × α)} {n : Nat} {e : α}, look l n = some e → (n, e) ∈ l
  | [], n, e, h => by simp [look] at h
  | (k, v) :: r, n, e, h => by
    simp only [look] at h
    split at h
    · rename_i hk; subst hk; injection h with h; subst h; simp
    · exact List.mem_cons_of_mem _ (lk_mem h)
theorem mem_lk {α : Type} : ∀ {l : List (Nat × α)} {n : Nat} {e : α}, (n, e) ∈ l → ∃ e', look l n = some e'
  | (k, v) :: r, n, e, h => by
    simp only [look]
    split
    · exact ⟨v, rfl⟩
    · rename_i hk
      rcases List.mem_cons.1 h with h | h
      · injection h with h1 h2; exact absurd h1.symm hk
      · exact mem_lk h
theorem lk_app {α : Type} : ∀ (l r : List (Nat × α)) (n : Nat), look (l ++ r) n = (look l n).or (look r n)
  | [], r, n => by simp [look]
  | (k, v) :: l, r, n => by
    simp only [List.cons_append, look]
    split
    · rfl
    · exact lk_app l r n
theorem lk_map_at {α β : Type} {k : α → Nat} {g : α → β} {x : α} : ∀ {l : List α}, x ∈ l → (∀ y ∈ l, k y = k x → g y = g x) → look (l.map fun y => (k y, g y)) (k x) = some (g x)
  | y :: r, hx, inj => by
    simp only [List.map_cons, look]
    by_cases hk : k y = k x
    · rw [if_pos hk, inj y (by simp) hk]
    · rw [if_neg hk]
      rcases List.mem_cons.1 hx with h | h
      · subst h; exact absurd rfl hk
      · exact lk_map_at h fun z hz => inj z (List.mem_cons_of_mem _ hz)
theorem lk_none {α : Type} {l : List (Nat × α)} {n : Nat} (h : ∀ x ∈ l, x.1 ≠ n) : look l n = none := by
  cases hl : look l n with
  | none => rfl
  | some e => exact absurd rfl (h _ (lk_mem hl))
theorem RV.dataOk' {C : Ctx} {v : Value} {p : PV} (h : RV C v p) (hp : p.dataOk = true) : DV C.w (imm C.mem C.hd C.I0) v p := by
  cases p with
  | agg cs =>
    obtain ⟨vs, rfl, hl, ho, hv⟩ := h.agg_inv
    simp only [PV.dataOk, List.all_eq_true] at hp
    exact .agg vs cs hl ho fun j u q h1 h2 => (hv j u q h1 h2).isD (hp q (List.mem_of_getElem? h2))
  | pim cs => cases h with | data _ _ h => exact h
  | fn f first caps =>
    simp only [PV.dataOk, Bool.and_eq_true, List.all_eq_true] at hp
    cases h with
    | data _ _ h => exact h
    | fn _ vf vc _ _ h1 h2 h3 h4 =>
      exact .fn f vf vc first caps h1 h2 (fun j u q a1 a2 => (h3 j u q a1 a2).isD (hp.1 q (List.mem_of_getElem? a2))) fun j u q a1 a2 => (h4 j u q a1 a2).isD (hp.2 q (List.mem_of_getElem? a2))
  | _ => exact h.isD hp
section
variable {P : Program} {w0 : Base} {C : Ctx} {u : Mut} {xs args : List PV} {res : PV}
def Mut.ctx (u : Mut) (C : Ctx) : Ctx := ⟨C.w, u.mem, fun nm => C.hd (u.τ nm).1, 2, fun b => (imm C.mem C.hd C.I0 b ∨ ∃ nm e, live u.mem nm 0 = some e ∧ (C.hd (u.τ nm).1).ownBlock = some b) ∨ C.w.heap.size ≤ b, C.gh⟩
theorem mut_row (ok : MutOk (look C.mem) C.gen xs args res u) {nm v : Nat} {e : Ent} (h : live u.mem nm v = some e) :
    v = 0 ∧ (nm, e) ∈ u.mem ∧ e.new = false ∧ ∃ e0, live C.mem (u.τ nm).1 (u.τ nm).2 = some e0 ∧ e0.elem = e.elem ∧ e0.sz = e.sz ∧ e0.es.length = e.es.length ∧ ((e.data = true ∧ e0.data = true ∧ e0.es = e.es) ∨
    (e.data = false ∧ e0.es = e.es.map (·.map (m1 fun n _ => u.τ n)) ∧ ∀ cs ∈ e.es, ∀ p ∈ cs, ok1 u.names p = true)) := by
  obtain ⟨h1, h2, h3⟩ := live_some.1 h
  have hm := lk_mem h1
  have G := ok.given _ hm
  obtain ⟨e0, g1, g2, g3, g4⟩ := G.there
  refine ⟨by rw [← h2]; exact G.hdr.1, hm, G.hdr.2.1, e0, g1, g2, g3, ?_, g4⟩
  rcases g4 with ⟨_, _, h⟩ | ⟨_, h, _⟩
  · rw [h]
  · rw [h, List.length_map]
theorem mut_free (ok : MutOk (look C.mem) C.gen xs args res u) {b : Nat} (h : free C.mem C.hd b) : free u.mem (u.ctx C).hd b := by
  intro nm v e he
  obtain ⟨_, _, _, e0, h1, _⟩ := mut_row ok he
  exact h _ _ e0 h1
theorem mut_back (ok : MutOk (look C.mem) C.gen xs args res u) : TokBack (u.ctx C) C (fun nm _ => u.τ nm) := by
  refine ⟨fun nm => .inl (by show 0 < 2; omega), fun nm e he => ?_, fun v p h => ?_⟩
  · obtain ⟨_, _, _, e0, h1, h2, h3, h4, _⟩ := mut_row ok he
    exact ⟨e0, h1, h3.symm, h4.symm, rfl⟩
  · exact h.mono (Nat.le_refl _) fun b _ hi => ⟨⟨.inl (.inl hi), mut_free ok hi.2⟩, rfl⟩
theorem mut_inv (M : MemInv w0 C) (ok : MutOk (look C.mem) C.gen xs args res u) : MemInv ⟨C.w, 0, Nat.zero_le _⟩ (u.ctx C) := by
  have T := mut_back ok
  refine ⟨fun b hb => .inr hb, M.glob.mono (Nat.le_refl _) fun b _ hi => ⟨⟨.inl (.inl hi), mut_free ok hi.2⟩, rfl⟩, ⟨rfl, rfl, rfl, Nat.le_refl _, fun _ _ => rfl⟩, fun nm e he => ?_, fun nm v e he => ?_, fun nm nm' v v' e e' b hne he he' hb => ?_, fun nm v e b he hb => ?_⟩
  · have G := (ok.given _ (lk_mem he)).hdr
    have g1 : e.ver = 0 := G.1
    have g2 : e.new = false := G.2.1
    refine ⟨fun h => ?_, fun _ => ?_⟩
    · rw [g2] at h; cases h
    · rw [g1]; show 0 < 2; omega
  · obtain ⟨_, _, _, e0, h1, h2, h3, h4, h5⟩ := mut_row ok he
    obtain ⟨ys, o1, o2, o3⟩ := M.rows _ _ e0 h1
    refine ⟨ys, ?_, by rw [← h4]; exact o2, fun i cs hi => ?_⟩
    · have := ownsRow_base0 o1
      rw [h2, h3, h4] at this
      exact this
    · rcases h5 with ⟨d1, d2, d3⟩ | ⟨d1, d2, d3⟩
      · obtain ⟨c1, c2, c3⟩ := o3 i cs (by rw [d3]; exact hi)
        refine ⟨by rw [← h3]; exact c1, c2, fun j p hj => ?_⟩
        obtain ⟨y, a1, a2, a3⟩ := c3 j p hj
        have := T.dv_ _ _ (a3 d2)
        exact ⟨y, by rw [← h3]; exact a1, .data _ _ this, fun _ => this⟩
      · obtain ⟨c1, c2, c3⟩ := o3 i (cs.map (m1 fun n _ => u.τ n)) (by rw [d2, List.getElem?_map, hi]; rfl)
        have hcs := List.mem_of_getElem? hi
        refine ⟨by rw [← h3, ← c1, List.length_map], fun p hp => ?_, fun j p hj => ?_⟩
        · have h1' := c2 _ (List.mem_map_of_mem hp)
          have h2' := d3 cs hcs p hp
          cases p <;> first | rfl | (simp [ok1, ok0] at h2'; done) | (simp [m1, m0, PV.one] at h1')
        · obtain ⟨y, a1, a2, a3⟩ := c3 j _ (by rw [List.getElem?_map, hj]; rfl)
          exact ⟨y, by rw [← h3]; exact a1, b1_rv T a2 (d3 cs hcs p (List.mem_of_getElem? hj)), fun h => by rw [d1] at h; cases h⟩
  · obtain ⟨_, m1, _, e0, h1, _⟩ := mut_row ok he
    obtain ⟨_, m2, _, e1, h2, _⟩ := mut_row ok he'
    exact M.apart _ _ _ _ e0 e1 b (ok.inj _ m1 _ m2 hne) h1 h2 hb
  · obtain ⟨hv, _, _, e0, h1, _⟩ := mut_row ok he
    subst hv
    exact .inl (.inr ⟨nm, e, he, hb⟩)
theorem post_kept {g nm : Nat} (h : ∃ e, (nm, e) ∈ u.mem) : u.post g nm 0 = u.τ nm := by
  obtain ⟨e, h⟩ := h
  unfold Mut.post
  rw [if_pos]
  rw [List.any_eq_true]
  exact ⟨_, h, by simp⟩
theorem post_new {g nm : Nat} (h : look u.mem nm = none) : u.post g nm 0 = (u.ν nm, g) := by
  unfold Mut.post
  rw [if_neg]
  rw [List.any_eq_true]
  rintro ⟨x, hx, hn⟩
  simp only [beq_iff_eq] at hn
  obtain ⟨e', he⟩ := mem_lk (n := x.1) (e := x.2) hx
  rw [hn, h] at he; cases he
theorem ent_len (u : Mut) (m : Look) (g nm : Nat) (e : Ent) : (u.ent m g nm e).es.length = e.es.length := by
  unfold Mut.ent
  simp only
  split
  · rfl
  · simp
theorem gone_mem {m : Look} {n : Nat} {e : Ent} (h : (n, e) ∈ u.gone m) : ∃ x ∈ u.mem, ∃ e0, n = (u.τ x.1).1 ∧ m n = some e0 ∧ e.dead = true ∧ e.new = e0.new ∧ e.ver = e0.ver := by
  unfold Mut.gone at h
  rw [List.mem_filterMap] at h
  obtain ⟨x, hx, h⟩ := h
  split at h
  · cases h
  · rw [Option.map_eq_some_iff] at h
    obtain ⟨e0, h1, h2⟩ := h
    injection h2 with h2 h3
    subst h2 h3
    exact ⟨x, hx, e0, rfl, h1, rfl, rfl, rfl⟩
theorem mut_look (ok : MutOk (look C.mem) C.gen xs args res u) {x : Nat × Ent} (hx : x ∈ u.mem') : look (u.up (look C.mem) C.gen ++ C.mem) (u.post C.gen x.1 0).1 = some (u.ent (look C.mem) C.gen x.1 x.2) := by
  unfold Mut.up
  rw [lk_app, lk_app, lk_map_at (k := fun y : Nat × Ent => (u.post C.gen y.1 0).1) (g := fun y : Nat × Ent => u.ent (look C.mem) C.gen y.1 y.2) hx]
  · rfl
  · intro y hy hk
    by_cases hn : y.1 = x.1
    · have : y.2 = x.2 := by
        have h1 := ok.nd' y hy
        have h2 := ok.nd' x hx
        rw [hn, h2] at h1; injection h1 with h1; exact h1.symm
      rw [hn, this]
    · exact absurd hk (ok.inj' y hy x hx hn)
theorem mut_look_out {n : Nat} (h : ∀ x ∈ u.mem', n ≠ (u.post C.gen x.1 0).1) : look (u.up (look C.mem) C.gen ++ C.mem) n = (look (u.gone (look C.mem)) n).or (look C.mem n) := by
  unfold Mut.up
  rw [lk_app, lk_app, lk_none (l := u.mem'.map _)]
  · rfl
  · intro x hx he
    rw [List.mem_map] at hx
    obtain ⟨y, hy, rfl⟩ := hx
    exact h y hy he.symm
theorem mut_live (ok : MutOk (look C.mem) C.gen xs args res u) {n v : Nat} {e' : Ent} (h : live (u.up (look C.mem) C.gen ++ C.mem) n v = some e') :
    (∃ x ∈ u.mem', n = (u.post C.gen x.1 0).1 ∧ v = (u.post C.gen x.1 0).2 ∧ e' = u.ent (look C.mem) C.gen x.1 x.2) ∨
    ((∀ x ∈ u.mem', n ≠ (u.post C.gen x.1 0).1) ∧ (∀ x ∈ u.mem, n ≠ (u.τ x.1).1) ∧ live C.mem n v = some e') := by
  obtain ⟨h1, h2, h3⟩ := live_some.1 h
  by_cases hp : ∃ x ∈ u.mem', n = (u.post C.gen x.1 0).1
  · obtain ⟨x, hx, rfl⟩ := hp
    refine .inl ⟨x, hx, rfl, ?_⟩
    have hl := mut_look ok hx
    rw [hl] at h1
    injection h1 with h1
    subst h1
    exact ⟨h2.symm, rfl⟩
  · have hp' : ∀ x ∈ u.mem', n ≠ (u.post C.gen x.1 0).1 := fun x hx he => hp ⟨x, hx, he⟩
    rw [mut_look_out hp'] at h1
    cases hg : look (u.gone (look C.mem)) n with
    | some e =>
      rw [hg] at h1
      simp only [Option.or] at h1
      injection h1 with h1; subst h1
      obtain ⟨_, _, _, _, _, hd, _⟩ := gone_mem (lk_mem hg)
      rw [hd] at h3; cases h3
    | none =>
      rw [hg] at h1
      simp only [Option.or] at h1
      refine .inr ⟨hp', fun x hx he => ?_, live_some.2 ⟨h1, h2, h3⟩⟩
      subst he
      by_cases hk : u.mem'.any (fun y => y.1 == x.1) = true
      · rw [List.any_eq_true] at hk
        obtain ⟨y, hy, hyx⟩ := hk
        simp only [beq_iff_eq] at hyx
        refine hp' y hy ?_
        rw [post_kept (by rw [hyx]; exact ⟨x.2, hx⟩), hyx]
      · obtain ⟨e0, g1, _⟩ := (ok.given x hx).there
        rw [← live_eq] at g1
        have : ((u.τ x.1).1, { e0 with dead := true }) ∈ u.gone (look C.mem) := by
          unfold Mut.gone
          rw [List.mem_filterMap]
          exact ⟨x, hx, by rw [if_neg hk, (live_some.1 g1).1]; rfl⟩
        obtain ⟨e1, he1⟩ := mem_lk this
        rw [he1] at hg; cases hg
theorem mut_new (ok : MutOk (look C.mem) C.gen xs args res u) {n : Nat} {y : Ent} (hy : look C.mem n = some y) (hn : y.new = true) : ∃ e, look (u.up (look C.mem) C.gen ++ C.mem) n = some e ∧ e.new = true := by
  by_cases hp : ∃ x ∈ u.mem', n = (u.post C.gen x.1 0).1
  · obtain ⟨x, hx, rfl⟩ := hp
    refine ⟨_, mut_look ok hx, ?_⟩
    unfold Mut.ent
    simp only
    split
    · rename_i hk
      rw [List.any_eq_true] at hk
      obtain ⟨z, hz, hzx⟩ := hk
      simp only [beq_iff_eq] at hzx
      rw [post_kept ⟨z.2, by rw [← hzx]; exact hz⟩] at hy
      simp [hy, hn]
    · rfl
  · have hp' : ∀ x ∈ u.mem', n ≠ (u.post C.gen x.1 0).1 := fun x hx he => hp ⟨x, hx, he⟩
    rw [mut_look_out hp']
    cases hg : look (u.gone (look C.mem)) n with
    | some e =>
      obtain ⟨x, hx, e0, h1, h2, h3, h4, _⟩ := gone_mem (lk_mem hg)
      rw [hy] at h2; injection h2 with h2; subst h2
      exact ⟨e, rfl, by rw [h4]; exact hn⟩
    | none => exact ⟨y, by simpa using hy, hn⟩
theorem mut_after {f : FuncId} (M : MemInv w0 C) {vs : List Value} (hl : vs.length = xs.length) (hv : ∀ (j : Nat) (v : Value) (p : PV), vs[j]? = some v → xs[j]? = some p → RV C v p) (ok : MutOk (look C.mem) C.gen xs args res u) (h : PMut P f args u.mem res u.mem') :
    Calls P f vs.toArray C.w fun e w' => ∃ v hd', e = .returned v ∧ MemInv w0 { C with w := w', mem := u.up (look C.mem) C.gen ++ C.mem, hd := hd' } ∧
      Later C { C with w := w', mem := u.up (look C.mem) C.gen ++ C.mem, hd := hd' } ∧ RV { C with w := w', mem := u.up (look C.mem) C.gen ++ C.mem, hd := hd' } v (m3 (u.post C.gen) res) := by
  have T := mut_back ok
  have MI := mut_inv M ok
  refine (h C.w _ (fun b => imm C.mem C.hd C.I0 b ∨ ∃ nm e, live u.mem nm 0 = some e ∧ (C.hd (u.τ nm).1).ownBlock = some b) C.gh vs MI (hl.trans ok.len) fun j v p h1 h2 => ?_).mono ?_
  · have hlt := (List.getElem?_eq_some_iff.1 h1).1
    have hx : xs[j]? = some xs[j] := List.getElem?_eq_getElem (by omega)
    have hrv := hv j v _ h1 hx
    cases ok.args j _ p hx h2 with
    | data hd hle => exact .data _ _ ((T.dv_ _ _ (hrv.dataOk' hd)).le hle)
    | tok hx' ho => rw [hx'] at hrv; exact b3_rv T hrv ho
  rintro e w' ⟨v, hd', rfl, M', hr, hkeep, hfree⟩
  -- the headers afterwards
  let hd0 : Nat → Value := fun n => match u.mem'.find? (fun x => (u.post C.gen x.1 0).1 == n) with
    | some x => hd' x.1
    | none => C.hd n
  have hd_in : ∀ x ∈ u.mem', hd0 (u.post C.gen x.1 0).1 = hd' x.1 := by
    intro x hx
    show (match u.mem'.find? _ with | some x => hd' x.1 | none => _) = _
    split
    · rename_i y hy
      have h1 := List.mem_of_find?_eq_some hy
      have h2 := List.find?_some hy
      simp only [beq_iff_eq] at h2
      by_cases hn : y.1 = x.1
      · rw [hn]
      · exact absurd h2 (ok.inj' y h1 x hx hn)
    · rename_i hy
      rw [List.find?_eq_none] at hy
      exact absurd (hy x hx) (by simp)
  have hd_out : ∀ n, (∀ x ∈ u.mem', n ≠ (u.post C.gen x.1 0).1) → hd0 n = C.hd n := by
    intro n hn
    show (match u.mem'.find? _ with | some x => hd' x.1 | none => _) = _
    split
    · rename_i y hy
      have h1 := List.mem_of_find?_eq_some hy
      have h2 := List.find?_some hy
      simp only [beq_iff_eq] at h2
      exact absurd h2.symm (hn y h1)
    · rfl
  -- rows of the callee's view
  have lv' : ∀ x ∈ u.mem', live u.mem' x.1 0 = some x.2 := fun x hx => live_some.2 ⟨ok.nd' x hx, (ok.left x hx).hdr.1, (ok.left x hx).hdr.2.2⟩
  have kept : ∀ x ∈ u.mem', ∀ e0, look u.mem x.1 = some e0 → live u.mem x.1 0 = some e0 ∧ hd' x.1 = C.hd (u.τ x.1).1 ∧ x.2.sz = e0.sz ∧ x.2.es.length = e0.es.length ∧ (u.post C.gen x.1 0) = u.τ x.1 := by
    intro x hx e0 he
    have hm := lk_mem he
    have G := (ok.given _ hm).hdr
    have l1 : live u.mem x.1 0 = some e0 := live_some.2 ⟨he, G.1, G.2.2⟩
    exact ⟨l1, hkeep _ _ _ l1 (lv' x hx), ((ok.left x hx).kept e0 he).1, ((ok.left x hx).kept e0 he).2, post_kept ⟨e0, hm⟩⟩
  have other : ∀ n v e, (∀ x ∈ u.mem, n ≠ (u.τ x.1).1) → live C.mem n v = some e → ∀ b, (C.hd n).ownBlock = some b → b < C.w.heap.size ∧ free u.mem (u.ctx C).hd b := by
    intro n v e hn he b hb
    refine ⟨((M.rows n v e he).lt b hb).2, fun nm v' e' he' => ?_⟩
    obtain ⟨_, m1, _, e0, h1, _⟩ := mut_row ok he'
    exact M.apart n _ v _ e e0 b (hn _ m1) he h1 hb
  have hsize : C.w.heap.size ≤ w'.heap.size := M'.below.size
  have lt0 : ∀ b, b < w0.B → free u.mem (u.ctx C).hd b := by
    intro b hb nm v e he hbk
    obtain ⟨_, _, _, e0, h1, _⟩ := mut_row ok he
    have := ((M.rows _ _ e0 h1).lt b hbk).1
    omega
  have hreach : ∀ b, (u.ctx C).I0 b → C.I0 b := by
    rintro b ((hb | ⟨nm, e, he, hb⟩) | hb)
    · exact hb.1
    · obtain ⟨_, _, _, e0, h1, _⟩ := mut_row ok he
      exact M.own0 _ _ e0 b h1 hb
    · exact M.i0 b (Nat.le_trans M.below.size hb)
  have hnot : ∀ b, (u.ctx C).I0 b → ∀ n v e, (∀ x ∈ u.mem, n ≠ (u.τ x.1).1) → live C.mem n v = some e → (C.hd n).ownBlock ≠ some b := by
    rintro b ((hb | ⟨nm, e, he, hb⟩) | hb) n v e0 hn he0 hbk
    · exact hb.2 n v e0 he0 hbk
    · exact (other n v e0 hn he0 b hbk).2 nm 0 e he hb
    · have := (other n v e0 hn he0 b hbk).1; omega
  let C' : Ctx := { C with w := w', mem := u.up (look C.mem) C.gen ++ C.mem, hd := hd0 }
  have free' : ∀ b, free u.mem' hd' b → (∀ n v e, (∀ x ∈ u.mem, n ≠ (u.τ x.1).1) → live C.mem n v = some e → (C.hd n).ownBlock ≠ some b) → free C'.mem C'.hd b := by
    intro b h1 h2 n v e he
    rcases mut_live ok he with ⟨x, hx, rfl, rfl, rfl⟩ | ⟨g1, g2, g3⟩
    · show (hd0 _).ownBlock ≠ _
      rw [hd_in x hx]
      exact h1 x.1 0 x.2 (lv' x hx)
    · show (hd0 _).ownBlock ≠ _
      rw [hd_out n g1]
      exact h2 n v e g2 g3
  have L : Later C C' := by
    refine ⟨hsize, fun n v hu => ?_, fun n v e' hu he => ?_, fun _ h => h, fun b hb hf => ?_⟩
    · rcases hu with hu | ⟨hu, y, hy, hn⟩
      · exact .inl hu
      · refine .inr ⟨hu, mut_new ok hy hn⟩
    · rcases mut_live ok he with ⟨x, hx, rfl, rfl, rfl⟩ | ⟨g1, g2, g3⟩
      · cases hk : look u.mem x.1 with
        | some e0 =>
          obtain ⟨k1, k2, k3, k4, k5⟩ := kept x hx e0 hk
          obtain ⟨_, _, _, e1, j1, j2, j3, j4, _⟩ := mut_row ok k1
          rw [k5]
          refine ⟨e1, j1, ?_, ?_, ?_⟩
          · rw [j3]; exact k3.symm
          · rw [j4, ← k4]; exact (ent_len ..).symm
          · show hd0 _ = _
            rw [← k5, hd_in x hx, k2, k5]
        | none =>
          exfalso
          have hp := post_new (u := u) (g := C.gen) hk
          have hf := (ok.left x hx).fresh hk
          rw [hp] at hu
          have := fresh_usable hf.1 hu
          simp at this
      · exact ⟨e', g3, rfl, rfl, hd_out n g1⟩
    · have h1 := hfree b hb (mut_free ok hf)
      exact ⟨free' b h1.1 fun n v e _ he => hf n v e he, h1.2⟩
  have dv' : ∀ v p, DV w' (imm u.mem' hd' (u.ctx C).I0) v p → DV C'.w (imm C'.mem C'.hd C'.I0) v p := fun v p h =>
    h.mono (Nat.le_refl _) fun b _ hi => ⟨⟨hreach b hi.1, free' b hi.2 (hnot b hi.1)⟩, rfl⟩
  have use' : ∀ n v, usable C.mem C.gen n v → usable C'.mem C'.gen n v := L.use_
  have TM : TokMap u.names ⟨w', u.mem', hd', 2, (u.ctx C).I0, C.gh⟩ C' (u.post C.gen) := by
    refine ⟨fun nm hn => ?_, fun nm e' hn he => ?_, dv'⟩
    · cases hk : look u.mem nm with
      | some e0 =>
        rw [post_kept ⟨e0, lk_mem hk⟩]
        have G := (ok.given _ (lk_mem hk)).hdr
        obtain ⟨_, _, _, e1, j1, _⟩ := mut_row ok (live_some.2 ⟨hk, G.1, G.2.2⟩)
        refine use' _ _ ?_
        obtain ⟨k1, k2, k3⟩ := live_some.1 j1
        have hv := M.vers _ _ k1
        cases hnew : e1.new
        · have := hv.2 hnew; exact .inl (by omega)
        · exact .inr ⟨by rw [← k2]; exact hv.1 hnew, e1, k1, hnew⟩
      | none =>
        have hm : ∃ e, (nm, e) ∈ u.mem' := by
          unfold Mut.names at hn
          rw [List.mem_append] at hn
          rcases hn with hn | hn
          · rw [List.mem_map] at hn
            obtain ⟨x, hx, rfl⟩ := hn
            obtain ⟨e', he'⟩ := mem_lk (n := x.1) (e := x.2) hx
            rw [he'] at hk; cases hk
          · rw [List.mem_map] at hn
            obtain ⟨x, hx, rfl⟩ := hn
            exact ⟨x.2, hx⟩
        obtain ⟨e, hm⟩ := hm
        have h1 := mut_look ok hm
        refine .inr ⟨?_, _, h1, ?_⟩
        · rw [post_new hk]
        · unfold Mut.ent
          simp only
          rw [if_neg]
          rw [List.any_eq_true]
          rintro ⟨x, hx, hxn⟩
          simp only [beq_iff_eq] at hxn
          obtain ⟨e', he'⟩ := mem_lk (n := x.1) (e := x.2) hx
          rw [hxn, hk] at he'; cases he'
    · rcases mut_live ok he with ⟨x, hx, h1, h2, rfl⟩ | ⟨g1, g2, g3⟩
      · have hnm : nm = x.1 := by
          cases hk : look u.mem nm with
          | some e0 =>
            by_cases hxk : ∃ e1, look u.mem x.1 = some e1
            · obtain ⟨e1, hxk⟩ := hxk
              rw [post_kept ⟨e0, lk_mem hk⟩, post_kept (nm := x.1) ⟨e1, lk_mem hxk⟩] at h1
              by_cases hne : nm = x.1
              · exact hne
              · exact absurd h1 (ok.inj (nm, e0) (lk_mem hk) (x.1, e1) (lk_mem hxk) hne)
            · have hxn : look u.mem x.1 = none := by
                cases hh : look u.mem x.1 with
                | none => rfl
                | some e1 => exact absurd ⟨e1, hh⟩ hxk
              rw [post_kept ⟨e0, lk_mem hk⟩, post_new hxn] at h1
              exact absurd h1 (((ok.left x hx).fresh hxn).2 _ (lk_mem hk))
          | none =>
            have hm : ∃ e, (nm, e) ∈ u.mem' := by
              unfold Mut.names at hn
              rw [List.mem_append] at hn
              rcases hn with hn | hn
              · rw [List.mem_map] at hn
                obtain ⟨z, hz, rfl⟩ := hn
                obtain ⟨e', he'⟩ := mem_lk (n := z.1) (e := z.2) hz
                rw [he'] at hk; cases hk
              · rw [List.mem_map] at hn
                obtain ⟨z, hz, rfl⟩ := hn
                exact ⟨z.2, hz⟩
            obtain ⟨e, hm⟩ := hm
            by_cases hne : nm = x.1
            · exact hne
            · exact absurd h1 (ok.inj' _ hm x hx hne)
        subst hnm
        refine ⟨x.2, lv' x hx, rfl, (ent_len ..).symm, hd_in x hx⟩
      · exfalso
        cases hk : look u.mem nm with
        | some e0 =>
          rw [post_kept ⟨e0, lk_mem hk⟩] at g2
          exact g2 _ (lk_mem hk) rfl
        | none =>
          have hm : ∃ e, (nm, e) ∈ u.mem' := by
            unfold Mut.names at hn
            rw [List.mem_append] at hn
            rcases hn with hn | hn
            · rw [List.mem_map] at hn
              obtain ⟨z, hz, rfl⟩ := hn
              obtain ⟨e', he'⟩ := mem_lk (n := z.1) (e := z.2) hz
              rw [he'] at hk; cases hk
            · rw [List.mem_map] at hn
              obtain ⟨z, hz, rfl⟩ := hn
              exact ⟨z.2, hz⟩
          obtain ⟨e, hm⟩ := hm
          exact g1 _ hm rfl
  have hB : Below w0.B C.w w' := ⟨M'.below.os, M'.below.tape, M'.below.output, hsize, fun b hb => (hfree b (Nat.lt_of_lt_of_le hb (Nat.le_trans w0.hB M.below.size)) (lt0 b hb)).2⟩
  refine ⟨v, hd0, rfl, ⟨M.i0, L.globs M.glob, M.below.trans hB, fun n e he => ?_, fun n v e he => ?_, fun n n' v v' e e' b hne he he' hb => ?_, fun n v e b he hb => ?_⟩, L, m3_rv TM hr ok.res⟩
  · by_cases hp : ∃ x ∈ u.mem', n = (u.post C.gen x.1 0).1
    · obtain ⟨x, hx, rfl⟩ := hp
      have h1 := mut_look ok hx
      rw [show look (u.up (look C.mem) C.gen ++ C.mem) (u.post C.gen x.1 0).1 = some e from he] at h1
      injection h1 with h1; subst h1
      cases hk : look u.mem x.1 with
      | some e0 =>
        have G := (ok.given _ (lk_mem hk)).hdr
        obtain ⟨_, _, _, e1, j1, _⟩ := mut_row ok (live_some.2 ⟨hk, G.1, G.2.2⟩)
        obtain ⟨k1, k2, k3⟩ := live_some.1 j1
        have hv := M.vers _ _ k1
        have hany : u.mem.any (fun y => y.1 == x.1) = true := by rw [List.any_eq_true]; exact ⟨_, lk_mem hk, by simp⟩
        unfold Mut.ent
        simp only [hany, if_true, k1, Option.map_some, Option.getD_some, post_kept ⟨e0, lk_mem hk⟩]
        rw [← k2]
        exact hv
      | none =>
        have hany : ¬ u.mem.any (fun y => y.1 == x.1) = true := by
          rw [List.any_eq_true]
          rintro ⟨z, hz, hxn⟩
          simp only [beq_iff_eq] at hxn
          obtain ⟨e', he'⟩ := mem_lk (n := z.1) (e := z.2) hz
          rw [hxn, hk] at he'; cases he'
        unfold Mut.ent
        simp only [if_neg hany, post_new hk]
        refine ⟨fun _ => ?_, fun h => ?_⟩
        · trivial
        · cases h
    · have hp' : ∀ x ∈ u.mem', n ≠ (u.post C.gen x.1 0).1 := fun x hx he => hp ⟨x, hx, he⟩
      have he : look (u.up (look C.mem) C.gen ++ C.mem) n = some e := he
      rw [mut_look_out hp'] at he
      cases hg : look (u.gone (look C.mem)) n with
      | some e1 =>
        rw [hg] at he
        simp only [Option.or] at he
        injection he with he; subst he
        obtain ⟨x, hx, e0, h1, h2, _, h4, h5⟩ := gone_mem (lk_mem hg)
        have := M.vers n e0 h2
        rw [h4, h5]; exact this
      | none =>
        rw [hg] at he
        simp only [Option.or] at he
        exact M.vers n e he
  · rcases mut_live ok he with ⟨x, hx, rfl, rfl, rfl⟩ | ⟨g1, g2, g3⟩
    · obtain ⟨ys, o1, o2, o3⟩ := M'.rows x.1 0 x.2 (lv' x hx)
      have hbase : ∀ b, (hd' x.1).ownBlock = some b → w0.B ≤ b := by
        intro b hb
        by_cases hlt : b < w0.B
        · exact absurd hb ((hfree b (Nat.lt_of_lt_of_le hlt (Nat.le_trans w0.hB M.below.size)) (lt0 b hlt)).1 x.1 0 x.2 (lv' x hx))
        · omega
      refine ⟨ys, ?_, by rw [ent_len]; exact o2, fun i cs hi => ?_⟩
      · show w'.ownsRow w0.B x.2.elem x.2.sz (hd0 (u.post C.gen x.1 0).1) _ ys
        rw [hd_in x hx, ent_len]
        refine ⟨o1.1, ?_⟩
        rcases o1.2 with h0 | ⟨b, cap, cur, h1, h2, rest⟩
        · exact .inl h0
        · exact .inr ⟨b, cap, cur, h1, hbase b (by simp only at h1; rw [h1]; rfl), rest⟩
      · rcases (ok.left x hx).cells with hdt | hdt
        · have hes : (u.ent (look C.mem) C.gen x.1 x.2).es = x.2.es := by unfold Mut.ent; simp only [hdt, if_true]
          rw [hes] at hi
          obtain ⟨c1, c2, c3⟩ := o3 i cs hi
          refine ⟨c1, c2, fun j p hj => ?_⟩
          obtain ⟨y, a1, a2, a3⟩ := c3 j p hj
          have := dv' _ _ (a3 hdt)
          exact ⟨y, a1, .data _ _ this, fun _ => this⟩
        · by_cases hdt2 : x.2.data = true
          · have hes : (u.ent (look C.mem) C.gen x.1 x.2).es = x.2.es := by unfold Mut.ent; simp only [hdt2, if_true]
            rw [hes] at hi
            obtain ⟨c1, c2, c3⟩ := o3 i cs hi
            refine ⟨c1, c2, fun j p hj => ?_⟩
            obtain ⟨y, a1, a2, a3⟩ := c3 j p hj
            have := dv' _ _ (a3 hdt2)
            exact ⟨y, a1, .data _ _ this, fun _ => this⟩
          · have hes : (u.ent (look C.mem) C.gen x.1 x.2).es = x.2.es.map (·.map (m1 (u.post C.gen))) := by unfold Mut.ent; simp only [if_neg hdt2]
            rw [hes, List.getElem?_map, Option.map_eq_some_iff] at hi
            obtain ⟨cs0, hi, rfl⟩ := hi
            obtain ⟨c1, c2, c3⟩ := o3 i cs0 hi
            refine ⟨by rw [List.length_map]; exact c1, fun p hp => ?_, fun j p hj => ?_⟩
            · rw [List.mem_map] at hp
              obtain ⟨p', h6, rfl⟩ := hp
              exact m1_one (c2 p' h6)
            · rw [List.getElem?_map, Option.map_eq_some_iff] at hj
              obtain ⟨p', h6, rfl⟩ := hj
              obtain ⟨y, a1, a2, a3⟩ := c3 j p' h6
              exact ⟨y, a1, m1_rv TM a2 (hdt cs0 (List.mem_of_getElem? hi) p' (List.mem_of_getElem? h6)), fun h => absurd h hdt2⟩
    · refine (M.rows n v e g3).later L (hd_out n g1) fun b hb => ?_
      have := other n v e g2 g3 b hb
      exact (hfree b this.1 this.2).2
  · rcases mut_live ok he with ⟨x, hx, rfl, rfl, rfl⟩ | ⟨g1, g2, g3⟩ <;> rcases mut_live ok he' with ⟨y, hy, rfl, rfl, rfl⟩ | ⟨k1, k2, k3⟩
    · have hn : x.1 ≠ y.1 := fun h => hne (by rw [h])
      have hb : (hd0 _).ownBlock = some b := hb
      show (hd0 _).ownBlock ≠ some b
      rw [hd_in x hx] at hb
      rw [hd_in y hy]
      exact M'.apart _ _ _ _ _ _ b hn (lv' x hx) (lv' y hy) hb
    · have hb : (hd0 _).ownBlock = some b := hb
      show (hd0 _).ownBlock ≠ some b
      rw [hd_in x hx] at hb
      rw [hd_out _ k1]
      intro hb'
      have := other _ _ _ k2 k3 b hb'
      exact (hfree b this.1 this.2).1 x.1 0 x.2 (lv' x hx) hb
    · have hb : (hd0 _).ownBlock = some b := hb
      show (hd0 _).ownBlock ≠ some b
      rw [hd_out _ g1] at hb
      rw [hd_in y hy]
      have := other _ _ _ g2 g3 b hb
      exact (hfree b this.1 this.2).1 y.1 0 y.2 (lv' y hy)
    · have hb : (hd0 _).ownBlock = some b := hb
      show (hd0 _).ownBlock ≠ some b
      rw [hd_out _ g1] at hb
      rw [hd_out _ k1]
      exact M.apart _ _ _ _ _ _ b hne g3 k3 hb
  · rcases mut_live ok he with ⟨x, hx, rfl, rfl, rfl⟩ | ⟨g1, g2, g3⟩
    · have hb : (hd0 _).ownBlock = some b := hb
      rw [hd_in x hx] at hb
      exact hreach b (M'.own0 x.1 0 x.2 b (lv' x hx) hb)
    · have hb : (hd0 _).ownBlock = some b := hb
      rw [hd_out _ g1] at hb
      exact M.own0 n v e b g3 hb
end
end Go.PW
