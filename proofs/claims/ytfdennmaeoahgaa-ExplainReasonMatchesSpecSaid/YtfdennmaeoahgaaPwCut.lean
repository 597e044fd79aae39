/-
  PwCut: a beginning of a row becomes the row. Contracts of calls that change rows, put to use: what 'MutOk' asks, by lists.
-/
import Derived.Test.YtfdennmaeoahgaaPwInl
import Derived.Test.YtfdennmaeoahgaaPwDec
namespace Go.PW
open Go.RowKit
noncomputable section
theorem Wk.cutRow {st : St} (t nm ver d hi : Nat) {e : Ent} (h : look st.slots t = some (.sub nm ver 0 hi)) (hl : liveF (look st.mem) nm ver = some e) (hf : freshF (look st.mem) d = true) (hne : (nm = d) = False) :
    Wk st { slots := (t, .own d st.gen) :: st.slots, mem := (d, { ver := st.gen, elem := e.elem, sz := e.sz, es := e.es.take hi, data := e.data, new := true, dead := false }) :: (nm, { e with dead := true }) :: st.mem, gen := st.gen } := by
  intro w0 I0 N a w hd R
  rw [← live_eq] at hl
  obtain ⟨ys, ho, hbg, hc⟩ := R.mem.rows nm ver e hl
  have hsub := (R.slot t _ h).2.sub_inv.2.2 e hl
  have key : ∃ hdr, slotV { w, mem := st.mem, hd, gen := st.gen, I0 := fun b => I0 b ∨ w0.w.heap.size ≤ b, gh := I0.gh } a t = hdr ∧ hi ≤ e.es.length ∧ w.ownsRow w0.B e.elem e.sz hdr hi (ys.take (hi * e.sz)) ∧ hdr.ownBlock = (hd nm).ownBlock := by
    rcases ho.2 with ⟨h1, h2⟩ | ⟨g, cap, cur, h1, hg, hh, hn, hm, hs, ht⟩
    · simp only at h1
      simp only [h1, subHdr] at hsub
      obtain ⟨_, k2, k3⟩ := hsub
      have : hi = 0 := by omega
      subst this
      refine ⟨_, k3, k2, ?_, ?_⟩
      · simp only [Nat.zero_mul, List.take_zero, if_true, Nat.sub_zero]
        exact World.ownsRow_nil _ _ _ _
      · rw [h1]; simp [Value.ownBlock]
    · simp only at h1
      simp only [h1, subHdr] at hsub
      obtain ⟨_, k2, k3⟩ := hsub
      have e1 : (if cap = 0 then (some ⟨g, 0, none⟩ : Option Addr) else Option.map (fun x : Addr => x.add (0 * e.sz)) (some (⟨g, 0, none⟩ : Addr))) = some (⟨g, 0, none⟩ : Addr) := by
        split
        · rfl
        · simp [Addr.add]
      rw [e1, Nat.sub_zero, Nat.sub_zero] at k3
      refine ⟨_, k3, k2, ⟨?_, .inr ⟨g, cap, cur, rfl, hg, hh, by omega, hm, hs, ?_⟩⟩, ?_⟩
      · have := ho.1
        have h4 : hi * e.sz ≤ e.es.length * e.sz := Nat.mul_le_mul_right _ k2
        simp only [List.length_take]
        omega
      · have h4 : hi * e.sz ≤ e.es.length * e.sz := Nat.mul_le_mul_right _ k2
        rw [← ht, List.take_take]
        congr 1
        omega
      · rw [h1]; rfl
  obtain ⟨hdr, hv, hle, hown, hblk⟩ := key
  have hlen : (e.es.take hi).length = hi := by rw [List.length_take]; omega
  have hN := R.mem.append_row (nm := nm) (ver := ver) (d := d) (e := e) (ent := { ver := st.gen, elem := e.elem, sz := e.sz, es := e.es.take hi, data := e.data, new := true, dead := false }) (w' := w) (hdr := hdr) (xs := ys.take (hi * e.sz)) hl hf rfl rfl
    ⟨rfl, rfl, rfl, Nat.le_refl _, fun _ _ _ => rfl⟩ (by simp only [hlen]; exact hown) (by simp only [hlen]; omega) (.inl hblk) (fun i cs hi' => by
      have hil : i < hi := by
        have := (List.getElem?_eq_some_iff.1 hi').1
        simp only [hlen] at this
        exact this
      have hi2 : e.es[i]? = some cs := by
        simp only [List.getElem?_take, if_pos hil] at hi'
        exact hi'
      obtain ⟨c1, c2, c3⟩ := hc i cs hi2
      refine ⟨c1, c2, fun j p hj => ?_⟩
      obtain ⟨u, u1, u2, u3⟩ := c3 j p hj
      refine ⟨u, ?_, u2, u3⟩
      have hjl : j < e.sz := by
        have := (List.getElem?_eq_some_iff.1 hj).1
        omega
      have hlt : i * e.sz + j < hi * e.sz := by
        have : (i + 1) * e.sz ≤ hi * e.sz := Nat.mul_le_mul_right _ hil
        rw [Nat.add_mul, Nat.one_mul] at this
        omega
      rw [List.getElem?_take, if_pos hlt]
      exact u1)
  rw [if_neg (by rw [hne]; exact fun h => h)] at hN
  refine ⟨_, ⟨hN.1, R.defers, R.size, R.top, fun t' p' ht => ?_, hN.2.frame R.frame⟩⟩
  by_cases htt : t = t'
  · subst htt
    simp only [look_same, Option.some.injEq] at ht
    subst ht
    refine ⟨(R.slot t _ h).1, ?_⟩
    refine .own d st.gen _ ?_ (.inr ⟨rfl, _, look_same _ _ _, rfl⟩) fun e' he' => ?_
    · exact (R.slot t _ h).2.sub_inv.2.1
    · show _ = upd hd d hdr d
      rw [upd_same]; exact hv
  · simp only [look_ne _ _ htt] at ht
    exact ⟨(R.slot t' p' ht).1, hN.2.rv (R.slot t' p' ht).2⟩
theorem Wk.cutRowG {α : Type} {c : α → List PV} {l x : List α} {hi : Int} {st : St} (t nm ver d : Nat) {e : Ent} (h : look st.slots t = some (.sub nm ver (0 : Int).toNat hi.toNat)) (hl : liveF (look st.mem) nm ver = some e) (he : e.es = l.map c) (hcut : gcut l 0 hi = some x)
    (hf : freshF (look st.mem) d = true) (hne : (nm = d) = False) :
    Wk st { slots := (t, .own d st.gen) :: st.slots, mem := (d, { ver := st.gen, elem := e.elem, sz := e.sz, es := x.map c, data := e.data, new := true, dead := false }) :: (nm, { e with dead := true }) :: st.mem, gen := st.gen } := by
  have := Wk.cutRow t nm ver d hi.toNat h hl hf hne
  have hx : e.es.take hi.toNat = x.map c := by
    rw [he, ← List.map_take, ← (gcut_some hcut).2.2.2.2]
    rfl
  rwa [hx] at this
def tauOf (l : List (Nat × Nat × Nat)) (n : Nat) : Nat × Nat := (look l n).getD (0, 0)
inductive ArgsOk (u : Mut) : List PV → List PV → Prop
  | nil : ArgsOk u [] []
  | cons {x p : PV} {xs ps : List PV} (h : ArgOk u x p) (r : ArgsOk u xs ps) : ArgsOk u (x :: xs) (p :: ps)
theorem ArgsOk.out {u : Mut} {xs ps : List PV} (h : ArgsOk u xs ps) : xs.length = ps.length ∧ ∀ (j : Nat) (x p : PV), xs[j]? = some x → ps[j]? = some p → ArgOk u x p := by
  induction h with
  | nil => exact ⟨rfl, fun j x p h => by simp at h⟩
  | cons h r ih =>
    refine ⟨by simp [ih.1], fun j x p h1 h2 => ?_⟩
    cases j with
    | zero => simp at h1 h2; subst h1 h2; exact h
    | succ j => exact ih.2 j x p (by simpa using h1) (by simpa using h2)
theorem all1 {α : Type} {Q : α → Prop} {a : α} (h : Q a) : ∀ x ∈ [a], Q x := fun x hx => by simp at hx; subst hx; exact h
theorem alls {α : Type} {Q : α → Prop} {a : α} {l : List α} (h : Q a) (r : ∀ x ∈ l, Q x) : ∀ x ∈ a :: l, Q x := fun x hx => by
  rcases List.mem_cons.1 hx with rfl | hx
  · exact h
  · exact r x hx
theorem all0 {α : Type} {Q : α → Prop} : ∀ x ∈ ([] : List α), Q x := fun x hx => by cases hx
def ndp : List Nat → Bool
  | [] => true
  | a :: l => l.all (fun b => !(Nat.beq a b)) && ndp l
theorem ndp_ok : ∀ {l : List Nat}, ndp l = true → l.Nodup
  | [], _ => .nil
  | a :: l, h => by
    simp only [ndp, Bool.and_eq_true, List.all_eq_true] at h
    refine List.nodup_cons.2 ⟨fun ha => ?_, ndp_ok h.2⟩
    have := h.1 a ha
    simp [Nat.beq_refl] at this
theorem mutOk_of {m : Look} {g : Nat} {xs args : List PV} {res : PV} {mem mem' : List (Nat × Ent)} {l : List (Nat × Nat × Nat)} {ν : Nat → Nat}
    (ha : ArgsOk ⟨mem, mem', tauOf l, ν⟩ xs args) (hn : mem'.map (·.1) = mem.map (·.1)) (hd' : ndp (mem.map (·.1)) = true) (hi' : ndp (mem.map fun x => (tauOf l x.1).1) = true)
    (hg : ∀ x ∈ mem, RowGiven ⟨mem, mem', tauOf l, ν⟩ m x.1 x.2) (hl : ∀ x ∈ mem', (x.2.ver = 0 ∧ x.2.new = false ∧ x.2.dead = false) ∧ (∀ e0, look mem x.1 = some e0 → x.2.sz = e0.sz ∧ x.2.es.length = e0.es.length) ∧
      (x.2.data = true ∨ ∀ cs ∈ x.2.es, ∀ p ∈ cs, ok1 (Mut.names ⟨mem, mem', tauOf l, ν⟩) p = true)) (hr : ok3 (Mut.names ⟨mem, mem', tauOf l, ν⟩) res = true) : MutOk m g xs args res ⟨mem, mem', tauOf l, ν⟩ := by
  have hd := ndp_ok hd'
  have hi := ndp_ok hi'
  have nd : ∀ (L : List (Nat × Ent)), (L.map (·.1)).Nodup → ∀ x ∈ L, look L x.1 = some x.2 := by
    intro L
    induction L with
    | nil => intro _ x hx; cases hx
    | cons y L ih =>
      intro hN x hx
      simp only [List.map_cons, List.nodup_cons] at hN
      rcases List.mem_cons.1 hx with rfl | hx
      · exact look_same _ _ _
      · rw [show (y :: L) = (y.1, y.2) :: L from rfl, look_ne]
        · exact ih hN.2 x hx
        · intro e
          exact hN.1 (by rw [e]; exact List.mem_map_of_mem hx)
  have hinj : ∀ x ∈ mem, ∀ y ∈ mem, x.1 ≠ y.1 → (tauOf l x.1).1 ≠ (tauOf l y.1).1 := by
    intro x hx y hy hne heq
    obtain ⟨i, hil, rfl⟩ := List.getElem_of_mem hx
    obtain ⟨j, hjl, rfl⟩ := List.getElem_of_mem hy
    by_cases hij : i = j
    · subst hij; exact hne rfl
    · have := List.pairwise_iff_getElem.1 hi
      rcases Nat.lt_or_gt_of_ne hij with h | h
      · exact this i j (by simpa using hil) (by simpa using hjl) h (by simpa using heq)
      · exact this j i (by simpa using hjl) (by simpa using hil) h (by simpa using heq.symm)
  have hmem : ∀ x ∈ mem', ∃ y ∈ mem, y.1 = x.1 := by
    intro x hx
    have : x.1 ∈ mem.map (·.1) := by rw [← hn]; exact List.mem_map_of_mem hx
    obtain ⟨y, h1, h2⟩ := List.mem_map.1 this
    exact ⟨y, h1, h2⟩
  have hpost : ∀ x ∈ mem', Mut.post ⟨mem, mem', tauOf l, ν⟩ g x.1 0 = tauOf l x.1 := by
    intro x hx
    unfold Mut.post
    rw [if_pos]
    rw [List.any_eq_true]
    obtain ⟨y, h1, h2⟩ := hmem x hx
    exact ⟨y, h1, by simp [h2]⟩
  refine ⟨ha.out.1, ha.out.2, nd mem hd, nd mem' (by rw [hn]; exact hd), hinj, fun x hx y hy hne => ?_, hg, fun x hx => ?_, hr⟩
  · rw [hpost x hx, hpost y hy]
    obtain ⟨x', a1, a2⟩ := hmem x hx
    obtain ⟨y', b1, b2⟩ := hmem y hy
    have := hinj x' a1 y' b1 (by rw [a2, b2]; exact hne)
    rwa [a2, b2] at this
  · obtain ⟨k1, k2, k3⟩ := hl x hx
    refine ⟨k1, k2, fun hno => ?_, k3⟩
    obtain ⟨y, h1, h2⟩ := hmem x hx
    have := nd mem hd y h1
    rw [h2] at this
    simp only at hno
    rw [this] at hno
    cases hno
theorem keptOf {mem : List (Nat × Ent)} {x : Nat} {e E : Ent} (hE : look mem x = some E) (h : e.sz = E.sz ∧ e.es.length = E.es.length) : ∀ e0, look mem x = some e0 → e.sz = e0.sz ∧ e.es.length = e0.es.length := fun e0 h0 => by
  rw [hE] at h0; injection h0 with h0; subst h0; exact h
theorem lenMap {α : Type} {c : α → List PV} {a b : List α} (h : a.length = b.length) : (a.map c).length = (b.map c).length := by rw [List.length_map, List.length_map, h]
def gh (sl : List (Nat × PV)) : List (Nat × Ent) → Prop
  | [] => True
  | (k, _) :: r => look sl (gst + k) = some (.own k 0) ∧ gh sl r
theorem gh_ok {sl : List (Nat × PV)} {mem' : List (Nat × Ent)} : ∀ {mem : List (Nat × Ent)}, gh sl mem → ∀ nm, (look mem nm).isSome = true → (look mem' nm).isSome = true → look sl (gst + nm) = some (.own nm 0)
  | [], _, nm, h, _ => by simp [PW.look] at h
  | (k, e) :: r, hg, nm, h, h' => by
    by_cases hk : k = nm
    · subst hk; exact hg.1
    · rw [look_ne _ _ hk] at h
      exact gh_ok hg.2 nm h h'
def glen {α : Type} (a b : List α) : Option Unit := if a.length = b.length then some () else none
theorem glen_some {α : Type} {a b : List α} {u : Unit} (h : glen a b = some u) : a.length = b.length := by
  unfold glen at h
  split at h
  · assumption
  · cases h
end
end Go.PW
