/-
  PwCut: a beginning of a row becomes the row. Contracts of calls that change rows, put to use: what 'MutOk' asks, by lists.
-/
import Derived.Test.YtjmmlddioeehbaaGreatDoorPwInl
import Derived.Test.YtjmmlddioeehbaaGreatDoorPwDec
import Derived.Test.YtjmmlddioeehbaaGreatDoorPwSort
import Derived.KernelRfl
import Derived.Test.YtjmmlddioeehbaaGreatDoorPwCore
import Derived.Shelf.Strings.Builder1
import Derived.Test.YtjmmlddioeehbaaGreatDoorPwEa
namespace Go.PW
open Go.RowKit
noncomputable section
inductive ArgsOk (u : Mut) : List PV → List PV → Prop
  | nil : ArgsOk u [] []
  | cons {x p : PV} {xs ps : List PV} (h : ArgOk u x p) (r : ArgsOk u xs ps) : ArgsOk u (x :: xs) (p :: ps)
theorem ArgsOk.out {u : Mut} {xs ps : List PV} (h : ArgsOk u xs ps) : xs.length = ps.length ∧ ∀ (j : Nat) (x p : PV), xs[j]? = some x → ps[j]? = some p → ArgOk u x p := by
  induction h with
  | nil => exact ⟨rfl, fun j x p h => by simp at h⟩
  | cons h r ih =>
    refine ⟨by simp [ih.1], fun j x p h1 h2 => ?_⟩
    cases j with
    | zero => simp at h1 h2; subst h1 h2; exact h
    | succ j => exact ih.2 j x p (by simpa using h1) (by simpa using h2)
theorem all0 {α : Type} {Q : α → Prop} : ∀ x ∈ ([] : List α), Q x := fun x hx => by cases hx
def gh (sl : List (Nat × PV)) : List (Nat × Ent) → Prop
  | [] => True
  | (k, _) :: r => look sl (gst + k) = some (.own k 0) ∧ gh sl r
end
end Go.PW
namespace Go.PW
open Go.RowKit
noncomputable section
section
variable {α : Type} {c : α → List PV} {l : List α} {r r' : List PV}
theorem xlen : (List.map c l ++ [r]).length = l.length + 1 := by simp
theorem xlt : l.length < (List.map c l ++ [r]).length := by simp
theorem xget : (List.map c l ++ [r])[l.length]? = some r := by
  rw [List.getElem?_append_right (by simp)]; simp
theorem xset : (List.map c l ++ [r]).set l.length r' = List.map c l ++ [r'] := by
  rw [List.set_append_right _ _ (by simp)]; simp
theorem xsub {n : Nat} {x : Int} (h : gsub ((n + 1 : Nat) : Int) 1 = some x) : 0 ≤ x ∧ x.toNat = n := by
  unfold gsub gchk at h
  split at h
  · injection h with h; subst h; omega
  · cases h
theorem xapp {b : Nat} {y : α} {zs : List α} (h : gapp b l [y] = some zs) : (List.map c l ++ [r]).length * b ≤ big := by
  obtain ⟨h1, h2⟩ := gapp_some h
  subst h2
  simpa using h1
theorem xmap {f : PV → PV} (hc : ∀ x, (c x).map f = c x) : (List.map c l ++ [r]).map (·.map f) = List.map c l ++ [r.map f] := by
  rw [List.map_append, List.map_map]
  congr 1
  exact List.map_congr_left fun x _ => hc x
theorem xall {f : PV → Bool} (hc : ∀ x, (c x).all f = true) : ((List.map c l ++ [r]).all fun cs => cs.all f) = r.all f := by
  rw [List.all_append, List.all_map]
  have : (l.all ((fun cs : List PV => cs.all f) ∘ c)) = true := List.all_eq_true.2 fun x _ => hc x
  rw [this]; simp
theorem LesR.snoc {x : α} (h1 : ∀ y, (c y).all PV.one = true) (h : Les r (c x)) : LesR (List.map c l ++ [r]) (List.map c (l ++ [x])) := by
  rw [List.map_append]
  refine (LesR.refl fun cs hcs => ?_).append (.cons h (h1 x) .nil)
  rw [List.mem_map] at hcs
  obtain ⟨y, _, rfl⟩ := hcs
  exact h1 y
theorem Wk.nrmX {s S : St} (ks : List Nat) (ρ : Ren) (F : List (List PV) → St) (l : List α) (c : α → List PV) (r : List PV) (hc : ∀ x, (c x).map (l1 (gR s.mem ρ)) = c x)
    (h : PW.nrm ks ρ s = F ((List.map c l ++ [r]).map (·.map (l1 (gR s.mem ρ)))) := by kernel_rfl) (hS : F (List.map c l ++ [r.map (l1 (gR s.mem ρ))]) = S := by kernel_rfl) (hok : ρ.ok = true := by kernel_rfl) : Wk s S := by
  rw [xmap hc] at h
  exact Wk.nrmTo ks ρ (h.trans hS) hok
theorem Wk.frzX {s S : St} (nm ver : Nat) {e : Ent} (F : List (List PV) → Bool → St) (l : List α) (c : α → List PV) (r : List PV) (hl : liveF (look s.mem) nm ver = some e) (hd : e.data = true)
    (hc : ∀ x, (c x).map (l1 (gF nm ver e)) = c x) (hc2 : ∀ x, ((c x).all fun p => (l1 (gF nm ver e) p).isD) = true)
    (h : PW.frz nm ver e s = F ((List.map c l ++ [r]).map (·.map (l1 (gF nm ver e)))) ((List.map c l ++ [r]).all fun cs => cs.all fun p => (l1 (gF nm ver e) p).isD) := by kernel_rfl)
    (hS : F (List.map c l ++ [r.map (l1 (gF nm ver e))]) (r.all fun p => (l1 (gF nm ver e) p).isD) = S := by kernel_rfl) : Wk s S := by
  rw [xmap hc, xall hc2] at h
  exact Wk.frzTo nm ver hl hd (h.trans hS)
end
theorem Wk.ownNilAt {st : St} (b ver i j nm elem sz : Nat) {e : Ent} {cs cs' : List PV} {es' : List (List PV)} (hl : liveF (look st.mem) b ver = some e) (hi : e.es[i]? = some cs) (h : cs[j]? = some .nils) (hs : cs.set j (.own nm st.gen) = cs') (hes : e.es.set i cs' = es') (hf : freshF (look st.mem) nm = true) (hb : (nm = b) = False) (dt : Bool := true) :
    Wk st { slots := st.slots, mem := (b, { e with es := es', data := false }) :: (nm, { ver := st.gen, elem, sz, es := [], data := dt, new := true, dead := false }) :: st.mem, gen := st.gen } := by
  intro w0 I0 N a w hd R
  subst hs hes
  rw [← live_eq] at hl
  have hN := R.mem.new_row (d := nm) (ent := { ver := st.gen, elem, sz, es := [], data := dt, new := true, dead := false }) (hdr := .slice none 0 0) (xs := []) hf rfl rfl (Below.refl _ _) (World.ownsRow_nil _ _ _ _) (by simp) (by simp [Value.ownBlock]) (by simp)
  have hbn : nm ≠ b := fun h => by rw [hb] at h; exact h
  have hl2 : live ((nm, { ver := st.gen, elem, sz, es := [], data := dt, new := true, dead := false }) :: st.mem) b ver = some e := by
    obtain ⟨k1, k2⟩ := live_some.1 hl
    exact live_some.2 ⟨by rw [look_ne _ _ hbn]; exact k1, k2⟩
  obtain ⟨ys, o1, o2, o3⟩ := hN.1.rows b ver e hl2
  have hc0 := o3 i cs hi
  have hT := hN.1.turn_row (nm := b) (ver := ver) (e := e) (e' := { e with es := e.es.set i (cs.set j (.own nm st.gen)), data := false }) (w' := w) (xs := ys) hl2 rfl rfl (by simp) rfl
    ⟨rfl, rfl, rfl, Nat.le_refl _, fun _ _ _ => rfl⟩ (by simpa using o1) (by simpa using o2) (fun i2 cs2 hi2 => by
      have hi2 : (e.es.set i (cs.set j (.own nm st.gen)))[i2]? = some cs2 := hi2
      by_cases hii : i2 = i
      · subst hii
        rw [List.getElem?_set_self (List.getElem?_eq_some_iff.1 hi).1] at hi2
        injection hi2 with hi2; subst hi2
        refine ⟨by simpa using hc0.1, fun p hp => ?_, fun k p hk => ?_⟩
        · rcases List.mem_or_eq_of_mem_set hp with hp | rfl
          · exact hc0.2.1 p hp
          · rfl
        · by_cases hkj : k = j
          · subst hkj
            have hlt : k < cs.length := (List.getElem?_eq_some_iff.1 h).1
            rw [List.getElem?_set_self hlt] at hk
            injection hk with hk; subst hk
            obtain ⟨u, a1, a2, _⟩ := hc0.2.2 k _ h
            refine ⟨u, a1, ?_, fun h => by cases h⟩
            have hu := a2.nils_inv
            subst hu
            refine .own nm st.gen _ rfl (.inr ⟨rfl, _, look_same _ _ _, rfl⟩) fun e _ => ?_
            show _ = upd hd nm _ nm
            rw [upd_same]
          · rw [List.getElem?_set_ne (Ne.symm hkj)] at hk
            obtain ⟨u, a1, a2, _⟩ := hc0.2.2 k p hk
            exact ⟨u, a1, a2, fun h => by cases h⟩
      · rw [List.getElem?_set_ne (Ne.symm hii)] at hi2
        obtain ⟨d1, d2, d3⟩ := o3 i2 cs2 hi2
        exact ⟨d1, d2, fun k p hk => by
          obtain ⟨u, a1, a2, _⟩ := d3 k p hk
          exact ⟨u, a1, a2, fun h => by cases h⟩⟩)
  refine ⟨_, ⟨hT.1, R.defers, R.size, R.top, fun t p ht => ?_, hT.2.frame (hN.2.frame R.frame)⟩⟩
  exact ⟨(R.slot t p ht).1, hT.2.rv (hN.2.rv (R.slot t p ht).2)⟩
end
end Go.PW
namespace Go.PW
open Go.RowKit
noncomputable section
section
variable {P : Program} {Γ : List (Nat × Fact P)} {N : Nat} {w0 : Base} {w : World} {I0 : Fri} {st st' : St} {a : Act} {hd : Nat → Value} {Q : Exit → Act → World → Prop}
theorem ready_of {ops : Array Oper} {listed : Array Bool} {i : Nat} {o : Oper} (h1 : listed.getD i true = false) (ho : ops[i]? = some o) (h : ∀ e ∈ edgesOf o, listed.getD e false = true) : i ∈ Region.ready .any ops listed := by
  rw [mem_ready]
  refine ⟨h1, _, ho, fun e he hb => h _ ?_⟩
  unfold edgesOf
  rw [List.mem_map]
  exact ⟨e, List.mem_filter.2 ⟨by simpa using he, hb⟩, rfl⟩
theorem wpAny_done {ops : Array Oper} {fuel : Nat} {listed : Array Bool} (h : ∀ i, i < ops.size → listed.getD i true = true) (hQ : Q .normal a w) : wpAny P .any ops Q fuel listed a w := by
  have hr : ∀ i, i ∉ Region.ready .any ops listed := by
    intro i hi
    obtain ⟨h1, o, h2, _⟩ := ready_edges hi
    have := h i (Array.getElem?_eq_some_iff.1 h2).1
    rw [h1] at this; cases this
  cases fuel with
  | zero => exact ⟨List.eq_nil_iff_forall_not_mem.2 hr, hQ⟩
  | succ fuel => exact ⟨fun _ => hQ, fun i hi => absurd hi (hr i)⟩
theorem runAll_take {los : List LOper} {outs : Nat → Out} {gen n : Nat} : ∀ (L : List Nat), (∀ i ∈ L, i < n) → ∀ {sl : Slots} {m : Look}, RunAll Γ (los.take n) outs gen L sl m → RunAll Γ los outs gen L sl m
  | [], _, _, _, _ => trivial
  | i :: L, hL, sl, m, h => by
    obtain ⟨o, h1, h2, h3⟩ := h
    refine ⟨o, ?_, h2, runAll_take L (fun j hj => hL j (List.mem_cons_of_mem _ hj)) h3⟩
    rw [List.getElem?_take, if_pos (hL i (by simp))] at h1
    exact h1
theorem endS_take {los : List LOper} {outs : Nat → Out} {n : Nat} : ∀ (L : List Nat), (∀ i ∈ L, i < n) → ∀ {sl : Slots}, endS (los.take n) outs L sl = endS los outs L sl
  | [], _, _ => rfl
  | i :: L, hL, sl => by
    simp only [endS]
    rw [List.getElem?_take, if_pos (hL i (by simp)), endS_take L (fun j hj => hL j (List.mem_cons_of_mem _ hj))]
theorem any_order_x {ops : Array Oper} {los : List LOper} {pre : List (List Nat)} {outs : Nat → Out} {gen n : Nat} {S' : Slots} {M' : Look} (hc : compOpers P N ops.toList ops.toList = some los) (hp : predsOk ops.toList pre = true)
    (hsn : ops.size = n + 1) (hlast : ∀ j, j < n → j ∈ pre.getD n [])
    (hap : ∀ (i j : Nat) (oi oj : LOper), j < i → i < n → j ∉ pre.getD i [] → los[i]? = some oi → los[j]? = some oj → Apart oj oi (outs j) (outs i))
    (hQ : ∀ (st' : St) (a' : Act) (w' : World) (hd' : Nat → Value), Rep w0 I0 N st' a' w' hd' → look st'.slots = S' → look st'.mem = M' → st'.gen = gen → wpOp P ops Q n (fun a w => Q .normal a w) a' w') :
    ∀ (fuel : Nat) (listed : Array Bool) (L : List Nat) (st : St) (a : Act) (w : World) (hd : Nat → Value), L = (List.range n).filter (fun i => !listed.getD i true) → listed.size = ops.size → listed.getD n true = false → L.length + 1 ≤ fuel →
      (∀ (i : Nat) (o : Oper), ops[i]? = some o → listed.getD i false = true → ∀ e ∈ edgesOf o, listed.getD e false = true) →
      Rep w0 I0 N st a w hd → st.gen = gen → RunAll Γ los outs gen L (look st.slots) (look st.mem) → endS los outs L (look st.slots) = S' → endM outs L (look st.mem) = M' →
      wpAny P .any ops Q fuel listed a w := by
  obtain ⟨e1, e2⟩ := compOpers_get hc
  have gd : ∀ {listed : Array Bool} {j : Nat}, listed.size = ops.size → j < ops.size → listed.getD j false = listed.getD j true := by
    intro listed j hs hj
    have : j < listed.size := by omega
    simp [Array.getD_eq_getD_getElem?, this]
  intro fuel
  induction fuel with
  | zero => intro listed L st a w hd hL hsz hn hlen; omega
  | succ fuel ih =>
    intro listed L st a w hd hL hsz hn hlen hcl R hg hrun hS hM
    have hmemL : ∀ i, i ∈ L ↔ i < n ∧ listed.getD i true = false := by
      intro i
      rw [hL, List.mem_filter, List.mem_range]
      simp
    have hpw : L.Pairwise (· < ·) := by rw [hL]; exact List.Pairwise.filter _ List.pairwise_lt_range
    have hon : ops[n]? = some (ops[n]'(by omega)) := Array.getElem?_eq_getElem (by omega)
    refine ⟨fun hready => ?_, fun i hi => ?_⟩
    · exfalso
      cases hLc : L with
      | nil =>
        have : n ∈ Region.ready .any ops listed := ready_of hn hon fun e he => by
          have hlt := (predsOk_get hp (i := n) (by rw [Array.getElem?_toList]; exact hon)).1 _ he
          rw [gd hsz (by omega)]
          cases hl : listed.getD e true with
          | true => rfl
          | false =>
            have : e ∈ L := (hmemL e).2 ⟨hlt, hl⟩
            rw [hLc] at this; cases this
        rw [hready] at this
        cases this
      | cons i L' =>
        have hi : i ∈ L := by rw [hLc]; simp
        obtain ⟨h1, h2⟩ := (hmemL i).1 hi
        have ho : ops[i]? = some (ops[i]'(by omega)) := Array.getElem?_eq_getElem (by omega)
        have : i ∈ Region.ready .any ops listed := ready_of h2 ho fun e he => by
          have hlt := (predsOk_get hp (i := i) (by rw [Array.getElem?_toList]; exact ho)).1 _ he
          rw [gd hsz (by omega)]
          cases hl : listed.getD e true with
          | true => rfl
          | false =>
            have : e ∈ L := (hmemL e).2 ⟨by omega, hl⟩
            rw [hLc] at this hpw
            rcases List.mem_cons.1 this with h | h
            · omega
            · have := (List.pairwise_cons.1 hpw).1 _ h; omega
        rw [hready] at this
        cases this
    · obtain ⟨h1, o, ho, hall⟩ := ready_edges hi
      have hlt := (Array.getElem?_eq_some_iff.1 ho).1
      have hpre := pre_listed hp hcl (i + 1) i o (by omega) ho hall
      by_cases hin : i = n
      · subst hin
        have hLn : L = [] := by
          rw [List.eq_nil_iff_forall_not_mem]
          intro j hj
          obtain ⟨g1, g2⟩ := (hmemL j).1 hj
          have := hpre j (hlast j g1)
          rw [gd hsz (by omega), g2] at this
          cases this
        subst hLn
        refine wpOp_mono (fun a' w' hq => wpAny_done (fun k hk => ?_) hq) (hQ st a w hd R hS hM hg)
        by_cases hki : i = k
        · subst hki
          have : i < listed.size := by omega
          simp [Array.getD_eq_getD_getElem?, this]
        · rw [getD_set_ne true hki]
          cases hl : listed.getD k true with
          | true => rfl
          | false =>
            have : k ∈ ([] : List Nat) := (hmemL k).2 ⟨by omega, hl⟩
            cases this
      have hiL : i ∈ L := (hmemL i).2 ⟨by omega, h1⟩
      obtain ⟨L1, L2, hLs⟩ := List.append_of_mem hiL
      have hil : i < los.length := by rw [← e1]; simpa using hlt
      have hlo : los[i]? = some los[i] := List.getElem?_eq_getElem hil
      rw [hLs] at hpw
      obtain ⟨p1, p2, p3⟩ := List.pairwise_append.1 hpw
      have hA : ∀ j ∈ L1, ∀ oj, los[j]? = some oj → Apart oj los[i] (outs j) (outs i) := by
        intro j hj oj hoj
        have hji := p3 j hj i (by simp)
        refine hap i j _ oj hji (by omega) (fun hjp => ?_) hlo hoj
        have hl := hpre j hjp
        have hjL : j ∈ L := by rw [hLs]; exact List.mem_append_left _ hj
        have hl2 := ((hmemL j).1 hjL).2
        rw [gd hsz (by omega), hl2] at hl
        cases hl
      rw [hLs] at hrun hS hM
      obtain ⟨f1, f2, f3⟩ := to_front hlo L1 L2 _ _ hA hrun
      obtain ⟨oi, g1, g2, g3⟩ := f1
      rw [hlo] at g1; injection g1 with g1; subst g1
      rw [f2] at hS
      rw [f3] at hM
      simp only [endS, hlo] at hS
      simp only [endM] at hM
      have hstep : step Γ los[i] st = some { st with slots := put st.slots los[i].dst (outs i).1, mem := (outs i).2.1 ++ st.mem } := by
        rw [step_core, hg, g2]; rfl
      unfold wpOp
      rw [ho]
      refine step_sound R (e2 i o _ (by simpa using ho) hlo) hstep fun a' w' hd' R' => ?_
      refine ih (listed.setIfInBounds i true) (L1 ++ L2) _ a' w' hd' ?_ (by simpa using hsz) ?_ ?_ ?_ R' hg ?_ ?_ ?_
      · have hnd : ∀ x ∈ L1 ++ L2, x ≠ i := by
          intro x hx
          rcases List.mem_append.1 hx with hx | hx
          · have := p3 x hx i (by simp); omega
          · have := (List.pairwise_cons.1 p2).1 x hx; omega
        have h4 : (List.range n).filter (fun k => !(listed.setIfInBounds i true).getD k true) = ((List.range n).filter (fun k => !listed.getD k true)).filter (fun k => k != i) := by
          rw [List.filter_filter]
          apply List.filter_congr
          intro k hk
          by_cases hki : i = k
          · subst hki
            have : i < listed.size := by omega
            simp [this]
          · rw [getD_set_ne true hki]
            have : (k != i) = true := by simp; omega
            simp [this]
        rw [h4, ← hL, hLs]
        rw [List.filter_append, List.filter_cons_of_neg (by simp)]
        have g1 : L1.filter (fun k => k != i) = L1 := List.filter_eq_self.2 fun x hx => by simpa using hnd x (List.mem_append_left _ hx)
        have g2 : L2.filter (fun k => k != i) = L2 := List.filter_eq_self.2 fun x hx => by simpa using hnd x (List.mem_append_right _ hx)
        rw [g1, g2]
      · rw [getD_set_ne true hin]; exact hn
      · rw [hLs] at hlen
        simp at hlen ⊢; omega
      · intro k ok hok hk e he
        by_cases hki : i = k
        · subst hki
          rw [ho] at hok; injection hok with hok; subst hok
          exact getD_set_true (hall e he)
        · rw [getD_set_ne false hki] at hk
          exact getD_set_true (hcl k ok hok hk e he)
      · rw [look_put, look_putM]; exact g3
      · rw [look_put]; exact hS
      · rw [look_putM]; exact hM
end
theorem Ev.regX {P : Program} {N : Nat} {g : LReg} {st : St} {Q : Ex → St → Prop} (n : Nat) (hm : P.follows .mixedOrders = true) (hdr : g.draw = true) (hn : g.los.length = n + 1)
    (hcall : (match g.los[n]? with | some o => o.op.isCall | none => false) = true) (hps : (g.pairs.all fun p => p.2 != n) = true)
    (h : W P (g.los.take n) [] st fun logs s => pairsOk g.pairs logs.reverse = true ∧ Sq P N g n s (fun s => Q .normal s)) : Ev P N (.reg g) st Q := by
  intro w0 I0 c a w hd hc R
  cases c <;> simp only [compCode, reduceCtorEq] at hc
  case region id ops draw =>
    simp only [Option.map_eq_some_iff] at hc
    obtain ⟨g', h1, h2⟩ := hc
    injection h2 with h2; subst h2
    unfold compRegion at h1
    split at h1
    case h_1 => cases h1
    rename_i los hlos
    cases draw
    case false =>
      simp only [Bool.false_eq_true, if_false, Option.some.injEq] at h1
      subst h1; cases hdr
    case true =>
    simp only [if_true] at h1
    split at h1
    case isFalse => cases h1
    case isTrue hchk =>
    injection h1 with h1; subst h1
    simp only [Bool.and_eq_true, List.all_eq_true] at hchk
    obtain ⟨hpre, hsl⟩ := hchk
    simp only at hn hcall hps h
    obtain ⟨Γ, h⟩ := h
    split at h
    case h_2 => exact h.elim
    rename_i st1 logs hst
    simp only [List.append_nil, List.reverse_reverse] at h
    obtain ⟨hpo, hsq⟩ := h
    obtain ⟨e1, e2⟩ := compOpers_get hlos
    have hlen : los.length = ops.size := by rw [← e1]; simp
    have hsn : ops.size = n + 1 := by omega
    obtain ⟨on, hon⟩ : ∃ o, los[n]? = some o := ⟨_, List.getElem?_eq_getElem (show n < los.length by omega)⟩
    have hoc : on.op.isCall = true := by rw [hon] at hcall; exact hcall
    obtain ⟨i1, i2, outs, i3, i4, i5, i6⟩ := stepsL_run (Γ := Γ) (los.take n) (los.take n) 0 st st1 logs (fun i => by simp) hst
    have htl : (los.take n).length = n := by rw [List.length_take]; omega
    rw [htl, ← List.range_eq_range'] at i3 i4 i5
    have i3' := runAll_take (List.range n) (fun i hi => List.mem_range.1 hi) i3
    rw [endS_take (List.range n) (fun i hi => List.mem_range.1 hi)] at i4
    unfold pairsOk at hpo
    rw [List.all_eq_true] at hpo hps
    have hloose : ∀ i j : Nat, j < i → i < ops.size → j ∉ (preds ops.toList []).getD i [] → (j, i) ∈ loose ops.toList.length (preds ops.toList []) := by
      intro i j hji hi hnp
      unfold loose
      rw [List.mem_flatMap]
      refine ⟨i, List.mem_range.2 (by simpa using hi), ?_⟩
      rw [List.mem_map]
      exact ⟨j, List.mem_filter.2 ⟨List.mem_range.2 hji, by simpa using hnp⟩, rfl⟩
    refine wp_region_any hm ?_
    refine any_order_x (Γ := Γ) (outs := outs) (gen := st.gen) (n := n) (S' := look st1.slots) (M' := look st1.mem) hlos hpre hsn (fun j hj => ?_) (fun i j oi oj hji hin hnp hi hj => ?_) (fun st2 a' w' hd' R' g1 g2 g3 => ?_)
      ops.size _ (List.range n) st a _ hd ?_ (by simp) (by simp [hsn]) (by simp [hsn]) ?_ R.draw rfl i3' i4 i5
    · -- the call waits for j
      refine Classical.byContradiction fun hnp => ?_
      have hmem := hloose n j hj (by omega) hnp
      obtain ⟨oj, hoj⟩ : ∃ o, los[j]? = some o := ⟨_, List.getElem?_eq_getElem (show j < los.length by omega)⟩
      have := hps (j, n) (List.mem_filter.2 ⟨hmem, by simp only [hoj, hon, hoc, Bool.or_true]⟩)
      simp at this
    · have hmem := hloose i j hji (by omega) hnp
      have hsa := hsl _ hmem
      simp only [hi, hj] at hsa
      obtain ⟨s1, s2, s3⟩ := slotsApart_iff hsa
      by_cases hpu : oj.op.pure = true ∨ oi.op.pure = true
      · rcases hpu with hpu | hpu
        · obtain ⟨o', sl', m', k1, k2⟩ := runAll_get i3' j (List.mem_range.2 (by omega))
          rw [hj] at k1; injection k1 with k1; subst k1
          obtain ⟨z1, z2⟩ := core_pure hpu k2
          exact ⟨s1, s2, s3, by rw [z1]; simp, by rw [z2]; simp, by rw [z1]; simp⟩
        · obtain ⟨o', sl', m', k1, k2⟩ := runAll_get i3' i (List.mem_range.2 (by omega))
          rw [hi] at k1; injection k1 with k1; subst k1
          obtain ⟨z1, z2⟩ := core_pure hpu k2
          exact ⟨s1, s2, s3, by rw [z2]; simp, by rw [z1]; simp, by rw [z1]; simp⟩
      · have h3 : oj.op.pure = false ∧ oi.op.pure = false := by
          cases h4 : oj.op.pure <;> cases h5 : oi.op.pure <;> simp_all
        have hlg := hpo (j, i) (List.mem_filter.2 ⟨hmem, by simp only [hi, hj, h3.1, h3.2]; rfl⟩)
        have l1 := i6 j (by omega)
        have l2 := i6 i (by omega)
        rw [Nat.zero_add] at l1 l2
        simp only [l1, l2, apartLog, Bool.and_eq_true] at hlg
        obtain ⟨⟨d1, d2⟩, d3⟩ := hlg
        exact ⟨s1, s2, s3, fun e he => disj_iff d1 _ (List.mem_map.2 ⟨e, he, rfl⟩), fun e he => disj_iff d2 _ (List.mem_map.2 ⟨e, he, rfl⟩),
          fun e he e' he' heq => disj_iff d3 _ (List.mem_map.2 ⟨e, he, rfl⟩) (List.mem_map.2 ⟨e', he', heq.symm⟩)⟩
    · have R2 := R'.eqv g1.symm g2.symm (by rw [g3]; exact i2)
      have := hsq w0 I0 ops (postOf w0 I0 N Q) a' w' hd' hlos R2 (fun s a' w' hd' q R' => ⟨s, hd', R', q⟩)
      rw [show ops.size - n = 1 by omega] at this
      exact this
    · symm
      apply List.filter_eq_self.2
      intro i hi
      have := List.mem_range.1 hi
      have : i < ops.size := by omega
      simp [this]
    · intro i o ho hl
      exfalso
      have := (Array.getElem?_eq_some_iff.1 ho).1
      simp [this] at hl
  all_goals (first | (simp only [Option.map_eq_some_iff] at hc; obtain ⟨_, _, h⟩ := hc; cases h) | (split at hc <;> simp at hc) | (cases hc))
end
end Go.PW
namespace Go.PW.Bld
open Go Go.Proofs Go.Shelf Go.RowKit
variable {P : Program} {ρ : Go.Shelf.Ren}
structure Step (T e : TypeId) (b : Nat) (v : Value) (bs : List Value) (w w' : World) (v' : Value) : Prop where
  blk : w'.heap[b]? = some (.cells #[.pointer (some ⟨b, 0, none⟩), v'] T (0, 0))
  own : w'.ownsRow 0 e 1 v' bs.length bs
  new : v'.ownBlock = v.ownBlock ∨ ∀ k, v'.ownBlock = some k → w.heap.size ≤ k
  below : Below 0 w w'
  kept : ∀ k, k < w.heap.size → k ≠ b → v.ownBlock ≠ some k → w'.heap[k]? = w.heap[k]?
theorem check (L : Lays.n240 P ρ) (X : Builder.X72 P ρ) {b : Nat} {p v : Value} {w : World} (hbk : w.heap[b]? = some (.cells #[p, v] (ρ.t 72) (0, 0))) (hp : p = .pointer none ∨ p = .pointer (some ⟨b, 0, none⟩)) :
    Calls P (ρ.f 240) #[.pointer (some ⟨b, 0, none⟩)] w fun e w' => e = .returned (.tuple #[]) ∧ w'.heap[b]? = some (.cells #[.pointer (some ⟨b, 0, none⟩), v] (ρ.t 72) (0, 0)) ∧ w.grownBy w' (some b) ∧ w'.heap.size ≤ w.heap.size := by
  have c0 : w.cell? ⟨b, 0, none⟩ = some p := by rw [Lib.cell_of_heap hbk]; rfl
  rcases hp with rfl | rfl
  · refine (Any.Builder_copyCheck_fresh L X b w c0 (by simp [World.shape?, hbk]) (Lib.frozen_of_heap hbk 0)).mono ?_
    rintro e w' ⟨rfl, rfl⟩
    refine ⟨rfl, ?_, ⟨rfl, rfl, rfl, by simp [World.setCell], fun k _ hk => Below.heap_setCell _ _ _ _ (fun e => hk (by simp [e]))⟩, by simp [World.setCell]⟩
    simp [World.setCell, Array.getElem?_modify, hbk]
  · refine (Any.Builder_copyCheck_used L X b w c0).mono ?_
    rintro e w' ⟨rfl, rfl⟩
    exact ⟨rfl, hbk, ⟨rfl, rfl, rfl, Nat.le_refl _, fun _ _ _ => rfl⟩, Nat.le_refl _⟩
theorem lt_of_heap {w : World} {b : Nat} {o : Obj} (h : w.heap[b]? = some o) : b < w.heap.size := (Array.getElem?_eq_some_iff.1 h).1
set_option maxHeartbeats 2000000 in
set_option maxRecDepth 100000 in
theorem writeByte (L : Lays.n167 P ρ) (X : Builder.Extra P ρ) {b : Nat} {bs : List Value} {c : Int} {p v : Value} {w : World} (hbk : w.heap[b]? = some (.cells #[p, v] (ρ.t 72) (0, 0))) (hp : p = .pointer none ∨ p = .pointer (some ⟨b, 0, none⟩))
    (hown : w.ownsRow 0 (ρ.t 5) 1 v bs.length bs) (hne : v.ownBlock ≠ some b) (hlen : bs.length + 1 ≤ 140737488355328) :
    Calls P (ρ.f 167) #[.pointer (some ⟨b, 0, none⟩), .int .u8 c] w fun e w' => e = .returned .nilIface ∧ ∃ v', Step (ρ.t 72) (ρ.t 5) b v (bs ++ [.int .u8 c]) w w' v' := by
  obtain ⟨i0, hi, hz0, hz1, hz2⟩ := info_parts X.infoByte
  have mixed := L.mixed
  have t72 := L.t72; have a72 := L.a72; have z72 := L.z72; have v72 := L.v72; have u72 := run_underlying L.t72
  have t70 := L.t70; have a70 := L.a70; have z70 := L.z70; have v70 := L.v70; have u70 := run_underlying L.t70
  have t5 := L.t5; have a5 := L.a5; have z5 := L.z5; have v5 := L.v5; have u5 := run_underlying L.t5
  have t37 := L.t37; have a37 := L.a37; have z37 := L.z37; have v37 := L.v37; have u37 := run_underlying L.t37
  have t9 := L.t9; have a9 := L.a9; have z9 := L.z9; have v9 := L.v9; have u9 := run_underlying L.t9
  have t4 := L.t4; have a4 := L.a4; have z4 := L.z4; have v4 := L.v4; have u4 := run_underlying L.t4
  have t164 := L.t164; have a164 := L.a164; have z164 := L.z164; have v164 := L.v164; have u164 := run_underlying L.t164
  have e240 : ∀ args w, (callFunc (ρ.f 240) args).run P w = .ok (.enter (ρ.f 240) args) w := enters_of L.f240 (by kernel_rfl) rfl
  go_enter L.f167, Body.n167_ntmps ρ
  go_wp2_with (go_at_fn (ρ.f 240); refine (check { L with } X.toX72 hbk hp).mono ?_)
  rintro e w1 ⟨rfl, hbk1, g1, s1⟩
  have hown1 : w1.ownsRow 0 (ρ.t 5) 1 v bs.length bs := hown.kept (row := some b) g1 (.inr hne)
  have hlt : b < w1.heap.size := lt_of_heap hbk1
  have g1s := g1.size
  have c0 : w1.cell? ⟨b, 0, none⟩ = some (.pointer (some ⟨b, 0, none⟩)) := by rw [Lib.cell_of_heap hbk1]; rfl
  have c1 : w1.cell? ⟨b, 1, none⟩ = some v := by rw [Lib.cell_of_heap hbk1]; rfl
  go_wp2_with (at_builtin; refine wpList_append_own_at _ rfl _ _ (ρ.t 37) rfl 0 (ρ.t 5) i0 (.int .u8 0) 1 1 L.t37 hi hz0 hz1 hz2 rfl (by decide) _ _ _ rfl (hown1.alloc _) ⟨w1.heap.size, 0, none⟩ 1 1 [.int .u8 c] rfl rfl ?c1 ?c2 ?c3 ?c4 ?c5 ?_)
  case c1 => exact cell_one_new w1 (.int .u8 c) _
  case c2 => intro u hu; simp at hu; subst hu; rfl
  case c3 => unfold maxLen; omega
  case c4 => omega
  case c5 => omega
  intro v' w2 hown' hgrow _ hnew
  have hb2 : w2.heap[b]? = some (.cells #[.pointer (some ⟨b, 0, none⟩), v] (ρ.t 72) (0, 0)) := by
    rw [hgrow.block b (by simp; omega) (fun e => hne e.symm), Lib.alloc_old w1 _ b hlt]
    exact hbk1
  have d0 : w2.cell? ⟨b, 0, none⟩ = some (.pointer (some ⟨b, 0, none⟩)) := by rw [Lib.cell_of_heap hb2]; rfl
  have d1 : w2.cell? ⟨b, 1, none⟩ = some v := by rw [Lib.cell_of_heap hb2]; rfl
  have f1 : w2.frozen? ⟨b, 1, none⟩ = false := Lib.frozen_of_heap hb2 1
  obtain ⟨g, cap, rfl⟩ : ∃ g cap, v' = .slice (some ⟨g, 0, none⟩) (bs.length + 1) cap := by
    rcases hown'.2 with ⟨_, h0⟩ | ⟨g, cap, cur, hv, _⟩
    · omega
    · exact ⟨g, cap, hv⟩
  go_wp2
  go_ret
  have hne' : Value.ownBlock (.slice (some ⟨g, 0, none⟩) (bs.length + 1) cap) ≠ some b := by
    rcases hnew with h | h
    · rw [h]; exact hne
    · rw [h]; simp; omega
  refine ⟨rfl, .slice (some ⟨g, 0, none⟩) (bs.length + 1) cap, ?_, ?_, ?_, ?_, ?_⟩
  · simp [World.setCell, Array.getElem?_modify, hb2]
  · refine World.ownsRow.kept (row := some b) (w := w2) ?_ ⟨rfl, rfl, rfl, by simp [World.setCell], fun k _ hk => Below.heap_setCell _ _ _ _ (fun e => hk (by simp [e]))⟩ (.inr hne')
    simpa using hown'
  · rcases hnew with h | h
    · exact .inl h
    · refine .inr fun k hk => ?_
      rw [h] at hk
      simp at hk; omega
  · exact (((Below.refl 0 w).grown g1 (Nat.zero_le _) fun _ _ => Nat.zero_le _).alloc (Nat.zero_le _) _ |>.grown hgrow (Nat.zero_le _) fun _ _ => Nat.zero_le _).setCell (p := ⟨b, 1, none⟩) (Nat.zero_le _) _
  · intro k hk hkb hkv
    show (w2.setCell ⟨b, 1, none⟩ _).heap[k]? = _
    rw [Below.heap_setCell _ _ _ _ (fun e => hkb e), hgrow.block k (by simp; omega) (fun e => hkv e.symm), Lib.alloc_old w1 _ k (by omega), g1.block k hk (fun e => hkb (by simpa using e))]
theorem run_append_string_at {w : World} (t u ty e : TypeId) (i : TypeInfo) (ht : P.underlying t = some (.slice e)) (hu : P.underlying u = some .string) (hi : P.info? e = some i) (hz : i.zero = some (.int .u8 0))
    (hsize : i.size = 1) (hby : i.bytes = 1) (v : Value) (n : Nat) (xs : List Value) (hown : w.ownsRow 0 e 1 v n xs) (s : ByteArray) (h63 : n + s.size ≤ maxLen) (hbytes : n + s.size ≤ 140737488355328) :
    ∃ v' w', (Builtin.append_ #[t, u] ty #[v, .string s]).run P w = .ok v' w' ∧ w'.ownsRow 0 e 1 v' (n + s.size) (xs ++ Lib.strCells s) ∧ w.grownBy w' v.ownBlock ∧ (v'.ownBlock = v.ownBlock ∨ ∀ k, v'.ownBlock = some k → w.heap.size ≤ k) := by
  obtain ⟨v', w', hr, h1, h2, _⟩ := Lib.run_append_own_string (P := P) w 0 t u ty e i ht hu hi hz hsize hby v n xs hown s h63 hbytes (Nat.zero_le _)
  refine ⟨v', w', hr, h1, h2, ?_⟩
  have hsmall : n + s.size ≤ 9223372036854775807 := by simp only [maxLen] at h63; omega
  have hxl : xs.length = n := by simpa using hown.1
  rcases hown.2 with ⟨rfl, rfl⟩ | ⟨g, cap, cur, rfl, hbg, hg, hnc, hcm, hcs, htake⟩
  · obtain ⟨v2, w2, hr2, k1, k2, _⟩ := Lib.run_append_own_string (P := P) w w.heap.size t u ty e i ht hu hi hz hsize hby (.slice none 0 0) 0 xs ⟨by simpa using hxl, .inl ⟨rfl, rfl⟩⟩ s h63 hbytes (Nat.le_refl _)
    rw [hr] at hr2
    injection hr2 with e1 e2
    subst e1 e2
    refine .inr fun k hk => ?_
    rcases k1.2 with ⟨rfl, _⟩ | ⟨g, cap, cur, rfl, hbg, _⟩
    · simp [Value.ownBlock] at hk
    · simp [Value.ownBlock] at hk; omega
  · by_cases hroom : n + s.size ≤ cap
    · have hcs' : cur.size = cap := by simpa using hcs
      have hr2 := Lib.run_append_room_string (P := P) w t u ty e i ht hu hi hsize g n cap cur hg s hroom (by omega)
      rw [hr] at hr2
      injection hr2 with e1 e2
      subst e1
      exact .inl rfl
    · have holds : ∀ j u, xs[j]? = some u → w.cell? ((⟨g, 0, none⟩ : Addr).add j) = some u := hown.cells (g := g) rfl
      have hr2 := Lib.run_append_grow_string (P := P) w t u ty e i (.int .u8 0) ht hu hi hz ⟨g, 0, none⟩ n cap xs (by rw [hsize]; simpa using hxl) holds s (by omega) (by omega) (by rw [hby]; exact growslice_fits (by omega) (by omega))
      rw [hr] at hr2
      injection hr2 with e1 e2
      subst e1
      refine .inr fun k hk => ?_
      simp [Value.ownBlock] at hk; omega
theorem wpList_append_string_at {w : World} {ops : Array Oper} {rest : List Oper} {o : Oper} {a : Act} {Q : Exit → Act → World → Prop} (hgd : o.guard = none) (sl x : Operand) (t u : TypeId)
    (ho : o.op = .call { callee := .builtin .append, args := #[sl, x], argTypes := #[t, u] })
    (e : TypeId) (i : TypeInfo) (ht : P.underlying t = some (.slice e)) (hu : P.underlying u = some .string) (hi : P.info? e = some i) (hz : i.zero = some (.int .u8 0)) (hsize : i.size = 1) (hby : i.bytes = 1)
    (v : Value) (n : Nat) (xs : List Value) (hs : a.eval sl = v) (hown : w.ownsRow 0 e 1 v n xs) (s : ByteArray) (hx : a.eval x = .string s) (h63 : n + s.size ≤ maxLen) (hbytes : n + s.size ≤ 140737488355328)
    (h : ∀ v' w', w'.ownsRow 0 e 1 v' (n + s.size) (xs ++ Lib.strCells s) → w.grownBy w' v.ownBlock → (v'.ownBlock = v.ownBlock ∨ ∀ k, v'.ownBlock = some k → w.heap.size ≤ k) → wpList P ops Q rest (a.put o.dst v') w') : wpList P ops Q (o :: rest) a w := by
  refine wpList_plain hgd fun K hK => ?_
  obtain ⟨v', w', hr, h2, h3, h4⟩ := run_append_string_at (P := P) t u o.type e i ht hu hi hz hsize hby v n xs hown s h63 hbytes
  unfold Oper.wp execOp
  simp only [ho, resolve, invoke, builtin, Sem.run_bind, Sem.run_pure, Result.andThen_ok, List.map_toArray, List.map_cons, List.map_nil, hs, hx, hr]
  exact hK _ _ (h v' w' h2 h3 h4)
set_option maxHeartbeats 2000000 in
set_option maxRecDepth 100000 in
theorem writeString (L : Lays.n166 P ρ) (X : Builder.Extra P ρ) {b : Nat} {bs : List Value} {s : ByteArray} {p v : Value} {w : World} (hbk : w.heap[b]? = some (.cells #[p, v] (ρ.t 72) (0, 0))) (hp : p = .pointer none ∨ p = .pointer (some ⟨b, 0, none⟩))
    (hown : w.ownsRow 0 (ρ.t 5) 1 v bs.length bs) (hne : v.ownBlock ≠ some b) (hlen : bs.length + s.size ≤ 140737488355328) :
    Calls P (ρ.f 166) #[.pointer (some ⟨b, 0, none⟩), .string s] w fun e w' => e = .returned (.tuple #[.int .i64 s.size, .nilIface]) ∧ ∃ v', Step (ρ.t 72) (ρ.t 5) b v (bs ++ Lib.strCells s) w w' v' := by
  obtain ⟨i0, hi, hz0, hz1, hz2⟩ := info_parts X.infoByte
  have mixed := L.mixed
  have t72 := L.t72; have a72 := L.a72; have z72 := L.z72; have v72 := L.v72; have u72 := run_underlying L.t72
  have t70 := L.t70; have a70 := L.a70; have z70 := L.z70; have v70 := L.v70; have u70 := run_underlying L.t70
  have t37 := L.t37; have a37 := L.a37; have z37 := L.z37; have v37 := L.v37; have u37 := run_underlying L.t37
  have t3 := L.t3; have a3 := L.a3; have z3 := L.z3; have v3 := L.v3; have u3 := run_underlying L.t3
  have t9 := L.t9; have a9 := L.a9; have z9 := L.z9; have v9 := L.v9; have u9 := run_underlying L.t9
  have t4 := L.t4; have a4 := L.a4; have z4 := L.z4; have v4 := L.v4; have u4 := run_underlying L.t4
  have t164 := L.t164; have a164 := L.a164; have z164 := L.z164; have v164 := L.v164; have u164 := run_underlying L.t164
  have t5 := X.t5; have a5 := X.a5; have z5 := X.z5; have v5 := X.v5; have u5 := run_underlying X.t5
  have e240 : ∀ args w, (callFunc (ρ.f 240) args).run P w = .ok (.enter (ρ.f 240) args) w := enters_of L.f240 (by kernel_rfl) rfl
  go_enter L.f166, Body.n166_ntmps ρ
  go_wp2_with (go_at_fn (ρ.f 240); refine (check { L with } X.toX72 hbk hp).mono ?_)
  rintro e w1 ⟨rfl, hbk1, g1, s1⟩
  have hown1 : w1.ownsRow 0 (ρ.t 5) 1 v bs.length bs := hown.kept (row := some b) g1 (.inr hne)
  have hlt : b < w1.heap.size := lt_of_heap hbk1
  have g1s := g1.size
  have c0 : w1.cell? ⟨b, 0, none⟩ = some (.pointer (some ⟨b, 0, none⟩)) := by rw [Lib.cell_of_heap hbk1]; rfl
  have c1 : w1.cell? ⟨b, 1, none⟩ = some v := by rw [Lib.cell_of_heap hbk1]; rfl
  go_wp2_with (at_builtin; refine wpList_append_string_at rfl _ _ (ρ.t 37) (ρ.t 9) rfl (ρ.t 5) i0 L.t37 L.t9 hi hz0 hz1 hz2 _ _ _ rfl hown1 s rfl ?c3 ?c4 ?_)
  case c3 => unfold maxLen; omega
  case c4 => omega
  intro v' w2 hown' hgrow hnew
  have hb2 : w2.heap[b]? = some (.cells #[.pointer (some ⟨b, 0, none⟩), v] (ρ.t 72) (0, 0)) := by
    rw [hgrow.block b hlt (fun e => hne e.symm)]
    exact hbk1
  have d0 : w2.cell? ⟨b, 0, none⟩ = some (.pointer (some ⟨b, 0, none⟩)) := by rw [Lib.cell_of_heap hb2]; rfl
  have d1 : w2.cell? ⟨b, 1, none⟩ = some v := by rw [Lib.cell_of_heap hb2]; rfl
  have f1 : w2.frozen? ⟨b, 1, none⟩ = false := Lib.frozen_of_heap hb2 1
  obtain ⟨ao, n', cap, rfl⟩ : ∃ ao n' cap, v' = .slice ao n' cap := by
    rcases hown'.2 with ⟨hv, _⟩ | ⟨g, cap, cur, hv, _⟩
    · exact ⟨_, _, _, hv⟩
    · exact ⟨_, _, _, hv⟩
  go_wp2
  go_ret2
  have hne' : Value.ownBlock (.slice ao n' cap) ≠ some b := by
    rcases hnew with h | h
    · rw [h]; exact hne
    · intro e; have := h b e; omega
  refine ⟨rfl, .slice ao n' cap, ?_, ?_, ?_, ?_, ?_⟩
  · simp [World.setCell, Array.getElem?_modify, hb2]
  · refine World.ownsRow.kept (row := some b) (w := w2) ?_ ⟨rfl, rfl, rfl, by simp [World.setCell], fun k _ hk => Below.heap_setCell _ _ _ _ (fun e => hk (by simp [e]))⟩ (.inr hne')
    simpa [Lib.strCells_length] using hown'
  · rcases hnew with h | h
    · exact .inl h
    · refine .inr fun k hk => ?_
      have := h k hk; omega
  · exact ((Below.refl 0 w).grown g1 (Nat.zero_le _) (fun _ _ => Nat.zero_le _) |>.grown hgrow (Nat.zero_le _) fun _ _ => Nat.zero_le _).setCell (p := ⟨b, 1, none⟩) (Nat.zero_le _) _
  · intro k hk hkb hkv
    show (w2.setCell ⟨b, 1, none⟩ _).heap[k]? = _
    rw [Below.heap_setCell _ _ _ _ (fun e => hkb e), hgrow.block k (by omega) (fun e => hkv e.symm), g1.block k hk (fun e => hkb (by simpa using e))]
set_option maxHeartbeats 1000000 in
set_option maxRecDepth 100000 in
theorem string1 (L : Lays.n169 P ρ) (X : Builder.Extra P ρ) {b : Nat} {l : List UInt8} {p v : Value} {w : World} (hbk : w.heap[b]? = some (.cells #[p, v] (ρ.t 72) (0, 0)))
    (hown : w.ownsRow 0 (ρ.t 5) 1 v l.length (Lib.byteCells l)) (h0 : l ≠ []) :
    Calls P (ρ.f 169) #[.pointer (some ⟨b, 0, none⟩)] w fun e w' => e = .returned (.string ⟨l.toArray⟩) ∧ Below 0 w w' ∧ ∀ k, k < w.heap.size → v.ownBlock ≠ some k → w'.heap[k]? = w.heap[k]? := by
  have hl0 : l.length ≠ 0 := by simpa using h0
  obtain ⟨g, cap, cur, rfl, hbg, hg, hnc, hcm, hcs, htake⟩ : ∃ g cap cur, v = .slice (some ⟨g, 0, none⟩) l.length cap ∧ 0 ≤ g ∧ w.heap[g]? = some (.cells cur (ρ.t 5) (0, 0)) ∧ l.length ≤ cap ∧ cap ≤ maxLen ∧ cur.size = cap * 1 ∧ cur.toList.take (l.length * 1) = Lib.byteCells l := by
    rcases hown.2 with ⟨_, hz⟩ | ⟨g, cap, cur, hv, r⟩
    · exact absurd hz hl0
    · exact ⟨g, cap, cur, hv, r⟩
  have c1 : w.drew.cell? ⟨b, 1, none⟩ = some (.slice (some ⟨g, 0, none⟩) l.length cap) := by
    have : w.drew.heap[b]? = some (.cells #[p, .slice (some ⟨g, 0, none⟩) l.length cap] (ρ.t 72) (0, 0)) := hbk
    rw [Lib.cell_of_heap this]; rfl
  have hSD : (Builtin.unsafeSliceData_ #[(ρ.t 37)] (ρ.t 127) #[.slice (some ⟨g, 0, none⟩) l.length cap]).run P w.drew = .ok (.pointer (some ⟨g, 0, none⟩)) w.drew :=
    Lib.run_unsafeSliceData_row _ _ _ _ _ _ (by omega)
  have hUS : (Builtin.unsafeString_ #[(ρ.t 127), (ρ.t 3)] (ρ.t 9) #[.pointer (some ⟨g, 0, none⟩), .int .i64 l.length]).run P w.drew = .ok (.string ⟨l.toArray⟩) (w.drew.freeze ⟨g, 0, none⟩ l.length) := by
    refine Lib.run_unsafeString_row w.drew (ρ.t 127) (ρ.t 3) (ρ.t 9) (ρ.t 5) L.t127 X.cellsByte g cur.size (by have hg' : w.drew.heap[g]? = some (.cells cur (ρ.t 5) (0, 0)) := hg; simp [World.shape?, hg']) l h0 (by omega) (by unfold maxLen at hcm; omega) ?_
    intro j x hx
    have := hown.cells (g := g) rfl j (.int .u8 x.toNat) (by simp [Lib.byteCells, hx])
    exact this
  have mixed := L.mixed
  have t72 := L.t72; have a72 := L.a72; have z72 := L.z72; have v72 := L.v72; have u72 := run_underlying L.t72
  have t70 := L.t70; have a70 := L.a70; have z70 := L.z70; have v70 := L.v70; have u70 := run_underlying L.t70
  have t37 := L.t37; have a37 := L.a37; have z37 := L.z37; have v37 := L.v37; have u37 := run_underlying L.t37
  have t127 := L.t127; have a127 := L.a127; have z127 := L.z127; have v127 := L.v127; have u127 := run_underlying L.t127
  have t3 := L.t3; have a3 := L.a3; have z3 := L.z3; have v3 := L.v3; have u3 := run_underlying L.t3
  have t9 := L.t9; have a9 := L.a9; have z9 := L.z9; have v9 := L.v9; have u9 := run_underlying L.t9
  have t5 := X.t5; have a5 := X.a5; have z5 := X.z5; have v5 := X.v5; have u5 := run_underlying X.t5
  have hfin : Below 0 w (w.drew.freeze ⟨g, 0, none⟩ l.length) ∧ ∀ k, k < w.heap.size → Value.ownBlock (.slice (some ⟨g, 0, none⟩) l.length cap) ≠ some k → (w.drew.freeze ⟨g, 0, none⟩ l.length).heap[k]? = w.heap[k]? := by
    refine ⟨Lib.below_freeze (Below.drew (Below.refl 0 w)) (p := ⟨g, 0, none⟩) hbg _, fun k hk hkv => ?_⟩
    have hkg : g ≠ k := fun e => hkv (by simp [Value.ownBlock, e])
    have e : w.heap[k]? = w.drew.heap[k]? := rfl
    rw [e]
    unfold World.freeze
    rw [if_neg hl0]
    simp only [Array.getElem?_modify]
    rw [if_neg hkg]
  go_enter L.f169, Body.n169_ntmps ρ
  go_wp2
  go_region_o
  all_goals (go_wp2; go_ret; exact ⟨rfl, hfin⟩)
theorem string (L : Lays.n169 P ρ) (X : Builder.Extra P ρ) {b : Nat} {l : List UInt8} {p v : Value} {w : World} (hbk : w.heap[b]? = some (.cells #[p, v] (ρ.t 72) (0, 0)))
    (hown : w.ownsRow 0 (ρ.t 5) 1 v l.length (Lib.byteCells l)) :
    Calls P (ρ.f 169) #[.pointer (some ⟨b, 0, none⟩)] w fun e w' => e = .returned (.string ⟨l.toArray⟩) ∧ Below 0 w w' ∧ ∀ k, k < w.heap.size → v.ownBlock ≠ some k → w'.heap[k]? = w.heap[k]? := by
  cases l with
  | cons x r => exact string1 L X hbk hown (by simp)
  | nil =>
    have fin : ∀ (e : Ending) (w' : World), (e = .returned (.string ⟨#[]⟩) ∧ Below w.heap.size w w') → e = .returned (.string ⟨([] : List UInt8).toArray⟩) ∧ Below 0 w w' ∧ ∀ k, k < w.heap.size → v.ownBlock ≠ some k → w'.heap[k]? = w.heap[k]? := by
      rintro e w' ⟨rfl, hb⟩
      exact ⟨rfl, hb.mono (Nat.zero_le _), fun k hk _ => hb.block k hk⟩
    rcases hown.2 with ⟨rfl, _⟩ | ⟨g, cap, cur, rfl, hbg, hg, _, _, _, _⟩
    · exact (Any.Builder_String_nil L X w.heap.size b p w hbk).mono fin
    · by_cases hc0 : cap = 0
      · subst hc0
        exact (Any.Builder_String_noroom L X w.heap.size b g p cur w (Nat.le_refl _) hbk hg).mono fin
      · exact (Any.Builder_String_room L X w.heap.size b g cap p w hc0 hbk).mono fin
end Go.PW.Bld
namespace Go.PW
open Go.RowKit
variable {P : Program} {f : FuncId}
def brow (T u : Nat) : Ent := ⟨0, T, 2, [[.pown 1 0 BX BX, .own u 0]], false, false, false⟩
def urow (e : Nat) (l : List Int) : Ent := ⟨0, e, 1, l.map (cK .u8), true, false, false⟩
theorem live13 {E1 E2 e0 : Ent} {nm ver : Nat} (h1 : E1.ver = 0) (h2 : E1.dead = false) (h3 : E2.ver = 0) (h4 : E2.dead = false) : live [(1, E1), (3, E2)] nm ver = some e0 ↔ (nm = 1 ∧ ver = 0 ∧ e0 = E1) ∨ (nm = 3 ∧ ver = 0 ∧ e0 = E2) := by
  rw [live_some]
  simp only [look]
  constructor
  · rintro ⟨h, h5, _⟩
    by_cases hn : 1 = nm
    · rw [if_pos hn] at h
      injection h with h
      subst h
      exact .inl ⟨hn.symm, by omega, rfl⟩
    · rw [if_neg hn] at h
      by_cases hn2 : 3 = nm
      · rw [if_pos hn2] at h
        injection h with h
        subst h
        exact .inr ⟨hn2.symm, by omega, rfl⟩
      · rw [if_neg hn2] at h; cases h
  · rintro (⟨rfl, rfl, rfl⟩ | ⟨rfl, rfl, rfl⟩)
    · exact ⟨by simp, h1, h2⟩
    · exact ⟨by simp, h3, h4⟩
def libBString (l : List Int) : Option (List UInt8) := if (l.all fun n => decide (0 ≤ n) && decide (n < 256)) = true then some (l.map fun n => UInt8.ofNat n.toNat) else none
theorem libBString_some {l : List Int} {s : List UInt8} (h : libBString l = some s) : l = bts s := by
  unfold libBString at h
  split at h
  · rename_i hc
    injection h with h
    subst h
    unfold bts
    rw [List.map_map]
    refine (List.map_id l).symm.trans (List.map_congr_left fun n hn => ?_)
    rw [List.all_eq_true] at hc
    have := hc n hn
    simp only [Bool.and_eq_true, decide_eq_true_eq] at this
    obtain ⟨k, rfl⟩ : ∃ k : Nat, n = k := ⟨n.toNat, by omega⟩
    simp only [id_eq, Function.comp_apply, Int.toNat_natCast, UInt8.toNat_ofNat']
    omega
  · cases h
theorem libBString_bts (s : List UInt8) : libBString (bts s) = some s := by
  unfold libBString
  rw [if_pos]
  · unfold bts
    rw [List.map_map]
    congr 1
    refine (List.map_congr_left fun b _ => ?_).trans (List.map_id s)
    simp
  · rw [List.all_eq_true]
    intro n hn
    unfold bts at hn
    rw [List.mem_map] at hn
    obtain ⟨b, _, rfl⟩ := hn
    have := b.toNat_lt
    simp only [Bool.and_eq_true, decide_eq_true_eq]
    omega
def encB (l : List Int) : List Value := l.map fun n => .int .u8 n
structure BIn (T e : Nat) (l : List Int) (w : World) (hd : Nat → Value) (b : Nat) (p : Value) : Prop where
  hd1 : hd 1 = .slice (some ⟨b, 0, none⟩) 1 1
  blk : w.heap[b]? = some (.cells #[p, hd 2] T (0, 0))
  hp : p = .pointer none ∨ p = .pointer (some ⟨b, 0, none⟩)
  own : w.ownsRow 0 e 1 (hd 2) (encB l).length (encB l)
  ne : (hd 2).ownBlock ≠ some b
theorem encB_length (l : List Int) : (encB l).length = l.length := by simp [encB]
theorem row_enc {w : World} {C : Ctx} {e nm : Nat} {l : List Int} {xs : List Value} (ho : w.ownsRow 0 e 1 (C.hd nm) (l.map (cK .u8)).length xs) (hc : ∀ (i : Nat) (cs : List PV), (l.map (cK .u8))[i]? = some cs → cs.length = 1 ∧ (∀ p ∈ cs, p.one = true) ∧
    ∀ (j : Nat) (p : PV), cs[j]? = some p → ∃ v, xs[i * 1 + j]? = some v ∧ (RV C v p ∧ (true = true → DV C.w (imm C.mem C.hd C.I0) v p))) : xs = encB l := by
  have hlen : xs.length = l.length := by have := ho.1; simpa using this
  apply List.ext_getElem?
  intro i
  by_cases hi : i < l.length
  · obtain ⟨_, _, hj⟩ := hc i (cK .u8 l[i]) (by simp [hi])
    obtain ⟨v, hx, _, hr⟩ := hj 0 (.int .u8 l[i]) rfl
    have hve : v = .int .u8 l[i] := by cases hr rfl; rfl
    simp only [Nat.mul_one, Nat.add_zero] at hx
    rw [hx, hve]
    simp [encB, hi]
  · rw [List.getElem?_eq_none (by omega), List.getElem?_eq_none (by simp [encB]; omega)]
theorem bin_of {T e : Nat} {l : List Int} {w : World} {hd : Nat → Value} {I : Nat → Prop} {gh : Nat → Value} (M : MemInv ⟨w, 0, Nat.zero_le _⟩ ⟨w, [(1, brow T 2), (2, urow e l)], hd, 2, fun b => I b ∨ w.heap.size ≤ b, gh⟩) : ∃ b p, BIn T e l w hd b p := by
  have lv1 : live [(1, brow T 2), (2, urow e l)] 1 0 = some (brow T 2) := (live2 rfl rfl rfl rfl).2 (.inl ⟨rfl, rfl, rfl⟩)
  have lv2 : live [(1, brow T 2), (2, urow e l)] 2 0 = some (urow e l) := (live2 rfl rfl rfl rfl).2 (.inr ⟨rfl, rfl, rfl⟩)
  obtain ⟨xs, ho1, _, hc1⟩ := M.rows 1 0 _ lv1
  obtain ⟨ys, ho2, _, hc2⟩ := M.rows 2 0 _ lv2
  obtain ⟨_, _, k1⟩ := hc1 0 _ rfl
  obtain ⟨u0, x0, r0, _⟩ := k1 0 _ rfl
  obtain ⟨u1, x1, r1, _⟩ := k1 1 _ rfl
  have q0 := r0.pown_inv.2.2 _ lv1
  have q1 : u1 = hd 2 := r1.own_inv.2.2 _ lv2
  rcases ho1.2 with ⟨_, h⟩ | ⟨g, cap, cur, hh, _, hg, hnc, hcm, hcs, ht⟩
  · simp [brow] at h
  have hh : hd 1 = .slice (some ⟨g, 0, none⟩) 1 cap := hh
  simp only [pownHdr, hh, and_self, if_true] at q0
  obtain ⟨_, hc1', hp⟩ := q0
  subst hc1'
  have hcur : cur.toList = [u0, u1] := by
    have hl : cur.toList.length = 2 := by simpa [brow] using hcs
    have hxl : xs.length = 2 := by simpa [brow] using ho1.1
    have ht' : cur.toList.take 2 = xs := by simpa [brow] using ht
    rw [List.take_of_length_le (by omega)] at ht'
    rw [ht']
    match xs, hxl, x0, x1 with
    | [a, b], _, x0, x1 => simp [brow] at x0 x1; subst x0 x1; rfl
  have hcur' : cur = #[u0, u1] := Array.ext' (by simpa using hcur)
  subst hcur'
  refine ⟨g, u0, hh, ?_, ?_, ?_, ?_⟩
  · rw [← q1]; exact hg
  · exact hp
  · have := row_enc (w := w) (C := ⟨w, [(1, brow T 2), (2, urow e l)], hd, 2, fun b => I b ∨ w.heap.size ≤ b, gh⟩) ho2 hc2
    subst this
    rw [encB_length]
    simpa [urow] using ho2
  · intro hb
    exact M.apart 1 2 0 0 _ _ g (by omega) lv1 lv2 (by show (hd 1).ownBlock = some g; rw [hh]; rfl) hb
theorem bptr {T e : Nat} {l : List Int} {w : World} {hd : Nat → Value} {I : Nat → Prop} {gh : Nat → Value} {b : Nat} {p v : Value} (B : BIn T e l w hd b p) (h : RV ⟨w, [(1, brow T 2), (2, urow e l)], hd, 2, fun b => I b ∨ w.heap.size ≤ b, gh⟩ v (.pown 1 0 0 0)) : v = .pointer (some ⟨b, 0, none⟩) := by
  have := h.pown_inv.2.2 _ ((live2 rfl rfl rfl rfl).2 (.inl ⟨rfl, rfl, rfl⟩))
  simp only [pownHdr, B.hd1] at this
  rw [if_neg (not_bx2 (by decide))] at this
  simpa [Addr.add] using this
theorem PMut.bwrite {T e : Nat} {l l2 : List Int} {ex : List PV} {res : PV} (hbig : l2.length ≤ big)
    (h : ∀ (w : World) (b : Nat) (p v : Value) (xs : List Value) (I : Nat → Prop), w.heap[b]? = some (.cells #[p, v] T (0, 0)) → (p = .pointer none ∨ p = .pointer (some ⟨b, 0, none⟩)) → w.ownsRow 0 e 1 v (encB l).length (encB l) → v.ownBlock ≠ some b →
      DVs w I xs ex → Calls P f (.pointer (some ⟨b, 0, none⟩) :: xs).toArray w fun r w' => ∃ q, r = .returned q ∧ (∀ (w2 : World) (J : Nat → Prop), DV w2 J q res) ∧ ∃ v', Bld.Step T e b v (encB l2) w w' v') (hex : ex.all PV.flat0 = true) :
    PMut P f (.pown 1 0 0 0 :: ex) [(1, brow T 2), (2, urow e l)] res [(1, brow T 3), (3, urow e l2)] := by
  intro w hd I gh vs M hl hv
  have lv1 : live [(1, brow T 2), (2, urow e l)] 1 0 = some (brow T 2) := (live2 rfl rfl rfl rfl).2 (.inl ⟨rfl, rfl, rfl⟩)
  have lv2 : live [(1, brow T 2), (2, urow e l)] 2 0 = some (urow e l) := (live2 rfl rfl rfl rfl).2 (.inr ⟨rfl, rfl, rfl⟩)
  obtain ⟨b, p, B⟩ := bin_of M
  obtain ⟨v0, xs, rfl⟩ : ∃ v0 xs, vs = v0 :: xs := by
    match vs, hl with
    | v0 :: xs, _ => exact ⟨v0, xs, rfl⟩
  have e0 := bptr B (hv 0 v0 _ rfl rfl)
  subst e0
  have hxs : DVs w (fun _ => False) xs ex := by
    have hlen : xs.length = ex.length := by simpa using hl
    have hval : ∀ (j : Nat) (v : Value) (p : PV), xs[j]? = some v → ex[j]? = some p → RV ⟨w, [(1, brow T 2), (2, urow e l)], hd, 2, fun b => I b ∨ w.heap.size ≤ b, gh⟩ v p := fun j v p g1 g2 => hv (j + 1) v p g1 g2
    clear hv hl h
    induction ex generalizing xs with
    | nil => cases xs with
      | nil => exact .nil
      | cons => simp at hlen
    | cons q qs ih =>
      cases xs with
      | nil => simp at hlen
      | cons x xs =>
        simp only [List.all_cons, Bool.and_eq_true] at hex
        have h1 := hval 0 x q rfl rfl
        refine .cons ?_ (ih hex.2 xs (by simpa using hlen) fun j v p g1 g2 => hval (j + 1) v p g1 g2)
        have hq := hex.1
        cases q <;> first | (simp [PV.flat0] at hq; done) | (cases h1 with | data _ _ h1 => cases h1 <;> first | exact .int _ _ | exact .bool _ | exact .str _ ‹_› | exact .nils | exact .pnil | exact .fnil | exact .nilI | exact .iface _ _ | exact .anyi _)
  refine (h w b p (hd 2) xs _ B.blk B.hp B.own B.ne hxs).mono ?_
  rintro r w' ⟨q, rfl, hq, v', S⟩
  have hblt : b < w.heap.size := (Array.getElem?_eq_some_iff.1 B.blk).1
  let hd' : Nat → Value := fun n => if n = 3 then v' else hd n
  have lv : ∀ {nm ver e0}, live [(1, brow T 3), (3, urow e l2)] nm ver = some e0 → (nm = 1 ∧ ver = 0 ∧ e0 = brow T 3) ∨ (nm = 3 ∧ ver = 0 ∧ e0 = urow e l2) := fun h => (live13 rfl rfl rfl rfl).1 h
  have hk1 : (hd 1).ownBlock = some b := by rw [B.hd1]; rfl
  have hfree : ∀ k, k < w.heap.size → free [(1, brow T 2), (2, urow e l)] hd k → free [(1, brow T 3), (3, urow e l2)] hd' k ∧ w'.heap[k]? = w.heap[k]? := by
    intro k hk hf
    have f1 := hf 1 0 _ lv1
    have f2 := hf 2 0 _ lv2
    refine ⟨fun nm ver e0 h => ?_, S.kept k hk (fun e => f1 (by rw [hk1, e])) f2⟩
    rcases lv h with ⟨rfl, _, _⟩ | ⟨rfl, _, _⟩
    · exact f1
    · show v'.ownBlock ≠ some k
      intro hb
      rcases S.new with h3 | h3
      · rw [h3] at hb; exact f2 hb
      · have := h3 k hb; omega
  have hkeep : ∀ k, k < w.heap.size → imm [(1, brow T 2), (2, urow e l)] hd (fun b => I b ∨ w.heap.size ≤ b) k → imm [(1, brow T 3), (3, urow e l2)] hd' (fun b => I b ∨ w.heap.size ≤ b) k ∧ w'.heap[k]? = w.heap[k]? :=
    fun k hk hi => ⟨⟨hi.1, (hfree k hk hi.2).1⟩, (hfree k hk hi.2).2⟩
  have hne' : v'.ownBlock ≠ some b := by
    rcases S.new with h3 | h3
    · rw [h3]; exact B.ne
    · intro hb; have := h3 b hb; omega
  have hone : v'.oneCell' = true := by
    rcases S.own.2 with ⟨rfl, _⟩ | ⟨g, cap, cur, rfl, _⟩ <;> rfl
  refine ⟨q, hd', rfl, ⟨M.i0, M.glob.mono S.below.size hkeep, S.below, ?_, ?_, ?_, ?_⟩, .data _ _ (hq _ _), ?_, hfree⟩
  · intro nm e0 h
    simp only [look] at h
    split at h
    · injection h with h; subst h; exact ⟨fun h => (by cases h), fun _ => (by show 0 < 2; omega)⟩
    · split at h
      · injection h with h; subst h; exact ⟨fun h => (by cases h), fun _ => (by show 0 < 2; omega)⟩
      · cases h
  · intro nm ver e0 h
    rcases lv h with ⟨rfl, rfl, rfl⟩ | ⟨rfl, rfl, rfl⟩
    · refine ⟨[.pointer (some ⟨b, 0, none⟩), v'], ⟨rfl, .inr ⟨b, 1, #[.pointer (some ⟨b, 0, none⟩), v'], B.hd1, Nat.zero_le _, S.blk, Nat.le_refl _, by decide, rfl, rfl⟩⟩, (by show (1 : Nat) ≤ big; decide), fun i cs hi => ?_⟩
      match i, hi with
      | 0, hi =>
        simp [brow] at hi; subst hi
        refine ⟨rfl, by simp [PV.one], fun j p hj => ?_⟩
        match j, hj with
        | 0, hj =>
          cases hj
          refine ⟨_, rfl, .pown 1 0 BX BX _ rfl (.inl (by show 0 < 2; omega)) fun e0 he => ?_, fun h => by cases h⟩
          show pownHdr (hd 1) _ _ _ _
          simp only [pownHdr, B.hd1, and_self, if_true, true_and]
          exact .inr trivial
        | 1, hj =>
          cases hj
          exact ⟨_, rfl, .own 3 0 _ hone (.inl (by show 0 < 2; omega)) fun e0 he => rfl, fun h => by cases h⟩
        | j + 2, hj => simp at hj
      | i + 1, hi => simp [brow] at hi
    · refine ⟨encB l2, by simpa [urow, encB, hd'] using S.own, by simpa [urow] using hbig, fun i cs hi => ?_⟩
      simp only [urow, List.getElem?_map, Option.map_eq_some_iff] at hi
      obtain ⟨n, hn, rfl⟩ := hi
      refine ⟨rfl, by simp [cK, PV.one], fun j p hj => ?_⟩
      match j, hj with
      | 0, hj => cases hj; exact ⟨.int .u8 n, by simp [encB, urow, hn], .data _ _ (.int _ _), fun _ => .int _ _⟩
      | j + 1, hj => simp [cK] at hj
  · intro nm nm' ver ver' e0 e1 k hne h1 h2 hb
    rcases lv h1 with ⟨rfl, _, _⟩ | ⟨rfl, _, _⟩ <;> rcases lv h2 with ⟨rfl, _, _⟩ | ⟨rfl, _, _⟩
    · exact absurd rfl hne
    · have hb : (hd 1).ownBlock = some k := hb
      rw [hk1] at hb; injection hb with hb; subst hb
      exact hne'
    · show (hd 1).ownBlock ≠ some k
      rw [hk1]
      intro hb2; injection hb2 with hb2; subst hb2
      exact hne' hb
    · exact absurd rfl hne
  · intro nm ver e0 k h hb
    rcases lv h with ⟨rfl, _, _⟩ | ⟨rfl, _, _⟩
    · exact M.own0 1 0 _ k lv1 hb
    · have hb : v'.ownBlock = some k := hb
      rcases S.new with h3 | h3
      · rw [h3] at hb; exact M.own0 2 0 _ k lv2 hb
      · exact .inr (h3 k hb)
  · intro nm e0 e1 h1 h2
    rcases lv h2 with ⟨rfl, _, _⟩ | ⟨rfl, _, _⟩
    · rfl
    · rcases (live2 rfl rfl rfl rfl).1 h1 with ⟨h, _⟩ | ⟨h, _⟩ <;> cases h
theorem PMut.blen {T e : Nat} {l : List Int}
    (h : ∀ (w : World) (b : Nat) (p v : Value), w.heap[b]? = some (.cells #[p, v] T (0, 0)) → (p = .pointer none ∨ p = .pointer (some ⟨b, 0, none⟩)) → w.ownsRow 0 e 1 v (encB l).length (encB l) → v.ownBlock ≠ some b →
      Calls P f #[.pointer (some ⟨b, 0, none⟩)] w fun r w' => r = .returned (.int .i64 (encB l).length) ∧ w' = w) :
    PMut P f [.pown 1 0 0 0] [(1, brow T 2), (2, urow e l)] (.int .i64 l.length) [(1, brow T 2), (2, urow e l)] := by
  intro w hd I gh vs M hl hv
  obtain ⟨b, p, B⟩ := bin_of M
  obtain ⟨v0, rfl⟩ : ∃ v0, vs = [v0] := by
    match vs, hl with
    | [v0], _ => exact ⟨v0, rfl⟩
  have e0 := bptr B (hv 0 v0 _ rfl rfl)
  subst e0
  refine (h w b p (hd 2) B.blk B.hp B.own B.ne).mono ?_
  rintro r w' ⟨rfl, rfl⟩
  rw [encB_length]
  exact ⟨_, hd, rfl, M, .data _ _ (.int _ _), fun _ _ _ _ _ => rfl, fun k hk hf => ⟨hf, rfl⟩⟩
theorem PMut.bstring {T e : Nat} {s : List UInt8}
    (h : ∀ (w : World) (b : Nat) (p v : Value), w.heap[b]? = some (.cells #[p, v] T (0, 0)) → w.ownsRow 0 e 1 v s.length (Lib.byteCells s) →
      Calls P f #[.pointer (some ⟨b, 0, none⟩)] w fun r w' => r = .returned (.string ⟨s.toArray⟩) ∧ Below 0 w w' ∧ ∀ k, k < w.heap.size → v.ownBlock ≠ some k → w'.heap[k]? = w.heap[k]?) :
    PMut P f [.pown 1 0 0 0] [(1, brow T 2), (2, urow e (bts s))] (.str s) [] := by
  intro w hd I gh vs M hl hv
  have lv2 : live [(1, brow T 2), (2, urow e (bts s))] 2 0 = some (urow e (bts s)) := (live2 rfl rfl rfl rfl).2 (.inr ⟨rfl, rfl, rfl⟩)
  obtain ⟨b, p, B⟩ := bin_of M
  obtain ⟨v0, rfl⟩ : ∃ v0, vs = [v0] := by
    match vs, hl with
    | [v0], _ => exact ⟨v0, rfl⟩
  have e0 := bptr B (hv 0 v0 _ rfl rfl)
  subst e0
  have henc : encB (bts s) = Lib.byteCells s := by
    unfold encB bts Lib.byteCells
    rw [List.map_map]; rfl
  have hown := B.own
  rw [henc] at hown
  have hlen : (Lib.byteCells s).length = s.length := by simp [Lib.byteCells]
  rw [hlen] at hown
  obtain ⟨_, _, hbig, _⟩ := M.rows 2 0 _ lv2
  have hbig : s.length ≤ big := by simpa [urow, bts] using hbig
  refine (h w b p (hd 2) B.blk hown).mono ?_
  rintro r w' ⟨rfl, hb, hk⟩
  have hkept : ∀ k, k < w.heap.size → free [(1, brow T 2), (2, urow e (bts s))] hd k → w'.heap[k]? = w.heap[k]? := fun k hlt hf => hk k hlt (hf 2 0 _ lv2)
  have nolive : ∀ {nm ver : Nat} {e0 : Ent}, live ([] : List (Nat × Ent)) nm ver = some e0 → False := fun h => by simp [live, look] at h
  refine ⟨_, hd, rfl, ⟨M.i0, M.glob.mono hb.size fun k hlt hi => ⟨⟨hi.1, fun nm ver e0 h => (nolive h).elim⟩, hkept k hlt hi.2⟩, hb, fun nm e0 h => by simp [look] at h, fun nm ver e0 h => (nolive h).elim, fun _ _ _ _ _ _ _ _ h => (nolive h).elim, fun _ _ _ _ h => (nolive h).elim⟩,
    .data _ _ (.str _ hbig), fun nm e0 e1 _ h => (nolive h).elim, fun k hlt hf => ⟨fun nm ver e0 h => (nolive h).elim, hkept k hlt hf⟩⟩
section
variable {d nm v u vu T e : Nat} {l l2 : List Int} {ex : List PV} {res : PV} {nw nw2 : Bool} {sl : List (Nat × PV)} {m : List (Nat × Ent)} {g : Nat} {r : List LOper} {acc : List Log} {K : List Log → St → Prop}
theorem W.bwrite {xas : List LX} (h : PMut P f (.pown 1 0 0 0 :: ex) [(1, brow T 2), (2, urow e l)] res [(1, brow T 3), (3, urow e l2)]) (hx : lxs sl xas = some (.pown nm v 0 0 :: ex)) (hm : look m nm = some ⟨v, T, 2, [[.pown nm v BX BX, .own u vu]], false, nw, false⟩) (hm2 : look m u = some ⟨vu, e, 1, l.map (cK .u8), true, nw2, false⟩)
    (hf : freshF (look m) d = true) (hex : ex.all PV.dataOk = true) (hres : (∀ t, m3 t res = res) ∧ ∀ ns, ok3 ns res = true) (hu : (r.all fun o => o.dst != some d) = true) (hne : nm ≠ u) (hd1 : nm ≠ d) (hd2 : u ≠ d)
    (kk : W P r ((d :: [nm, u, d, d] ++ (nm :: ex.flatMap nameOf), [nm, d, u]) :: acc) ⟨(d, res) :: sl, (nm, ⟨v, T, 2, [[.pown nm v BX BX, .own d g]], false, nw, false⟩) :: (d, ⟨g, e, 1, l2.map (cK .u8), true, true, false⟩) :: (u, ⟨vu, e, 1, l.map (cK .u8), true, nw2, true⟩) :: m, g⟩ K) : W P (⟨some d, none, .call f xas⟩ :: r) acc ⟨sl, m, g⟩ K := by
  refine W.callM (fun x => if x = 1 then (nm, v) else (u, vu)) (fun _ => d) h hx ?_ (res' := res) (up := [(nm, ⟨v, T, 2, [[.pown nm v BX BX, .own d g]], false, nw, false⟩), (d, ⟨g, e, 1, l2.map (cK .u8), true, true, false⟩), (u, ⟨vu, e, 1, l.map (cK .u8), true, nw2, true⟩)]) (hres.1 _) ?_ (ns := [nm, u, d, d] ++ (nm :: ex.flatMap nameOf)) ?_ hu kk
  · refine ⟨rfl, ?_, ?_, ?_, ?_, ?_, ?_, ?_, hres.2 _⟩
    · intro j x p g1 g2
      match j, g1, g2 with
      | 0, g1, g2 => cases g1; cases g2; exact .tok rfl rfl
      | j + 1, g1, g2 =>
        have g1 : ex[j]? = some x := g1
        have g2 : ex[j]? = some p := g2
        rw [g1] at g2; injection g2 with g2; subst g2
        rw [List.all_eq_true] at hex
        exact .data (hex x (List.mem_of_getElem? g1)) (.refl _)
    · intro x hx2; simp at hx2; rcases hx2 with rfl | rfl <;> simp [look]
    · intro x hx2; simp at hx2; rcases hx2 with rfl | rfl <;> simp [look]
    · intro x hx2 y hy hne2
      simp at hx2 hy
      rcases hx2 with rfl | rfl <;> rcases hy with rfl | rfl <;> first | exact absurd rfl hne2 | (simp; first | exact hne | exact fun e => hne e.symm)
    · intro x hx2 y hy hne2
      simp at hx2 hy
      rcases hx2 with rfl | rfl <;> rcases hy with rfl | rfl <;> first | exact absurd rfl hne2 | (simp [Mut.post]; first | exact hd1 | exact fun e => hd1 e.symm)
    · intro x hx2
      simp at hx2
      rcases hx2 with rfl | rfl
      · exact ⟨⟨rfl, rfl, rfl⟩, ⟨v, T, 2, [[.pown nm v BX BX, .own u vu]], false, nw, false⟩, by simp [liveF, hm], rfl, rfl, .inr ⟨rfl, rfl, by intro cs hcs p hp; simp [brow] at hcs; subst hcs; simp at hp; rcases hp with rfl | rfl <;> rfl⟩⟩
      · exact ⟨⟨rfl, rfl, rfl⟩, ⟨vu, e, 1, l.map (cK .u8), true, nw2, false⟩, by simp [liveF, hm2], rfl, rfl, .inl ⟨rfl, rfl, rfl⟩⟩
    · intro x hx2
      simp at hx2
      rcases hx2 with rfl | rfl
      · refine ⟨⟨rfl, rfl, rfl⟩, ?_, ?_, .inr (by intro cs hcs p hp; simp [brow] at hcs; subst hcs; simp at hp; rcases hp with rfl | rfl <;> rfl)⟩
        · intro e0 h0; simp [look] at h0; subst h0; exact ⟨rfl, rfl⟩
        · intro h0; simp [look] at h0
      · refine ⟨⟨rfl, rfl, rfl⟩, ?_, ?_, .inl rfl⟩
        · intro e0 h0; simp [look] at h0
        · intro _
          refine ⟨hf, fun x hx3 => ?_⟩
          simp at hx3
          rcases hx3 with rfl | rfl
          · simpa using hd1
          · simpa using hd2
  · simp [Mut.up, Mut.post, Mut.ent, Mut.gone, hm, hm2, brow, urow, m1, m0]
  · simp [Mut.foot, nameOf, nameOf1]
theorem W.blen {xas : List LX} (h : PMut P f [.pown 1 0 0 0] [(1, brow T 2), (2, urow e l)] (.int .i64 l.length) [(1, brow T 2), (2, urow e l)]) (hx : lxs sl xas = some [.pown nm v 0 0]) (hm : look m nm = some ⟨v, T, 2, [[.pown nm v BX BX, .own u vu]], false, nw, false⟩) (hm2 : look m u = some ⟨vu, e, 1, l.map (cK .u8), true, nw2, false⟩)
    (hu : (r.all fun o => o.dst != some d) = true) (hne : nm ≠ u)
    (kk : W P r ((d :: [nm, u, d, d] ++ [nm], [nm, u]) :: acc) ⟨(d, .int .i64 l.length) :: sl, (nm, ⟨v, T, 2, [[.pown nm v BX BX, .own u vu]], false, nw, false⟩) :: (u, ⟨vu, e, 1, l.map (cK .u8), true, nw2, false⟩) :: m, g⟩ K) : W P (⟨some d, none, .call f xas⟩ :: r) acc ⟨sl, m, g⟩ K := by
  refine W.callM (fun x => if x = 1 then (nm, v) else (u, vu)) (fun _ => d) h hx ?_ (res' := .int .i64 l.length) (up := [(nm, ⟨v, T, 2, [[.pown nm v BX BX, .own u vu]], false, nw, false⟩), (u, ⟨vu, e, 1, l.map (cK .u8), true, nw2, false⟩)]) rfl ?_ (ns := [nm, u, d, d] ++ [nm]) ?_ hu kk
  · refine ⟨rfl, ?_, ?_, ?_, ?_, ?_, ?_, ?_, rfl⟩
    · intro j x p g1 g2
      match j, g1, g2 with
      | 0, g1, g2 => cases g1; cases g2; exact .tok rfl rfl
    · intro x hx2; simp at hx2; rcases hx2 with rfl | rfl <;> simp [look]
    · intro x hx2; simp at hx2; rcases hx2 with rfl | rfl <;> simp [look]
    · intro x hx2 y hy hne2
      simp at hx2 hy
      rcases hx2 with rfl | rfl <;> rcases hy with rfl | rfl <;> first | exact absurd rfl hne2 | (simp; first | exact hne | exact fun e => hne e.symm)
    · intro x hx2 y hy hne2
      simp at hx2 hy
      rcases hx2 with rfl | rfl <;> rcases hy with rfl | rfl <;> first | exact absurd rfl hne2 | (simp [Mut.post]; first | exact hne | exact fun e => hne e.symm)
    · intro x hx2
      simp at hx2
      rcases hx2 with rfl | rfl
      · exact ⟨⟨rfl, rfl, rfl⟩, ⟨v, T, 2, [[.pown nm v BX BX, .own u vu]], false, nw, false⟩, by simp [liveF, hm], rfl, rfl, .inr ⟨rfl, rfl, by intro cs hcs p hp; simp [brow] at hcs; subst hcs; simp at hp; rcases hp with rfl | rfl <;> rfl⟩⟩
      · exact ⟨⟨rfl, rfl, rfl⟩, ⟨vu, e, 1, l.map (cK .u8), true, nw2, false⟩, by simp [liveF, hm2], rfl, rfl, .inl ⟨rfl, rfl, rfl⟩⟩
    · intro x hx2
      simp at hx2
      rcases hx2 with rfl | rfl
      · refine ⟨⟨rfl, rfl, rfl⟩, ?_, ?_, .inr (by intro cs hcs p hp; simp [brow] at hcs; subst hcs; simp at hp; rcases hp with rfl | rfl <;> rfl)⟩
        · intro e0 h0; simp [look] at h0; subst h0; exact ⟨rfl, rfl⟩
        · intro h0; simp [look] at h0
      · refine ⟨⟨rfl, rfl, rfl⟩, ?_, ?_, .inl rfl⟩
        · intro e0 h0; simp [look] at h0; subst h0; exact ⟨rfl, rfl⟩
        · intro h0; simp [look] at h0
  · simp [Mut.up, Mut.post, Mut.ent, Mut.gone, hm, hm2, brow, urow, m1, m0]
  · simp [Mut.foot, nameOf, nameOf1]
theorem W.bstring {xas : List LX} {s : List UInt8} (h : PMut P f [.pown 1 0 0 0] [(1, brow T 2), (2, urow e (bts s))] (.str s) []) (hl : l = bts s) (hx : lxs sl xas = some [.pown nm v 0 0]) (hm : look m nm = some ⟨v, T, 2, [[.pown nm v BX BX, .own u vu]], false, nw, false⟩) (hm2 : look m u = some ⟨vu, e, 1, l.map (cK .u8), true, nw2, false⟩)
    (hu : (r.all fun o => o.dst != some d) = true) (hne : nm ≠ u)
    (kk : W P r ((d :: [nm, u] ++ [nm], [nm, u]) :: acc) ⟨(d, .str s) :: sl, (nm, ⟨v, T, 2, [[.pown nm v BX BX, .own u vu]], false, nw, true⟩) :: (u, ⟨vu, e, 1, l.map (cK .u8), true, nw2, true⟩) :: m, g⟩ K) : W P (⟨some d, none, .call f xas⟩ :: r) acc ⟨sl, m, g⟩ K := by
  subst hl
  refine W.callM (fun x => if x = 1 then (nm, v) else (u, vu)) (fun _ => d) h hx ?_ (res' := .str s) (up := [(nm, ⟨v, T, 2, [[.pown nm v BX BX, .own u vu]], false, nw, true⟩), (u, ⟨vu, e, 1, (bts s).map (cK .u8), true, nw2, true⟩)]) rfl ?_ (ns := [nm, u] ++ [nm]) ?_ hu kk
  · refine ⟨rfl, ?_, ?_, all0, ?_, fun x hx => by simp at hx, ?_, all0, rfl⟩
    · intro j x p g1 g2
      match j, g1, g2 with
      | 0, g1, g2 => cases g1; cases g2; exact .tok rfl rfl
    · intro x hx2; simp at hx2; rcases hx2 with rfl | rfl <;> simp [look]
    · intro x hx2 y hy hne2
      simp at hx2 hy
      rcases hx2 with rfl | rfl <;> rcases hy with rfl | rfl <;> first | exact absurd rfl hne2 | (simp; first | exact hne | exact fun e => hne e.symm)
    · intro x hx2
      simp at hx2
      rcases hx2 with rfl | rfl
      · exact ⟨⟨rfl, rfl, rfl⟩, ⟨v, T, 2, [[.pown nm v BX BX, .own u vu]], false, nw, false⟩, by simp [liveF, hm], rfl, rfl, .inr ⟨rfl, rfl, by intro cs hcs p hp; simp [brow] at hcs; subst hcs; simp at hp; rcases hp with rfl | rfl <;> rfl⟩⟩
      · exact ⟨⟨rfl, rfl, rfl⟩, ⟨vu, e, 1, (bts s).map (cK .u8), true, nw2, false⟩, by simp [liveF, hm2], rfl, rfl, .inl ⟨rfl, rfl, rfl⟩⟩
  · simp [Mut.up, Mut.post, Mut.ent, Mut.gone, hm, hm2, brow, urow]
  · simp [Mut.foot, nameOf, nameOf1]
end
end Go.PW
