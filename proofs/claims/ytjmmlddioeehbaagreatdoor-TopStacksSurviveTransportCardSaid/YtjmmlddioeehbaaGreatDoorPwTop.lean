/-
  PwTop: from what a row's arguments read as, to data.
-/
import Derived.Test.YtjmmlddioeehbaaGreatDoorPwFn
import Derived.Deep.DeepHandedRow
import Derived.Deep.DeepWitnessRowRef
import Derived.Carry
import Derived.ChangeSame
import Derived.HandedShaped
namespace Go.PW
open Go.RowKit Go.WideShapes Go.ChangeShapes
noncomputable section
inductive Ty (P : Program) : TypeId → List PV → Prop
  | int {t : TypeId} {k : IntKind} (n : Int) (h : P.underlying t = some (.int k)) (wf : (Lit.int k n).wf = true) : Ty P t [.int k n]
  | bool {t : TypeId} (b : Bool) (h : P.underlying t = some .bool) : Ty P t [.bool b]
  | str {t : TypeId} (s : List UInt8) (h : P.underlying t = some .string) (hl : s.length ≤ reachBytes) : Ty P t [.str s]
  | slice {t e : TypeId} (es : List (List PV)) (h : P.underlying t = some (.slice e)) (hb : es.length * P.bytesOf e ≤ reachBytes)
      (hes : ∀ (i : Nat) (cs : List PV), es[i]? = some cs → Ty P e cs) : Ty P t [.list (P.cellsOf e) es]
  | struct {t : TypeId} {fs : Array Field} (css : List (List PV)) (h : P.underlying t = some (.struct fs)) (hl : css.length = fs.toList.length)
      (hf : ∀ (j : Nat) (f : Field) (cs : List PV), fs.toList[j]? = some f → css[j]? = some cs → Ty P f.type cs) : Ty P t css.flatten
def plainTys (P : Program) (L : List TypeId) : Bool := L.all fun t => decide (t < P.types.size) && match P.underlying t with
  | some (.int _) | some .bool | some .string => true
  | some (.slice e) => L.contains e && decide (0 < P.bytesOf e) && decide (0 < P.cellsOf e)
  | some (.struct fs) => fs.toList.all fun f => L.contains f.type
  | _ => false
theorem mapM_at {α β : Type} {f : α → Option β} : ∀ {l : List α} {r : List β}, l.mapM f = some r → r.length = l.length ∧ ∀ (i : Nat) (x : α), l[i]? = some x → ∃ y, r[i]? = some y ∧ f x = some y
  | [], r, h => by
    simp at h; subst h; simp
  | a :: l, r, h => by
    rw [List.mapM_cons] at h
    cases ha : f a with
    | none => simp [ha] at h
    | some y =>
      cases hl : l.mapM f with
      | none => simp [ha, hl] at h
      | some ys =>
        simp [ha, hl] at h
        subst h
        obtain ⟨h1, h2⟩ := mapM_at hl
        refine ⟨by simp [h1], fun i x hi => ?_⟩
        cases i with
        | zero => simp at hi; subst hi; exact ⟨y, by simp, ha⟩
        | succ i => simpa using h2 i x (by simpa using hi)
def Dat (W : World) (cs : List Value) (qs : List PV) : Prop := cs.length = qs.length ∧ (∀ p ∈ qs, p.one = true) ∧ ∀ (j : Nat) (v : Value) (q : PV), cs[j]? = some v → qs[j]? = some q → DV W (· < W.heap.size) v q
theorem Dat.one {W : World} {v : Value} {q : PV} (h1 : q.one = true) (h : DV W (· < W.heap.size) v q) : Dat W [v] [q] :=
  ⟨rfl, by simpa using h1, fun j v' q' g1 g2 => by
    cases j with
    | zero => simp at g1 g2; subst g1 g2; exact h
    | succ j => simp at g1⟩
theorem Dat.append {W : World} {a b : List Value} {p q : List PV} (h : Dat W a p) (k : Dat W b q) : Dat W (a ++ b) (p ++ q) := by
  refine ⟨by simp [h.1, k.1], fun x hx => ?_, fun j v r g1 g2 => ?_⟩
  · rcases List.mem_append.1 hx with hx | hx
    · exact h.2.1 x hx
    · exact k.2.1 x hx
  · by_cases hj : j < a.length
    · rw [List.getElem?_append_left hj] at g1
      rw [List.getElem?_append_left (by rw [← h.1]; exact hj)] at g2
      exact h.2.2 j v r g1 g2
    · rw [List.getElem?_append_right (by omega)] at g1
      rw [List.getElem?_append_right (by rw [← h.1]; omega), ← h.1] at g2
      exact k.2.2 _ v r g1 g2
theorem weightsAll_mem {H : Type} {P : Program} {e : TypeId} : ∀ {ds : List (DataW H)} {d : DataW H} {n : Nat}, d ∈ ds → n ∈ d.weights P e → n ∈ DataW.weightsAll P e ds
  | x :: r, d, n, h, hn => by
    simp only [DataW.weightsAll, List.mem_append]
    rcases List.mem_cons.1 h with rfl | h
    · exact .inl hn
    · exact .inr (weightsAll_mem h hn)
theorem weightsEach_at {H : Type} {P : Program} : ∀ {ts : List TypeId} {ds : List (DataW H)} {j : Nat} {t : TypeId} {d : DataW H} {n : Nat}, ts[j]? = some t → ds[j]? = some d → n ∈ d.weights P t → n ∈ DataW.weightsEach P ts ds
  | t :: ts, d :: ds, j, t', d', n, h1, h2, hn => by
    simp only [DataW.weightsEach, List.mem_append]
    cases j with
    | zero => simp at h1 h2; subst h1 h2; exact .inl hn
    | succ j => exact .inr (weightsEach_at (by simpa using h1) (by simpa using h2) hn)
  | [], _, j, _, _, _, h1, _, _ => by simp at h1
  | _ :: _, [], j, _, _, _, _, h2, _ => by simp at h2
theorem Dat.flat {W : World} : ∀ (ns : List Nat) (cs : List Value) (css : List (List PV)), cs.length = ns.sum → css.length = ns.length →
    (∀ (j n : Nat) (q : List PV), ns[j]? = some n → css[j]? = some q → Dat W ((cs.drop (ns.take j).sum).take n) q) → Dat W cs css.flatten
  | [], cs, css, h1, h2, _ => by
    have : cs = [] := List.length_eq_zero_iff.1 (by simpa using h1)
    have e2 : css = [] := List.length_eq_zero_iff.1 (by simpa using h2)
    subst this e2
    exact ⟨rfl, by simp, fun j v q g => by simp at g⟩
  | n :: ns, cs, css, h1, h2, h3 => by
    cases css with
    | nil => simp at h2
    | cons q css =>
      have a := h3 0 n q (by simp) (by simp)
      simp only [List.take_zero, List.sum_nil, List.drop_zero] at a
      have b := Dat.flat (W := W) ns (cs.drop n) css (by simp at h1 ⊢; omega) (by simpa using h2) fun j m r g1 g2 => by
        have := h3 (j + 1) m r (by simpa using g1) (by simpa using g2)
        simp only [List.take_succ_cons, List.sum_cons] at this
        rwa [List.drop_drop]
      have c := a.append b
      rwa [List.take_append_drop] at c
theorem cell_lt {w : World} {a : Addr} {v : Value} (h : w.cell? a = some v) : a.block < w.heap.size := by
  cases hb : w.heap[a.block]? with
  | none =>
    unfold World.cell? at h
    simp [hb] at h
  | some o => exact (Array.getElem?_eq_some_iff.1 hb).1
theorem dat_of_trod {H : Type} {enc : TypeId × Value → H} {P : Program} {W : World} {sp : Nat → Bool} {held : Bool} {L : List TypeId} (hL : plainTys P L = true) (lay : laidOutB P = true) :
    ∀ (n : Nat) (t : TypeId) (cs : List Value) (x : DataW H × List MemPlace), t ∈ L → DataW.trod enc P W 0 sp held n t cs = some x → (∀ k ∈ x.1.weights P t, k ≤ reachBytes) → ∃ qs, Ty P t qs ∧ Dat W cs qs := by
  intro n
  induction n with
  | zero => intro t cs x _ h; simp [DataW.trod] at h
  | succ n ih =>
    intro t cs x ht h hw
    have hp := List.all_eq_true.1 hL t ht
    simp only [Bool.and_eq_true, decide_eq_true_eq] at hp
    obtain ⟨hlt, hp⟩ := hp
    rw [DataW.trod_step] at h
    unfold DataW.trodStep at h
    split at hp
    · rename_i k hu
      rw [hu] at h
      split at h <;> rename_i he <;> first | (cases he; done) | (cases h; done) | skip
      rename_i k1 k2 m
      injection he with he; injection he with he; subst he
      split at h
      · rename_i hc
        obtain ⟨rfl, hwf⟩ := hc
        exact ⟨_, .int m hu hwf, .one rfl (.int _ _)⟩
      · cases h
    · rename_i hu
      rw [hu] at h
      split at h <;> rename_i he <;> first | (cases he; done) | (cases h; done) | skip
      exact ⟨_, .bool _ hu, .one rfl (.bool _)⟩
    · rename_i hu
      rw [hu] at h
      split at h <;> rename_i he <;> first | (cases he; done) | (cases h; done) | skip
      rename_i bs
      split at h
      · injection h with h; subst h
        have hl : bs.data.toList.length ≤ reachBytes := hw _ (by simp [DataW.weights])
        refine ⟨_, .str bs.data.toList hu hl, .one rfl ?_⟩
        have := DV.str (w := W) (I := (· < W.heap.size)) bs.data.toList (Nat.le_trans hl (by decide))
        simpa using this
      · cases h
    · rename_i e hu
      simp only [Bool.and_eq_true, decide_eq_true_eq, List.contains_iff_mem] at hp
      obtain ⟨⟨he1, hb0⟩, hc0⟩ := hp
      rw [hu] at h
      split at h <;> rename_i he <;> first | (cases he; done) | (cases h; done) | skip
      · exact ⟨_, .slice [] hu (by simp) (by simp), .one rfl (.list0 _ _ _ fun _ => rfl)⟩
      · rename_i e' ad len cap
        injection he with he; injection he with he; subst he
        simp only at h
        split at h
        · rename_i hc
          rw [Option.bind_eq_some_iff] at h
          obtain ⟨elems, h1, h2⟩ := h
          rw [Option.map_eq_some_iff] at h2
          obtain ⟨rest, _, h3⟩ := h2
          subst h3
          obtain ⟨hlen, hat⟩ := mapM_at h1
          simp only [List.length_range] at hlen
          have hwl : (elems.length + rest.length) * P.bytesOf e ≤ reachBytes := hw _ (by simp [DataW.weights, hu])
          have hx : ∀ i, i < len → ∃ (vs : List Value) (qs : List PV), W.cells? 0 (ad.add (i * P.cellsOf e)) (P.cellsOf e) = some vs ∧ Ty P e qs ∧ Dat W vs qs := by
            intro i hi
            obtain ⟨y, g1, g2⟩ := hat i i (by simp [hi])
            rw [Option.bind_eq_some_iff] at g2
            obtain ⟨vs, g3, g4⟩ := g2
            obtain ⟨qs, g5, g6⟩ := ih e vs y he1 g4 fun k hk => hw k (by
              simp only [DataW.weights, hu, List.mem_cons, List.mem_append]
              exact .inr (.inl (weightsAll_mem (List.mem_map.2 ⟨y, List.mem_of_getElem? g1, rfl⟩) hk)))
            exact ⟨vs, qs, g3, g5, g6⟩
          by_cases hz : len = 0
          · subst hz
            exact ⟨_, .slice [] hu (by simp) (by simp), .one rfl (.list0 _ _ _ fun e => by cases e)⟩
          · let g : Nat → List PV := fun i => if hi : i < len then (hx i hi).choose_spec.choose else []
            let es : List (List PV) := (List.range len).map g
            have hel : es.length = len := by simp [es]
            have hes : ∀ (i : Nat) (cs : List PV), es[i]? = some cs → ∃ (_ : i < len) (vs : List Value), W.cells? 0 (ad.add (i * P.cellsOf e)) (P.cellsOf e) = some vs ∧ Ty P e cs ∧ Dat W vs cs := by
              intro i cs hi
              have hil : i < len := by have := (List.getElem?_eq_some_iff.1 hi).1; omega
              have : cs = g i := by simp [es, hil] at hi; exact hi.symm
              subst this
              refine ⟨hil, (hx i hil).choose, ?_⟩
              have := (hx i hil).choose_spec.choose_spec
              simp only [g, hil, dif_pos]
              exact this
            have hcell : ∀ (i : Nat) (vs : List Value), W.cells? 0 (ad.add (i * P.cellsOf e)) (P.cellsOf e) = some vs → vs.length = P.cellsOf e ∧ ∀ j, j < P.cellsOf e → W.cell? (ad.add (i * P.cellsOf e + j)) = vs[j]? := by
              intro i vs hv
              unfold World.cells? at hv
              rw [if_pos (Nat.zero_le _)] at hv
              obtain ⟨k1, k2⟩ := mapM_at hv
              refine ⟨by simpa using k1, fun j hj => ?_⟩
              obtain ⟨y, k3, k4⟩ := k2 j j (by simp [hj])
              rw [k3, ← k4, add_add]
            have hblk : ad.block < W.heap.size := by
              obtain ⟨vs, qs, k1, _, _⟩ := hx 0 (by omega)
              obtain ⟨k2, k3⟩ := hcell 0 vs k1
              have k4 := k3 0 hc0
              rw [List.getElem?_eq_getElem (by omega)] at k4
              have := cell_lt k4
              rwa [block_add] at this
            have hlb : es.length * P.bytesOf e ≤ reachBytes := by
              rw [hel, ← hlen]
              exact Nat.le_trans (Nat.mul_le_mul_right _ (by omega)) hwl
            have hbig : es.length ≤ big := by
              have : es.length * 1 ≤ es.length * P.bytesOf e := Nat.mul_le_mul_left _ hb0
              have e3 : reachBytes ≤ big := by decide
              omega
            refine ⟨[.list (P.cellsOf e) es], .slice es hu hlb fun i cs hi => ?_, .one rfl ?_⟩
            · obtain ⟨_, _, _, k, _⟩ := hes i cs hi
              exact k
            · have := DV.list (w := W) (I := (· < W.heap.size)) ad cap (P.cellsOf e) es (fun i j => (W.cell? (ad.add (i * P.cellsOf e + j))).getD .nilIface) (by omega) hbig hblk hblk
                (fun i cs hi => by
                  obtain ⟨hil, vs, k1, _, k3⟩ := hes i cs hi
                  exact ⟨by rw [← k3.1, (hcell i vs k1).1], k3.2.1⟩)
                (fun i cs j p hi hj => by
                  obtain ⟨hil, vs, k1, _, k3⟩ := hes i cs hi
                  have hjl : j < P.cellsOf e := by
                    have := (List.getElem?_eq_some_iff.1 hj).1
                    rw [← k3.1, (hcell i vs k1).1] at this; exact this
                  rw [(hcell i vs k1).2 j hjl, List.getElem?_eq_getElem (by rw [(hcell i vs k1).1]; exact hjl)]
                  rfl)
                (fun i cs j p hi hj => by
                  obtain ⟨hil, vs, k1, _, k3⟩ := hes i cs hi
                  have hjl : j < P.cellsOf e := by
                    have := (List.getElem?_eq_some_iff.1 hj).1
                    rw [← k3.1, (hcell i vs k1).1] at this; exact this
                  have hv : vs[j]? = some (vs[j]'(by rw [(hcell i vs k1).1]; exact hjl)) := List.getElem?_eq_getElem _
                  rw [(hcell i vs k1).2 j hjl, hv]
                  exact k3.2.2 j _ p hv hj)
              rwa [hel] at this
        · cases h
    · rename_i fs hu
      rw [hu] at h
      split at h <;> rename_i he <;> first | (cases he; done) | (cases h; done) | skip
      · rename_i cs _ _ fs'
        injection he with he; injection he with he; subst he
        split at h
        · rename_i hcl
          rw [Option.map_eq_some_iff] at h
          obtain ⟨ys, h1, h2⟩ := h
          subst h2
          obtain ⟨_, ksum, koff⟩ := kid_struct lay hlt hu
          obtain ⟨hlen, hat⟩ := mapM_at h1
          have hx : ∀ (j : Nat) (f : Field), fs.toList[j]? = some f → ∃ qs, Ty P f.type qs ∧ Dat W ((cs.drop f.offset).take (P.cellsOf f.type)) qs := by
            intro j f hj
            obtain ⟨y, g1, g2⟩ := hat j f hj
            refine ih f.type _ y ?_ g2 fun k hk => hw k ?_
            · have := List.all_eq_true.1 hp f (List.mem_of_getElem? hj)
              simpa using this
            · simp only [DataW.weights, hu]
              exact weightsEach_at (j := j) (t := f.type) (d := y.1) (by rw [List.getElem?_map, hj]; rfl) (by rw [List.getElem?_map, g1]; rfl) hk
          let g : Nat → List PV := fun j => if hj : j < fs.toList.length then (hx j (fs.toList[j]) (List.getElem?_eq_getElem hj)).choose else []
          let css : List (List PV) := (List.range fs.toList.length).map g
          have hcs : ∀ (j : Nat) (f : Field) (q : List PV), fs.toList[j]? = some f → css[j]? = some q → Ty P f.type q ∧ Dat W ((cs.drop f.offset).take (P.cellsOf f.type)) q := by
            intro j f q hj hq
            have hjl := (List.getElem?_eq_some_iff.1 hj).1
            have e1 : q = g j := by
              simp only [css, List.getElem?_map, List.getElem?_range hjl, Option.map_some] at hq
              injection hq with hq; exact hq.symm
            have e3 : fs.toList[j] = f := by rw [List.getElem?_eq_getElem hjl] at hj; injection hj
            have e2 : g j = (hx j (fs.toList[j]) (List.getElem?_eq_getElem hjl)).choose := dif_pos hjl
            have := (hx j (fs.toList[j]) (List.getElem?_eq_getElem hjl)).choose_spec
            rw [← e2, ← e1, e3] at this
            exact this
          refine ⟨css.flatten, .struct css hu (by simp [css]) fun j f q hj hq => (hcs j f q hj hq).1, ?_⟩
          refine Dat.flat (fs.toList.map fun f => P.cellsOf f.type) cs css (by rw [hcl, ksum]) (by simp [css]) fun j m q hm hq => ?_
          rw [List.getElem?_map, Option.map_eq_some_iff] at hm
          obtain ⟨f, hf, rfl⟩ := hm
          have := (hcs j f q hf hq).2
          rw [koff j f hf] at this
          rwa [← List.map_take]
        · cases h
      · exact (‹∀ (fs_1 : Array Field), some (TypeDesc.struct fs) = some (TypeDesc.struct fs_1) → False› fs rfl).elim
    · cases hp
inductive TyV (P : Program) : TypeId → PV → Prop
  | one {t : TypeId} {q : PV} (h : Ty P t [q]) (hu : ∀ fs, P.underlying t ≠ some (.struct fs)) : TyV P t q
  | agg {t : TypeId} {fs : Array Field} {qs : List PV} (h : Ty P t qs) (hu : P.underlying t = some (.struct fs)) : TyV P t (.agg qs)
inductive TyVs (P : Program) : List TypeId → List PV → Prop
  | nil : TyVs P [] []
  | cons {t : TypeId} {q : PV} {ts : List TypeId} {qs : List PV} (h : TyV P t q) (r : TyVs P ts qs) : TyVs P (t :: ts) (q :: qs)
theorem dv_of_trod {H : Type} {enc : TypeId × Value → H} {P : Program} {W : World} {sp : Nat → Bool} {held : Bool} {L : List TypeId} (hL : plainTys P L = true) (lay : laidOutB P = true)
    {t : TypeId} {v : Value} {d : DataW H} {ps : List MemPlace} {base : Nat} (ht : t ∈ L) (h : DataW.Trod enc P W 0 sp held t v d ps) (hv : Value.okWide P W .any base t v) (hw : ∀ k ∈ d.weights P t, k ≤ reachBytes) :
    ∃ q, TyV P t q ∧ DV W (· < W.heap.size) v q := by
  obtain ⟨n, hn⟩ := h
  obtain ⟨qs, h1, h2⟩ := dat_of_trod hL lay n t _ _ ht hn hw
  have hp := List.all_eq_true.1 hL t ht
  simp only [Bool.and_eq_true, decide_eq_true_eq] at hp
  obtain ⟨hlt, hp⟩ := hp
  have hcell : (∀ fs, P.underlying t ≠ some (.struct fs)) → (∀ cs, v ≠ .agg cs) → ∃ q, TyV P t q ∧ DV W (· < W.heap.size) v q := by
    intro k1 k2
    have e : v.cells.toList = [v] := by cases v <;> first | rfl | exact absurd rfl (k2 _)
    rw [e] at h2
    match qs, h1, h2 with
    | [q], h1, h2 => exact ⟨q, .one h1 k1, h2.2.2 0 v q (by simp) (by simp)⟩
    | [], _, h2 => have := h2.1; simp at this
    | _ :: _ :: _, _, h2 => have := h2.1; simp at this
  split at hp
  · rename_i k hu
    refine hcell (fun fs e => by rw [hu] at e; cases e) fun cs e => ?_
    subst e; simp [Value.okWide, Cell.okWide, Cell.ok, hu] at hv
  · rename_i hu
    refine hcell (fun fs e => by rw [hu] at e; cases e) fun cs e => ?_
    subst e; simp [Value.okWide, Cell.okWide, Cell.ok, hu] at hv
  · rename_i hu
    refine hcell (fun fs e => by rw [hu] at e; cases e) fun cs e => ?_
    subst e; simp [Value.okWide, Cell.okWide, Cell.ok, hu] at hv
  · rename_i hu
    refine hcell (fun fs e => by rw [hu] at e; cases e) fun cs e => ?_
    subst e; simp [Value.okWide, Cell.okWide, Cell.ok, hu] at hv
  · rename_i fs hu
    simp only [Value.okWide, hu] at hv
    obtain ⟨cs, rfl, _, _⟩ := hv
    refine ⟨.agg qs, .agg h1 hu, .agg cs qs (by have := h2.1; simpa [Value.cells] using this) h2.2.1 fun j v q g1 g2 => h2.2.2 j v q (by simpa [Value.cells] using g1) g2⟩
  · cases hp
theorem dvs_of_trod {H : Type} {enc : TypeId × Value → H} {P : Program} {W : World} {sp : Nat → Bool} {held : Bool} {L : List TypeId} (hL : plainTys P L = true) (lay : laidOutB P = true) {base : Nat} :
    ∀ {ts : List TypeId} {vs : List Value} {ds : List (DataW H)} {ps : List MemPlace}, (∀ t ∈ ts, t ∈ L) → DataW.TrodAll enc P W 0 sp held ts vs ds ps → (∀ (j : Nat) t v, ts[j]? = some t → vs[j]? = some v → Value.okWide P W .any base t v) →
      (∀ k ∈ DataW.weightsEach P ts ds, k ≤ reachBytes) → ∃ qs, TyVs P ts qs ∧ DVs W (· < W.heap.size) vs qs
  | [], [], [], _, _, _, _, _ => ⟨[], .nil, .nil⟩
  | t :: ts, v :: vs, d :: ds, _, hT, ⟨p, q, h1, h2, _⟩, hv, hw => by
    obtain ⟨x, a1, a2⟩ := dv_of_trod hL lay (hT t (by simp)) h1 (hv 0 t v rfl rfl) fun k hk => hw k (by simp only [DataW.weightsEach, List.mem_append]; exact .inl hk)
    obtain ⟨xs, b1, b2⟩ := dvs_of_trod hL lay (fun t ht => hT t (by simp [ht])) h2 (fun j t v g1 g2 => hv (j + 1) t v (by simpa using g1) (by simpa using g2)) fun k hk => hw k (by simp only [DataW.weightsEach, List.mem_append]; exact .inr hk)
    exact ⟨x :: xs, .cons a1 b1, .cons a2 b2⟩
  | [], _ :: _, _, _, _, h, _, _ => h.elim
  | [], [], _ :: _, _, _, h, _, _ => h.elim
  | _ :: _, [], _, _, _, h, _, _ => h.elim
  | _ :: _, _ :: _, [], _, _, h, _, _ => h.elim
theorem stays_all {H : Type} {enc : TypeId × Value → H} {P : Program} {W W' : World} (lay : laidOutB P = true) (hb : Below W.heap.size W W') {sp : Nat → Bool} :
    ∀ {ts : List TypeId} {vs : List Value} {ds : List (DataW H)} {ps : List MemPlace}, (∀ t ∈ ts, P.readableRec t = true ∧ t < P.types.size) → DataW.TrodAll enc P W 0 (fun _ => true) true ts vs ds ps →
      (∀ x ∈ ps, x.block < W.heap.size) → (∀ x ∈ ps, sp x.block = true) → DataW.TrodAll enc P W' 0 sp true ts vs ds ps
  | [], [], [], _, _, h, _, _ => h
  | t :: ts, v :: vs, d :: ds, _, hT, ⟨p, q, h1, h2, e⟩, hlt, hs =>
    ⟨p, q, WideElems.Trod_stays lay (hT t (by simp)).1 (hT t (by simp)).2 h1 (fun x hx => hb.same (hlt x (by rw [e]; exact List.mem_append_left _ hx))) (fun x hx => hs x (by rw [e]; exact List.mem_append_left _ hx)),
      stays_all lay hb (fun t ht => hT t (by simp [ht])) h2 (fun x hx => hlt x (by rw [e]; exact List.mem_append_right _ hx)) (fun x hx => hs x (by rw [e]; exact List.mem_append_right _ hx)), e⟩
  | [], _ :: _, _, _, _, h, _, _ => h.elim
  | [], [], _ :: _, _, _, h, _, _ => h.elim
  | _ :: _, [], _, _, _, h, _, _ => h.elim
  | _ :: _, _ :: _, [], _, _, h, _, _ => h.elim
theorem trodAll_len {H : Type} {enc : TypeId × Value → H} {P : Program} {W : World} {b : Nat} {sp : Nat → Bool} {held : Bool} : ∀ {ts : List TypeId} {vs : List Value} {ds : List (DataW H)} {ps : List MemPlace},
    DataW.TrodAll enc P W b sp held ts vs ds ps → ds.length = ts.length
  | [], [], [], _, _ => rfl
  | _ :: _, _ :: _, _ :: _, _, ⟨_, _, _, h, _⟩ => by simp [trodAll_len h]
  | [], _ :: _, _, _, h => h.elim
  | [], [], _ :: _, _, h => h.elim
  | _ :: _, [], _, _, h => h.elim
  | _ :: _, _ :: _, [], _, h => h.elim
theorem law_lifted_row {H : Type} {enc : TypeId × Value → H} {C : Checked} {os : Os} {f : FuncId} {fn : Func} {s : ChangeSpec} {L : List TypeId} {tb : TypeId} {fresh handsOn : Bool} {laid : List (String × DataW Unit)} (F : Stop.Interp)
    (own : ownKnob C.prog.godebug = none) (started : os.Started) (noInit : C.prog.inits.idxOf? f = none) (hfn : C.prog.funcs[f]? = some fn)
    (witness : ∃ (w : World) (tape : Tape) (i : Input), w.os = os ∧ (w.forCall tape i).Shaped C.prog ∧ i.vars = [] ∧ Input.okWide C.prog (w.forCall tape i) .any w.heap.size f i ∧
      (OpenSpec.ofChange s).preRow enc C.prog fn [] false laid (w.forCall tape i).memory i.args ∧ ({} : Assume).holds C.prog (lone (Frame.enter C.prog f i.args .normal) [] (w.forCall tape i)))
    (hL : plainTys C.prog L = true) (lay : laidOutB C.prog = true)
    (hpar : (fn.params.toList.all fun t => L.contains t && C.prog.readableRec t && decide (t < C.prog.types.size)) = true)
    (hres : fn.resultTypes = #[tb]) (htb : C.prog.underlying tb = some .bool) (hvars : s.vars = [])
    (hsp : ∀ (ds : List (DataW H)), ds.length = fn.params.size → (s.fn H ds) = { results := [.lit (.bool true)], args := ds })
    (hgl : ∀ W, W.ShapedOpen C.prog → laidMetH C.prog laid W → Glob W (· < W.heap.size))
    (hlaw : ∀ qs, TyVs C.prog fn.params.toList qs → PSpec C.prog f qs (.bool true)) :
    ReturnsInHanded {} C os f .any ((OpenSpec.ofChange s).preRow enc C.prog fn [] false laid) (((OpenSpec.ofChange s).at F).post enc C.prog fn false fresh handsOn false) := by
  refine returnsInHanded_of_row own started noInit hfn witness ?_
  intro W base args ds gs before hval hW _ _ hwt hLd hSh _
  have hW' := hW
  obtain ⟨p, q, hA, hV, he, hz, hn⟩ := hW
  have hV : DataW.TrodVars enc C.prog W (fun _ => true) s.vars gs q := hV
  rw [hvars] at hV
  have hg : gs = [] ∧ q = [] := by
    cases gs with
    | nil => exact ⟨rfl, hV⟩
    | cons => exact hV.elim
  obtain ⟨rfl, rfl⟩ := hg
  simp only [List.append_nil] at he
  subst he
  have hP : ∀ t ∈ fn.params.toList, t ∈ L ∧ C.prog.readableRec t = true ∧ t < C.prog.types.size := by
    intro t ht
    have := List.all_eq_true.1 hpar t ht
    simp only [Bool.and_eq_true, decide_eq_true_eq, List.contains_iff_mem] at this
    exact ⟨this.1.1, this.1.2, this.2⟩
  have hlen := trodAll_len hA
  have hwt' : ∀ k ∈ DataW.weightsEach C.prog fn.params.toList ds, k ≤ reachBytes := by
    intro k hk
    have : (OpenSpec.ofChange s).bare.plain.varTypes C.prog = [] := by simp [OpenSpec.ofChange, OpenSpec.bare, ChangeSpec.plain, DataSpec.varTypes, hvars]
    rw [this] at hwt
    simp only [List.append_nil] at hwt
    simpa using List.all_eq_true.1 hwt k hk
  obtain ⟨qs, h1, h2⟩ := dvs_of_trod hL lay (fun t ht => (hP t ht).1) hA (fun j t v g1 g2 => hval j t v (by simpa using g1) (by simpa using g2)) hwt'
  have hcall := hlaw qs h1 W args.toList (· < W.heap.size) h2 (hgl W hSh hLd)
  rw [Array.toArray_toList] at hcall
  refine hcall.mono fun e W' ⟨v, hv, hb, hd⟩ => ⟨v, hv, ?_⟩
  have hvb : v = .bool true := by cases hd; rfl
  subst hvb
  have hfn' : ((OpenSpec.ofChange s).at F).fn H (ds ++ []) = { results := [.lit (.bool true)], args := ds } := by rw [List.append_nil]; exact hsp ds (by simpa using hlen)
  refine ⟨ds, [], before, [], before, [], hW', ?_, ?_, ?_, hb.frame _, fun h => by cases h⟩
  · rw [hfn', hres]
    exact trodAll_mk1 (shut_bool htb true)
  · rw [hfn']
    exact stays_all lay hb (fun t ht => (hP t ht).2) hA (fun x hx => hW'.lt x hx) fun x hx => by simpa using hW'.lt x hx
  · have hv0 : ((OpenSpec.ofChange s).at F).vars = [] := hvars
    rw [hfn', hv0]; rfl
end
end Go.PW
