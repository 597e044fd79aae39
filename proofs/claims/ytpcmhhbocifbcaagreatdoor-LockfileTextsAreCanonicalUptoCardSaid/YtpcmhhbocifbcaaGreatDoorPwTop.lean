/-
  PwTop: from what a row's arguments read as, to data.
-/
import Derived.Test.YtpcmhhbocifbcaaGreatDoorPwFn
import Derived.Deep.DeepHandedRow
import Derived.Deep.DeepWitnessRowRef
import Derived.Carry
import Derived.ChangeSame
import Derived.HandedShaped
namespace Go.PW
open Go.RowKit Go.WideShapes Go.ChangeShapes
noncomputable section
inductive Ty (P : Program) : TypeId → List PV → Prop
  | int {t : TypeId} {k : IntKind} (n : Int) (h : P.underlying t = some (.int k)) (wf : (Lit.int k n).wf = true) : Ty P t [.int k n]
  | bool {t : TypeId} (b : Bool) (h : P.underlying t = some .bool) : Ty P t [.bool b]
  | str {t : TypeId} (s : List UInt8) (h : P.underlying t = some .string) (hl : s.length ≤ reachBytes) : Ty P t [.str s]
  | slice {t e : TypeId} (es : List (List PV)) (h : P.underlying t = some (.slice e)) (hb : es.length * P.bytesOf e ≤ reachBytes)
      (hes : ∀ (i : Nat) (cs : List PV), es[i]? = some cs → Ty P e cs) : Ty P t [.list (P.cellsOf e) es]
  | struct {t : TypeId} {fs : Array Field} (css : List (List PV)) (h : P.underlying t = some (.struct fs)) (hl : css.length = fs.toList.length)
      (hf : ∀ (j : Nat) (f : Field) (cs : List PV), fs.toList[j]? = some f → css[j]? = some cs → Ty P f.type cs) : Ty P t css.flatten
def plainTys (P : Program) (L : List TypeId) : Bool := L.all fun t => decide (t < P.types.size) && match P.underlying t with
  | some (.int _) | some .bool | some .string => true
  | some (.slice e) => L.contains e && decide (0 < P.bytesOf e) && decide (0 < P.cellsOf e)
  | some (.struct fs) => fs.toList.all fun f => L.contains f.type
  | _ => false
theorem mapM_at {α β : Type} {f : α → Option β} : ∀ {l : List α} {r : List β}, l.mapM f = some r → r.length = l.length ∧ ∀ (i : Nat) (x : α), l[i]? = some x → ∃ y, r[i]? = some y ∧ f x = some y
  | [], r, h => by
    simp at h; subst h; simp
  | a :: l, r, h => by
    rw [List.mapM_cons] at h
    cases ha : f a with
    | none => simp [ha] at h
    | some y =>
      cases hl : l.mapM f with
      | none => simp [ha, hl] at h
      | some ys =>
        simp [ha, hl] at h
        subst h
        obtain ⟨h1, h2⟩ := mapM_at hl
        refine ⟨by simp [h1], fun i x hi => ?_⟩
        cases i with
        | zero => simp at hi; subst hi; exact ⟨y, by simp, ha⟩
        | succ i => simpa using h2 i x (by simpa using hi)
def Dat (W : World) (cs : List Value) (qs : List PV) : Prop := cs.length = qs.length ∧ (∀ p ∈ qs, p.one = true) ∧ ∀ (j : Nat) (v : Value) (q : PV), cs[j]? = some v → qs[j]? = some q → DV W (· < W.heap.size) v q
theorem Dat.one {W : World} {v : Value} {q : PV} (h1 : q.one = true) (h : DV W (· < W.heap.size) v q) : Dat W [v] [q] :=
  ⟨rfl, by simpa using h1, fun j v' q' g1 g2 => by
    cases j with
    | zero => simp at g1 g2; subst g1 g2; exact h
    | succ j => simp at g1⟩
theorem Dat.append {W : World} {a b : List Value} {p q : List PV} (h : Dat W a p) (k : Dat W b q) : Dat W (a ++ b) (p ++ q) := by
  refine ⟨by simp [h.1, k.1], fun x hx => ?_, fun j v r g1 g2 => ?_⟩
  · rcases List.mem_append.1 hx with hx | hx
    · exact h.2.1 x hx
    · exact k.2.1 x hx
  · by_cases hj : j < a.length
    · rw [List.getElem?_append_left hj] at g1
      rw [List.getElem?_append_left (by rw [← h.1]; exact hj)] at g2
      exact h.2.2 j v r g1 g2
    · rw [List.getElem?_append_right (by omega)] at g1
      rw [List.getElem?_append_right (by rw [← h.1]; omega), ← h.1] at g2
      exact k.2.2 _ v r g1 g2
theorem weightsAll_mem {H : Type} {P : Program} {e : TypeId} : ∀ {ds : List (DataW H)} {d : DataW H} {n : Nat}, d ∈ ds → n ∈ d.weights P e → n ∈ DataW.weightsAll P e ds
  | x :: r, d, n, h, hn => by
    simp only [DataW.weightsAll, List.mem_append]
    rcases List.mem_cons.1 h with rfl | h
    · exact .inl hn
    · exact .inr (weightsAll_mem h hn)
theorem weightsEach_at {H : Type} {P : Program} : ∀ {ts : List TypeId} {ds : List (DataW H)} {j : Nat} {t : TypeId} {d : DataW H} {n : Nat}, ts[j]? = some t → ds[j]? = some d → n ∈ d.weights P t → n ∈ DataW.weightsEach P ts ds
  | t :: ts, d :: ds, j, t', d', n, h1, h2, hn => by
    simp only [DataW.weightsEach, List.mem_append]
    cases j with
    | zero => simp at h1 h2; subst h1 h2; exact .inl hn
    | succ j => exact .inr (weightsEach_at (by simpa using h1) (by simpa using h2) hn)
  | [], _, j, _, _, _, h1, _, _ => by simp at h1
  | _ :: _, [], j, _, _, _, _, h2, _ => by simp at h2
theorem Dat.flat {W : World} : ∀ (ns : List Nat) (cs : List Value) (css : List (List PV)), cs.length = ns.sum → css.length = ns.length →
    (∀ (j n : Nat) (q : List PV), ns[j]? = some n → css[j]? = some q → Dat W ((cs.drop (ns.take j).sum).take n) q) → Dat W cs css.flatten
  | [], cs, css, h1, h2, _ => by
    have : cs = [] := List.length_eq_zero_iff.1 (by simpa using h1)
    have e2 : css = [] := List.length_eq_zero_iff.1 (by simpa using h2)
    subst this e2
    exact ⟨rfl, by simp, fun j v q g => by simp at g⟩
  | n :: ns, cs, css, h1, h2, h3 => by
    cases css with
    | nil => simp at h2
    | cons q css =>
      have a := h3 0 n q (by simp) (by simp)
      simp only [List.take_zero, List.sum_nil, List.drop_zero] at a
      have b := Dat.flat (W := W) ns (cs.drop n) css (by simp at h1 ⊢; omega) (by simpa using h2) fun j m r g1 g2 => by
        have := h3 (j + 1) m r (by simpa using g1) (by simpa using g2)
        simp only [List.take_succ_cons, List.sum_cons] at this
        rwa [List.drop_drop]
      have c := a.append b
      rwa [List.take_append_drop] at c
theorem cell_lt {w : World} {a : Addr} {v : Value} (h : w.cell? a = some v) : a.block < w.heap.size := by
  cases hb : w.heap[a.block]? with
  | none =>
    unfold World.cell? at h
    simp [hb] at h
  | some o => exact (Array.getElem?_eq_some_iff.1 hb).1
inductive TyV (P : Program) : TypeId → PV → Prop
  | one {t : TypeId} {q : PV} (h : Ty P t [q]) (hu : ∀ fs, P.underlying t ≠ some (.struct fs)) : TyV P t q
  | agg {t : TypeId} {fs : Array Field} {qs : List PV} (h : Ty P t qs) (hu : P.underlying t = some (.struct fs)) : TyV P t (.agg qs)
inductive TyVs (P : Program) : List TypeId → List PV → Prop
  | nil : TyVs P [] []
  | cons {t : TypeId} {q : PV} {ts : List TypeId} {qs : List PV} (h : TyV P t q) (r : TyVs P ts qs) : TyVs P (t :: ts) (q :: qs)
theorem stays_all {H : Type} {enc : TypeId × Value → H} {P : Program} {W W' : World} (lay : laidOutB P = true) (hb : Below W.heap.size W W') {sp : Nat → Bool} :
    ∀ {ts : List TypeId} {vs : List Value} {ds : List (DataW H)} {ps : List MemPlace}, (∀ t ∈ ts, P.readableRec t = true ∧ t < P.types.size) → DataW.TrodAll enc P W 0 (fun _ => true) true ts vs ds ps →
      (∀ x ∈ ps, x.block < W.heap.size) → (∀ x ∈ ps, sp x.block = true) → DataW.TrodAll enc P W' 0 sp true ts vs ds ps
  | [], [], [], _, _, h, _, _ => h
  | t :: ts, v :: vs, d :: ds, _, hT, ⟨p, q, h1, h2, e⟩, hlt, hs =>
    ⟨p, q, WideElems.Trod_stays lay (hT t (by simp)).1 (hT t (by simp)).2 h1 (fun x hx => hb.same (hlt x (by rw [e]; exact List.mem_append_left _ hx))) (fun x hx => hs x (by rw [e]; exact List.mem_append_left _ hx)),
      stays_all lay hb (fun t ht => hT t (by simp [ht])) h2 (fun x hx => hlt x (by rw [e]; exact List.mem_append_right _ hx)) (fun x hx => hs x (by rw [e]; exact List.mem_append_right _ hx)), e⟩
  | [], _ :: _, _, _, _, h, _, _ => h.elim
  | [], [], _ :: _, _, _, h, _, _ => h.elim
  | _ :: _, [], _, _, _, h, _, _ => h.elim
  | _ :: _, _ :: _, [], _, _, h, _, _ => h.elim
theorem trodAll_len {H : Type} {enc : TypeId × Value → H} {P : Program} {W : World} {b : Nat} {sp : Nat → Bool} {held : Bool} : ∀ {ts : List TypeId} {vs : List Value} {ds : List (DataW H)} {ps : List MemPlace},
    DataW.TrodAll enc P W b sp held ts vs ds ps → ds.length = ts.length
  | [], [], [], _, _ => rfl
  | _ :: _, _ :: _, _ :: _, _, ⟨_, _, _, h, _⟩ => by simp [trodAll_len h]
  | [], _ :: _, _, _, h => h.elim
  | [], [], _ :: _, _, h => h.elim
  | _ :: _, [], _, _, h => h.elim
  | _ :: _, _ :: _, [], _, h => h.elim
end
end Go.PW
