/-
 PwSort: slices.Sort over strings, as a contract that changes a row.
-/
import Derived.Test.YtlkknmhhefjmjaaGreatDoorPwShelf
import Derived.Test.YtlkknmhhefjmjaaGreatDoorPwMut
import Derived.Test.YtlkknmhhefjmjaaGreatDoorPwWalk
import Derived.Test.YtlkknmhhefjmjaaGreatDoorPwMove
import Derived.Test.YtlkknmhhefjmjaaGreatDoorPwDec
import Derived.Sort.OwnSorted
namespace Go.PW
open Go.RowKit Go.Proofs Go.Sort
variable {P : Program} {f : FuncId}
def sortedS (ss : List (List UInt8)) : List (List UInt8) := ss.mergeSort fun x y => decide (x ≤ y)
theorem live1 {E e0 : Ent} {nm ver : Nat} (h1 : E.ver = 0) (h2 : E.dead = false) : live [(1, E)] nm ver = some e0 ↔ nm = 1 ∧ ver = 0 ∧ e0 = E := by
 rw [live_some]
 simp only [look]
 constructor
 ·rintro ⟨h, h3, _⟩
  by_cases hn : 1 = nm
  ·rw [if_pos hn] at h
   injection h with h
   subst h
   exact ⟨hn.symm, by omega, rfl⟩
  ·rw [if_neg hn] at h; cases h
 ·rintro ⟨rfl, rfl, rfl⟩
  exact ⟨by simp, h1, h2⟩
theorem PMut.sortS {e : TypeId} {dt : Bool} {ss : List (List UInt8)}
  (hsort : ∀ (blk off cap : Nat) (w : World), Holds encStr w blk off ss.toArray → blk < w.heap.size → ss.length < 4611686018427387904 →
   Calls P f #[.slice (some ⟨blk, off, none⟩) ss.length cap] w fun r w' => r = .returned (.tuple #[]) ∧ ∃ n os, w' = grow (putRow encStr (Sort.ahead w n) blk off (ss.mergeSort fun x y => decide (x ≤ y)).toArray) os)
  (hnil : ∀ w, Calls P f #[.slice none 0 0] w fun r w' => r = .returned (.tuple #[]) ∧ w.grownBy w' none) :
  PMut P f [.own 1 0] [(1, ⟨0, e, 1, List.map cS ss, dt, false, false⟩)] (.tup []) [(1, ⟨0, e, 1, List.map cS (sortedS ss), dt, false, false⟩)] := by
 intro w hd I gh vs M hl hv
 obtain ⟨v0, rfl⟩ : ∃ v, vs = [v] := by
  match vs, hl with
  | [v], _ => exact ⟨v, rfl⟩
 have h0 := hv 0 v0 _ rfl rfl
 have hv0 : v0 = hd 1 := by
  cases h0 with
  | data _ _ h => cases h
  | own _ _ _ _ _ h => exact h _ ((live1 rfl rfl).2 ⟨rfl, rfl, rfl⟩)
 subst hv0
 obtain ⟨xs, hown, hbig, hel⟩ := M.rows 1 0 ⟨0, e, 1, List.map cS ss, dt, false, false⟩ ((live1 rfl rfl).2 ⟨rfl, rfl, rfl⟩)
 simp only [List.length_map] at hown hbig
 have hbs : ∀ s ∈ ss, s.length ≤ big := by
  intro s hs
  obtain ⟨i, hi, rfl⟩ := List.getElem_of_mem hs
  obtain ⟨_, _, hj⟩ := hel i (cS ss[i]) (by simp [hi])
  obtain ⟨v, hx, hr, _⟩ := hj 0 (.str ss[i]) rfl
  cases hr with
  | data _ _ h => cases h with
   | str _ h => exact h
 have hxs : xs = ss.map encStr := by
  have hlen : xs.length = ss.length := by have := hown.1; simpa using this
  apply List.ext_getElem?
  intro i
  by_cases hi : i < ss.length
  ·obtain ⟨_, _, hj⟩ := hel i (cS ss[i]) (by simp [hi])
   obtain ⟨v, hx, hr, _⟩ := hj 0 (.str ss[i]) rfl
   have hve : v = encStr ss[i] := by
    cases hr with
    | data _ _ h => cases h with
     | str _ _ => rfl
   simp only [Nat.mul_one, Nat.add_zero] at hx
   rw [hx, hve]
   simp [hi]
  ·rw [List.getElem?_eq_none (by omega), List.getElem?_eq_none (by simp; omega)]
 subst hxs
 have key : ∀ w', w.grownBy w' (hd 1).ownBlock → w'.ownsRow 0 e 1 (hd 1) (sortedS ss).length ((sortedS ss).map encStr) →
   ∃ v hd', Ending.returned (Value.tuple #[]) = .returned v ∧ MemInv ⟨w, 0, Nat.zero_le _⟩ ⟨w', [(1, ⟨0, e, 1, List.map cS (sortedS ss), dt, false, false⟩)], hd', 2, fun b => I b ∨ w.heap.size ≤ b, gh⟩ ∧
    RV ⟨w', [(1, ⟨0, e, 1, List.map cS (sortedS ss), dt, false, false⟩)], hd', 2, fun b => I b ∨ w.heap.size ≤ b, gh⟩ v (.tup []) ∧
    (∀ nm e0 e', live [(1, ⟨0, e, 1, List.map cS ss, dt, false, false⟩)] nm 0 = some e0 → live [(1, ⟨0, e, 1, List.map cS (sortedS ss), dt, false, false⟩)] nm 0 = some e' → hd' nm = hd nm) ∧
    ∀ b, b < w.heap.size → free [(1, ⟨0, e, 1, List.map cS ss, dt, false, false⟩)] hd b → free [(1, ⟨0, e, 1, List.map cS (sortedS ss), dt, false, false⟩)] hd' b ∧ w'.heap[b]? = w.heap[b]? := by
  intro w' hg ho
  have lv : ∀ {nm ver e0}, live [(1, (⟨0, e, 1, List.map cS (sortedS ss), dt, false, false⟩ : Ent))] nm ver = some e0 → nm = 1 ∧ ver = 0 ∧ e0 = ⟨0, e, 1, List.map cS (sortedS ss), dt, false, false⟩ := by
   intro nm ver e0 h
   exact (live1 rfl rfl).1 h
  have lv1 : live [(1, (⟨0, e, 1, List.map cS ss, dt, false, false⟩ : Ent))] 1 0 = some ⟨0, e, 1, List.map cS ss, dt, false, false⟩ := (live1 rfl rfl).2 ⟨rfl, rfl, rfl⟩
  refine ⟨_, hd, rfl, ⟨M.i0, ?_, ?_, ?_, ?_, ?_⟩, .tup #[] [] rfl (fun j v p h => by simp at h), fun _ _ _ _ _ => rfl, ?_⟩
  ·exact (Below.refl 0 w).grown hg (Nat.zero_le _) (fun k _ => Nat.zero_le _)
  ·intro nm e0 h
   simp only [look] at h
   by_cases hn : 1 = nm
   ·simp [hn] at h; subst h; simp
   ·simp [hn] at h
  ·intro nm ver e0 h
   obtain ⟨rfl, rfl, rfl⟩ := lv h
   refine ⟨_, by simpa using ho, by simpa [sortedS] using hbig, ?_⟩
   intro i cs hi
   simp only [List.getElem?_map, Option.map_eq_some_iff] at hi
   obtain ⟨s, hs, rfl⟩ := hi
   have hm : s ∈ ss := List.mem_mergeSort.1 (List.mem_of_getElem? hs)
   refine ⟨rfl, by simp [cS, PV.one], ?_⟩
   intro j p hj
   match j, hj with
   | 0, hj =>
    cases hj
    refine ⟨encStr s, by simp [hs], .data _ _ (.str _ (hbs s hm)), fun _ => .str _ (hbs s hm)⟩
  ·intro nm nm' ver ver' e0 e1 b hne h1 h2
   exact absurd ((lv h1).1.trans (lv h2).1.symm) hne
  ·intro nm ver e0 b h hb
   obtain ⟨rfl, rfl, rfl⟩ := lv h
   exact M.own0 1 0 _ b lv1 hb
  ·intro b hb hf
   have hne : (hd 1).ownBlock ≠ some b := hf 1 0 _ lv1
   refine ⟨?_, hg.block b hb (fun e => hne e.symm)⟩
   intro nm ver e0 h
   obtain ⟨rfl, rfl, rfl⟩ := lv h
   exact hne
 rcases hown.2 with ⟨hn, h0⟩ | ⟨g, cap, cur, hh, hbase, hb, h1, h2, h3, h4⟩
 ·have hs0 : ss = [] := List.eq_nil_of_length_eq_zero h0
  rw [hn]
  refine (hnil w).mono ?_
  rintro r w' ⟨rfl, hg⟩
  refine key w' (by rw [hn]; exact hg) ?_
  subst hs0
  exact ⟨by simp [sortedS], .inl ⟨hn, by simp [sortedS]⟩⟩
 ·rw [hh]
  refine (hsort g 0 cap w (holds_of_block hb (by simpa using h4)) (Array.getElem?_eq_some_iff.1 hb).1 (by have : big < 4611686018427387904 := (by decide); omega)).mono ?_
  rintro r w' ⟨rfl, n, os, rfl⟩
  have hl2 : (sortedS ss).length = ss.length := by simp [sortedS]
  refine key _ (by rw [hh]; exact grownBy_sorted _) ?_
  have := ownsRow_sorted (n := n) (os := os) (ts := sortedS ss) hl2 hbase hb h1 h2 h3
  rw [hh, hl2]
  exact this
section
variable {d nm v : Nat} {elem : TypeId} {sz : Nat} {es es' : List (List PV)} {nw : Bool} {sl : List (Nat × PV)} {m : List (Nat × Ent)} {g : Nat} {r : List LOper} {acc : List Log} {K : List Log → St → Prop}
theorem W.rowCall {f : FuncId} {as : List LX} (h : PMut P f [.own 1 0] [(1, ⟨0, elem, sz, es, true, false, false⟩)] (.tup []) [(1, ⟨0, elem, sz, es', true, false, false⟩)]) (hx : lxs sl as = some [.own nm v])
  (hm : look m nm = some ⟨v, elem, sz, es, true, nw, false⟩) (hl : es'.length = es.length) (hu : (r.all fun o => o.dst != some d) = true)
  (kk : W P r ((d :: [nm, nm, nm], [nm]) :: acc) ⟨(d, .tup []) :: sl, (nm, ⟨v, elem, sz, es', true, nw, false⟩) :: m, g⟩ K) : W P (⟨some d, none, .call f as⟩ :: r) acc ⟨sl, m, g⟩ K := by
 refine W.callM (fun _ => (nm, v)) (fun _ => nm) h hx ?_ (res' := .tup []) (up := [(nm, ⟨v, elem, sz, es', true, nw, false⟩)]) rfl ?_ rfl hu kk
 ·refine ⟨rfl, ?_, by simp [look], by simp [look], ?_, ?_, ?_, ?_, rfl⟩
  ·intro j x p h1 h2
   match j, h1, h2 with
   | 0, h1, h2 => cases h1; cases h2; exact .tok rfl rfl
  ·intro x hx y hy hne
   simp at hx hy; subst hx hy; exact absurd rfl hne
  ·intro x hx y hy hne
   simp at hx hy; subst hx hy; exact absurd rfl hne
  ·intro x hx
   simp at hx; subst hx
   exact ⟨⟨rfl, rfl, rfl⟩, ⟨v, elem, sz, es, true, nw, false⟩, by simp [liveF, hm], rfl, rfl, .inl ⟨rfl, rfl, rfl⟩⟩
  ·intro x hx
   simp at hx; subst hx
   refine ⟨⟨rfl, rfl, rfl⟩, ?_, ?_, .inl rfl⟩
   ·intro e0 h0; simp [look] at h0; subst h0; exact ⟨rfl, hl⟩
   ·intro h0; simp [look] at h0
 ·simp [Mut.up, Mut.post, Mut.ent, Mut.gone, hm]
end
theorem Wk.rowLe {st S : St} (nm ver : Nat) {e : Ent} {es' : List (List PV)} (hl : liveF (look st.mem) nm ver = some e) (hd : e.data = true) (hr : LesR e.es es') (hS : { st with mem := (nm, { e with es := es' }) :: st.mem } = S) : Wk st S := by
 subst hS
 intro w0 I0 N a w hdr R
 have M := R.mem
 rw [← live_eq] at hl
 let C : Ctx := { w, mem := st.mem, hd := hdr, gen := st.gen, I0 := fun b => I0 b ∨ w0.w.heap.size ≤ b, gh := I0.gh }
 obtain ⟨xs, ho, hbig, hc⟩ := M.rows nm ver e hl
 obtain ⟨h1, h2⟩ := hr.out
 have hT := M.turn_row (e' := { e with es := es' }) (w' := w) (xs := xs) hl rfl rfl h1.symm rfl (World.grownBy.refl _ _) (by show w.ownsRow w0.B e.elem e.sz _ es'.length xs; rw [← h1]; exact ho) (by show es'.length ≤ big; omega) (by
  intro i cs' hi
  have hi' : es'[i]? = some cs' := hi
  have hlt := (List.getElem?_eq_some_iff.1 hi').1
  have hlt2 : i < e.es.length := by omega
  have hg : e.es[i]? = some (e.es[i]'hlt2) := List.getElem?_eq_getElem hlt2
  obtain ⟨hle, hone⟩ := h2 i _ _ hg hi'
  obtain ⟨c1, c2, c3⟩ := hc i _ hg
  refine ⟨by show cs'.length = e.sz; rw [← hle.out.1]; exact c1, fun p hp => List.all_eq_true.1 hone p hp, fun j p hj => ?_⟩
  have hjl := (List.getElem?_eq_some_iff.1 hj).1
  have hjl2 : j < (e.es[i]'hlt2).length := by rw [hle.out.1]; exact hjl
  have hgj : (e.es[i]'hlt2)[j]? = some ((e.es[i]'hlt2)[j]'hjl2) := List.getElem?_eq_getElem hjl2
  obtain ⟨v, a1, a2, a3⟩ := c3 j _ hgj
  have hlp := hle.out.2 j _ _ hgj hj
  exact ⟨v, a1, a2.le hlp, fun hdt => (a3 hd).le hlp⟩)
 obtain ⟨M', L'⟩ := hT
 exact ⟨hdr, ⟨M', R.defers, R.size, R.top, fun t p ht => ⟨(R.slot t p ht).1, L'.rv (R.slot t p ht).2⟩, L'.frame R.frame⟩⟩
theorem LesR.refl {es : List (List PV)} (h : ∀ cs ∈ es, cs.all PV.one = true) : LesR es es := by
 induction es with
 | nil => exact .nil
 | cons p ps ih => exact .cons (Les.refl _) (h p (by simp)) (ih fun cs hc => h cs (by simp [hc]))
theorem LesR.append {a b a' b' : List (List PV)} (h : LesR a a') (h' : LesR b b') : LesR (a ++ b) (a' ++ b') := by
 induction h with
 | nil => exact h'
 | cons h ho t ih => exact .cons h ho ih
theorem LesR.replicate {p q : List PV} (n : Nat) (h : Les p q) (ho : q.all PV.one = true) : LesR (List.replicate n p) (List.replicate n q) := by
 induction n with
 | zero => exact .nil
 | succ n ih => exact .cons h ho ih
theorem LesR.clear {α : Type} {c : α → List PV} {l : List α} {lo hi : Nat} {zero : List PV} {z : α} (hz : Les zero (c z)) (hone : ∀ x, (c x).all PV.one = true) : LesR ((gclear (l.map c) lo hi zero).map fun x => x) ((gclear l lo hi z).map c) := by
 rw [map_clear c l lo hi z, List.map_id']
 show LesR ((l.map c).take lo ++ List.replicate (hi - lo) zero ++ (l.map c).drop hi) _
 refine LesR.append (LesR.append (LesR.refl fun cs hc => ?_) (LesR.replicate _ hz (hone z))) (LesR.refl fun cs hc => ?_)
 ·obtain ⟨x, _, rfl⟩ := List.mem_map.1 (List.mem_of_mem_take hc)
  exact hone x
 ·obtain ⟨x, _, rfl⟩ := List.mem_map.1 (List.mem_of_mem_drop hc)
  exact hone x
section
variable {α : Type} {c : α → List PV} {l t : List α} {v : α} {r : List LOper} {acc : List Log} {sl : List (Nat × PV)} {m : List (Nat × Ent)} {g d : Nat} {K : List Log → St → Prop} {x y : LX} {k : IntKind} {a lo hi : Int}
theorem W.idxSR {sz nm ver : Nat} {e : Ent} (hx : lx sl x = some (.sub nm ver lo.toNat hi.toNat)) (hy : lx sl y = some (.int k a)) (hl : liveF (look m) nm ver = some e) (hs : e.sz = sz) (hcut : gcut l lo hi = some t) (h : gidx t a = some v)
  (kk : W P r (([nm], []) :: acc) ⟨(d, .pown nm ver (lo + a).toNat 0) :: sl, m, g⟩ K) : W P (⟨some d, none, .idx sz x y⟩ :: r) acc ⟨sl, m, g⟩ K := by
 have h0 := (gidx_some h).1
 have h1 := gidx_lt h
 unfold gcut at hcut
 split at hcut
 ·rename_i hc
  injection hcut with hcut
  subst hcut
  simp only [List.length_drop, List.length_take] at h1
  exact W.idxS hx hy hl hs h0 (by omega) (by omega) kk
 ·cases hcut
end
theorem Le.cut {α : Type} {c : α → List PV} {l t : List α} {lo hi : Int} {sz : Nat} (h : gcut l lo hi = some t) : Le (.list sz (((l.map c).take hi.toNat).drop lo.toNat)) (.list sz (t.map c)) := by
 unfold gcut at h
 split at h
 ·injection h with h
  subst h
  rw [List.map_drop, List.map_take]
  exact .refl _
 ·cases h
end Go.PW
