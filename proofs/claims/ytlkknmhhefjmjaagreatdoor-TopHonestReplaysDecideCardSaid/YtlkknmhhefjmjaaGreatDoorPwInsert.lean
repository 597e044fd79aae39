/-
  PwInsert: slices.Insert of one element, as a contract: the row and the one element are used up, a row of the caller's stands behind it.
-/
import Derived.Test.YtlkknmhhefjmjaaGreatDoorPwBorrow
import Derived.Laws.CopyRow
import Derived.Laws.IdiomCopy
namespace Go.PW
open Go.RowKit
variable {P : Program} {f : FuncId}
theorem setCells_row {b : Nat} {e : TypeId} {fr : Nat × Nat} : ∀ (vs : List Value) (o : Nat) (cur : Array Value) (w : World), w.heap[b]? = some (.cells cur e fr) → o + vs.length ≤ cur.size →
    w.setCells b o vs = w.setRow b (cur.toList.take o ++ vs ++ cur.toList.drop (o + vs.length)).toArray
  | [], o, cur, w, hb, _ => by
    simp only [World.setCells, List.append_nil, List.length_nil, Nat.add_zero, List.take_append_drop, Array.toArray_toList]
    exact (setRow_self w b cur e fr hb).symm
  | v :: rest, o, cur, w, hb, hl => by
    simp only [List.length_cons] at hl
    rw [World.setCells, setCell_eq_setRow w b o cur e fr v hb, setCells_row rest (o + 1) (cur.setIfInBounds o v) (w.setRow b (cur.setIfInBounds o v)) (setRow_heap w b cur _ e fr hb) (by simp; omega), setRow_setRow]
    congr 2
    have e1 := list_seg_step cur.toList o v rest (by simp; omega)
    simpa [Array.toList_setIfInBounds] using e1
theorem grownBy_setRow {w : World} {b : Nat} (cs : Array Value) : w.grownBy (w.setRow b cs) (some b) := by
  refine ⟨rfl, rfl, rfl, by simp [World.setRow], fun k hk hne => ?_⟩
  have : b ≠ k := fun e => hne (by rw [e])
  simp [World.setRow, Array.getElem?_modify, this]
theorem grownBy_drew_alloc (w : World) (o : Obj) : w.grownBy (w.drew.alloc o) none :=
  ⟨rfl, rfl, rfl, by rw [World.size_alloc]; exact Nat.le_succ _, fun k hk _ => Below.heap_alloc w.drew o k hk⟩
theorem grownBy_two (w : World) (o : Obj) (A B : Array Value) : w.grownBy (((w.alloc o).drew.setRow w.heap.size A).drew.setRow w.heap.size B) none := by
  have a1 : w.grownBy (w.alloc o).drew none := ⟨rfl, rfl, rfl, by show w.heap.size ≤ (w.alloc o).heap.size; rw [World.size_alloc]; exact Nat.le_succ _, fun k hk _ => Below.heap_alloc w o k hk⟩
  have a2 := a1.andThen (grownBy_setRow (b := w.heap.size) A) (fun j h => by injection h with h; exact .inl (Nat.le_of_eq h))
  have a3 : w.grownBy ((w.alloc o).drew.setRow w.heap.size A).drew none := ⟨a2.os, a2.tape, a2.output, a2.size, a2.block⟩
  exact a3.andThen (grownBy_setRow (b := w.heap.size) B) (fun j h => by injection h with h; exact .inl (Nat.le_of_eq h))
theorem run_copy_cellsK {P : Program} (w : World) (dT sT ty elem : TypeId) (b o dLen dCap k : Nat) (a : Addr) (sLen sCap : Nat) (cs : List Value)
    (hu : P.underlying dT = some (.slice elem)) (hs : (P.info? elem).map (·.size) = some k) (hn : cs.length = Nat.min sLen dLen * k)
    (hsrc : ∀ j v, cs[j]? = some v → w.cell? (a.add j) = some v) (hc : ∀ j, j < cs.length → (w.cell? ⟨b, o + j, none⟩).isSome = true) (hf : ∀ j, j < cs.length → w.frozen? ⟨b, o + j, none⟩ = false) (h1 : ∀ v ∈ cs, v.oneCell' = true) :
    (Builtin.copy_ #[dT, sT] ty #[.slice (some ⟨b, o, none⟩) dLen dCap, .slice (some a) sLen sCap]).run P w = .ok (goInt (Nat.min sLen dLen)) (w.setCells b o cs) := by
  have hl := run_loadCells_list (P := P) w a cs hsrc
  have hst := run_storeCells_cells (P := P) b o cs 0 w (by simpa using hc) (by simpa using hf) h1
  cases hq : P.info? elem with
  | none => simp [hq] at hs
  | some i =>
    have hi : i.size = k := by simpa [hq] using hs
    simp [Builtin.copy_, run_underlying hu, Builtin.lenOf, Builtin.firstCells, sizeOf, typeInfo, hq, hi, ← hn, hl, hst]
theorem ins_list (l xs ys : List Value) (i n : Nat) (hi : i ≤ n) (hx : l.take (n * 2) = xs) (hy : ys.length = 2) (hl : (n + 1) * 2 ≤ l.length) :
    let A := l.take ((i + 1) * 2) ++ xs.drop (i * 2) ++ l.drop ((i + 1) * 2 + (xs.drop (i * 2)).length)
    (A.take (i * 2) ++ ys ++ A.drop (i * 2 + ys.length)).take ((n + 1) * 2) = xs.take (i * 2) ++ ys ++ xs.drop (i * 2) := by
  intro A
  have hxl : xs.length = n * 2 := by rw [← hx]; simp; omega
  have h1 : A.take (i * 2) = xs.take (i * 2) := by
    have hle : i * 2 ≤ (l.take ((i + 1) * 2)).length := by simp; omega
    show (l.take ((i + 1) * 2) ++ xs.drop (i * 2) ++ _).take (i * 2) = _
    rw [List.append_assoc, List.take_append_of_le_length hle, List.take_take, ← hx, List.take_take]
    congr 1
    omega
  have h2 : A.drop (i * 2 + ys.length) = xs.drop (i * 2) ++ l.drop ((i + 1) * 2 + (xs.drop (i * 2)).length) := by
    have hle : (l.take ((i + 1) * 2)).length = i * 2 + ys.length := by simp; omega
    show (l.take ((i + 1) * 2) ++ xs.drop (i * 2) ++ _).drop _ = _
    rw [List.append_assoc, ← hle, List.drop_left]
  rw [h1, h2, ← List.append_assoc]
  have h3 : (xs.take (i * 2) ++ ys ++ xs.drop (i * 2)).length = (n + 1) * 2 := by simp; omega
  rw [← h3, List.take_left]
def InsertsAt (P : Program) (f : FuncId) (e : TypeId) (sz bytes : Nat) : Prop :=
  ∀ (w : World) (v1 v2 : Value) (n i : Nat) (xs ys : List Value), w.ownsRow 0 e sz v1 n xs → w.ownsRow 0 e sz v2 1 ys → (∀ b, v1.ownBlock = some b → v2.ownBlock ≠ some b) → i ≤ n → (n + 1) * bytes ≤ big →
    (∀ v ∈ xs, v.oneCell' = true) → (∀ v ∈ ys, v.oneCell' = true) →
    Calls P f #[v1, .int .i64 i, v2] w fun r w' => ∃ v, r = .returned v ∧ w.grownBy w' v1.ownBlock ∧ w'.ownsRow 0 e sz v (n + 1) (xs.take (i * sz) ++ ys ++ xs.drop (i * sz)) ∧
      ∀ b, v.ownBlock = some b → v1.ownBlock = some b ∨ w.heap.size ≤ b
theorem live2 {E1 E2 e0 : Ent} {nm ver : Nat} (h1 : E1.ver = 0) (h2 : E1.dead = false) (h3 : E2.ver = 0) (h4 : E2.dead = false) : live [(1, E1), (2, E2)] nm ver = some e0 ↔ (nm = 1 ∧ ver = 0 ∧ e0 = E1) ∨ (nm = 2 ∧ ver = 0 ∧ e0 = E2) := by
  rw [live_some]
  simp only [look]
  constructor
  · rintro ⟨h, h5, _⟩
    by_cases hn : 1 = nm
    · rw [if_pos hn] at h
      injection h with h
      subst h
      exact .inl ⟨hn.symm, by omega, rfl⟩
    · rw [if_neg hn] at h
      by_cases hn2 : 2 = nm
      · rw [if_pos hn2] at h
        injection h with h
        subst h
        exact .inr ⟨hn2.symm, by omega, rfl⟩
      · rw [if_neg hn2] at h; cases h
  · rintro (⟨rfl, rfl, rfl⟩ | ⟨rfl, rfl, rfl⟩)
    · exact ⟨by simp, h1, h2⟩
    · exact ⟨by simp, h3, h4⟩
theorem live3 {E e0 : Ent} {nm ver : Nat} (h1 : E.ver = 0) (h2 : E.dead = false) : live [(3, E)] nm ver = some e0 ↔ nm = 3 ∧ ver = 0 ∧ e0 = E := by
  rw [live_some]
  simp only [look]
  constructor
  · rintro ⟨h, h3, _⟩
    by_cases hn : 3 = nm
    · rw [if_pos hn] at h
      injection h with h
      subst h
      exact ⟨hn.symm, by omega, rfl⟩
    · rw [if_neg hn] at h; cases h
  · rintro ⟨rfl, rfl, rfl⟩
    exact ⟨by simp, h1, h2⟩
theorem mid_get {α : Type} (l : List α) (x : α) {i : Nat} (hi : i ≤ l.length) (p : Nat) : (l.take i ++ [x] ++ l.drop i)[p]? = if p < i then l[p]? else if p = i then some x else l[p - 1]? := by
  have hl : (l.take i).length = i := by simp; omega
  rw [List.append_assoc]
  by_cases h1 : p < i
  · rw [if_pos h1, List.getElem?_append_left (by omega), List.getElem?_take_of_lt h1]
  · rw [if_neg h1, List.getElem?_append_right (by omega), hl]
    by_cases h2 : p = i
    · subst h2; simp
    · rw [if_neg h2, List.getElem?_append_right (by simp; omega), List.getElem?_drop]
      congr 1
      simp; omega
theorem PMut.insert {e : TypeId} {sz bytes : Nat} {es : List (List PV)} {cs : List PV} {i : Nat} (h : InsertsAt P f e sz bytes) (hi : i ≤ es.length) (hb : (es.length + 1) * bytes ≤ big) (hbg : es.length + 1 ≤ big) :
    PMut P f [.own 1 0, .int .i64 i, .own 2 0] [(1, ⟨0, e, sz, es, true, false, false⟩), (2, ⟨0, e, sz, [cs], true, false, false⟩)] (.own 3 0) [(3, ⟨0, e, sz, es.take i ++ [cs] ++ es.drop i, true, false, false⟩)] := by
  intro w hd I gh vs M hl hv
  let E1 : Ent := ⟨0, e, sz, es, true, false, false⟩
  let E2 : Ent := ⟨0, e, sz, [cs], true, false, false⟩
  let E3 : Ent := ⟨0, e, sz, es.take i ++ [cs] ++ es.drop i, true, false, false⟩
  have lv1 : live [(1, E1), (2, E2)] 1 0 = some E1 := (live2 rfl rfl rfl rfl).2 (.inl ⟨rfl, rfl, rfl⟩)
  have lv2 : live [(1, E1), (2, E2)] 2 0 = some E2 := (live2 rfl rfl rfl rfl).2 (.inr ⟨rfl, rfl, rfl⟩)
  obtain ⟨v1, v0, v2, rfl⟩ : ∃ a b c, vs = [a, b, c] := by
    match vs, hl with
    | [a, b, c], _ => exact ⟨a, b, c, rfl⟩
  have r1 := hv 0 v1 _ rfl rfl
  have r0 := hv 1 v0 _ rfl rfl
  have r2 := hv 2 v2 _ rfl rfl
  have e1 : v1 = hd 1 := by
    cases r1 with
    | data _ _ h => cases h
    | own _ _ _ _ _ h => exact h _ lv1
  have e2 : v2 = hd 2 := by
    cases r2 with
    | data _ _ h => cases h
    | own _ _ _ _ _ h => exact h _ lv2
  have e0 : v0 = .int .i64 i := by
    cases r0 with
    | data _ _ h => cases h; rfl
  subst e1 e2 e0
  obtain ⟨xs, ho1, hbig1, hc1⟩ := M.rows 1 0 E1 lv1
  obtain ⟨ys, ho2, _, hc2⟩ := M.rows 2 0 E2 lv2
  have hsz1 : xs.length = es.length * sz := ho1.1
  have hsz2 : ys.length = 1 * sz := ho2.1
  have hap : ∀ b, (hd 1).ownBlock = some b → (hd 2).ownBlock ≠ some b := fun b hb => M.apart 1 2 0 0 E1 E2 b (by omega) lv1 lv2 hb
  -- cells of an element of the row
  have cell1 : ∀ (p : Nat) (ds : List PV) (j : Nat) (q : PV), es[p]? = some ds → ds[j]? = some q → j < sz ∧ ∃ v, xs[p * sz + j]? = some v ∧ DV w (imm [(1, E1), (2, E2)] hd fun b => I b ∨ w.heap.size ≤ b) v q := by
    intro p ds j q hp hj
    obtain ⟨a1, _, a3⟩ := hc1 p ds hp
    obtain ⟨v, b1, _, b3⟩ := a3 j q hj
    have := (List.getElem?_eq_some_iff.1 hj).1
    exact ⟨by have a1' : ds.length = sz := a1; omega, v, b1, b3 rfl⟩
  have len1 : ∀ (p : Nat) (ds : List PV), es[p]? = some ds → ds.length = sz ∧ ∀ q ∈ ds, q.one = true := fun p ds hp => ⟨(hc1 p ds hp).1, (hc1 p ds hp).2.1⟩
  have len2 : cs.length = sz ∧ ∀ q ∈ cs, q.one = true := ⟨(hc2 0 cs rfl).1, (hc2 0 cs rfl).2.1⟩
  have cell2 : ∀ (j : Nat) (q : PV), cs[j]? = some q → j < sz ∧ ∃ v, ys[j]? = some v ∧ DV w (imm [(1, E1), (2, E2)] hd fun b => I b ∨ w.heap.size ≤ b) v q := by
    intro j q hj
    obtain ⟨_, _, a3⟩ := hc2 0 cs rfl
    obtain ⟨v, b1, _, b3⟩ := a3 j q hj
    have := (List.getElem?_eq_some_iff.1 hj).1
    have hl2 := len2.1
    exact ⟨by omega, v, by simpa using b1, b3 rfl⟩
  have one1 : ∀ v ∈ xs, v.oneCell' = true := by
    intro v hv
    obtain ⟨t, ht, rfl⟩ := List.getElem_of_mem hv
    have hsz : 0 < sz := by rcases Nat.eq_zero_or_pos sz with h | h
                            · subst h; simp at hsz1; subst hsz1; simp at ht
                            · exact h
    have hp : t / sz < es.length := by rw [Nat.div_lt_iff_lt_mul hsz]; omega
    have hj : t % sz < sz := Nat.mod_lt _ hsz
    have hdl := (len1 _ _ (List.getElem?_eq_getElem hp)).1
    obtain ⟨_, u, b1, b2⟩ := cell1 _ _ (t % sz) _ (List.getElem?_eq_getElem hp) (List.getElem?_eq_getElem (by rw [hdl]; exact hj))
    have htt : t / sz * sz + t % sz = t := by have := Nat.div_add_mod t sz; rw [Nat.mul_comm] at this; exact this
    rw [htt, List.getElem?_eq_getElem ht] at b1
    injection b1 with b1
    rw [b1]
    exact b2.oneCell ((len1 _ _ (List.getElem?_eq_getElem hp)).2 _ (List.getElem_mem _))
  have one2 : ∀ v ∈ ys, v.oneCell' = true := by
    intro v hv
    obtain ⟨t, ht, rfl⟩ := List.getElem_of_mem hv
    have htl : t < cs.length := by rw [len2.1]; omega
    obtain ⟨_, u, b1, b2⟩ := cell2 t _ (List.getElem?_eq_getElem htl)
    rw [List.getElem?_eq_getElem ht] at b1
    injection b1 with b1
    rw [b1]
    exact b2.oneCell (len2.2 _ (List.getElem_mem _))
  refine (h w (hd 1) (hd 2) es.length i xs ys ho1 ho2 hap hi hb one1 one2).mono ?_
  rintro r w' ⟨v, rfl, hg, ho3, hnew⟩
  let hd' : Nat → Value := fun _ => v
  have lv : ∀ {nm ver e0}, live [(3, E3)] nm ver = some e0 → nm = 3 ∧ ver = 0 ∧ e0 = E3 := fun h => (live3 rfl rfl).1 h
  have hfree : ∀ b, b < w.heap.size → free [(1, E1), (2, E2)] hd b → v.ownBlock ≠ some b := by
    intro b hlt hf hb2
    rcases hnew b hb2 with h1 | h1
    · exact hf 1 0 E1 lv1 h1
    · omega
  have hdv : ∀ u q, DV w (imm [(1, E1), (2, E2)] hd fun b => I b ∨ w.heap.size ≤ b) u q → DV w' (imm [(3, E3)] hd' fun b => I b ∨ w.heap.size ≤ b) u q := by
    intro u q hq
    refine hq.mono hg.size fun b hlt hi2 => ⟨⟨hi2.1, fun nm ver e0 h => ?_⟩, hg.block b hlt (fun h => hi2.2 1 0 E1 lv1 h.symm)⟩
    exact hfree b hlt hi2.2
  have hlen3 : (es.take i ++ [cs] ++ es.drop i).length = es.length + 1 := by simp; omega
  refine ⟨v, hd', rfl, ⟨M.i0, ?_, ?_, ?_, ?_, ?_⟩, ?_, ?_, ?_⟩
  · exact (Below.refl 0 w).grown hg (Nat.zero_le _) (fun k _ => Nat.zero_le _)
  · intro nm e0 h
    simp only [look] at h
    split at h
    · injection h with h; subst h; exact ⟨fun h => (by cases h), fun _ => (by show 0 < 2; omega)⟩
    · cases h
  · intro nm ver e0 h
    obtain ⟨rfl, rfl, rfl⟩ := lv h
    refine ⟨xs.take (i * sz) ++ ys ++ xs.drop (i * sz), ?_, by show (es.take i ++ [cs] ++ es.drop i).length ≤ big; rw [hlen3]; exact hbg, fun p ds hp => ?_⟩
    · show w'.ownsRow 0 e sz v (es.take i ++ [cs] ++ es.drop i).length _
      rw [hlen3]; exact ho3
    · have hp' : (es.take i ++ [cs] ++ es.drop i)[p]? = some ds := hp
      rw [mid_get es cs hi] at hp'
      have hlt1 : (xs.take (i * sz)).length = i * sz := by
        rw [List.length_take, hsz1]
        have := Nat.mul_le_mul_right sz hi
        omega
      have fin : ∀ (u : Value) (q : PV), DV w (imm [(1, E1), (2, E2)] hd fun b => I b ∨ w.heap.size ≤ b) u q → RV ⟨w', [(3, E3)], hd', 2, fun b => I b ∨ w.heap.size ≤ b, gh⟩ u q ∧ (E3.data = true → DV w' (imm [(3, E3)] hd' fun b => I b ∨ w.heap.size ≤ b) u q) :=
        fun u q hq => ⟨.data _ _ (hdv u q hq), fun _ => hdv u q hq⟩
      by_cases h1 : p < i
      · rw [if_pos h1] at hp'
        refine ⟨(len1 p ds hp').1, (len1 p ds hp').2, fun j q hj => ?_⟩
        obtain ⟨a1, u, a2, a3⟩ := cell1 p ds j q hp' hj
        have hm : p * sz + j < i * sz := by
          have := Nat.mul_le_mul_right sz (show p + 1 ≤ i from h1); rw [Nat.add_mul, Nat.one_mul] at this; omega
        refine ⟨u, ?_, fin u q a3⟩
        show (xs.take (i * sz) ++ ys ++ xs.drop (i * sz))[p * sz + j]? = some u
        rw [List.append_assoc, List.getElem?_append_left (by omega), List.getElem?_take_of_lt hm]
        exact a2
      · rw [if_neg h1] at hp'
        by_cases h2 : p = i
        · rw [if_pos h2] at hp'
          injection hp' with hp'
          subst h2 hp'
          refine ⟨len2.1, len2.2, fun j q hj => ?_⟩
          obtain ⟨a1, u, a2, a3⟩ := cell2 j q hj
          refine ⟨u, ?_, fin u q a3⟩
          show (xs.take (p * sz) ++ ys ++ xs.drop (p * sz))[p * sz + j]? = some u
          rw [List.append_assoc, List.getElem?_append_right (by omega), hlt1, List.getElem?_append_left (by omega)]
          rw [← a2]; congr 1; omega
        · rw [if_neg h2] at hp'
          refine ⟨(len1 _ ds hp').1, (len1 _ ds hp').2, fun j q hj => ?_⟩
          obtain ⟨a1, u, a2, a3⟩ := cell1 _ ds j q hp' hj
          obtain ⟨p', rfl⟩ : ∃ p', p = p' + 1 := ⟨p - 1, by omega⟩
          rw [Nat.add_sub_cancel] at a2
          have hm : i * sz ≤ p' * sz := Nat.mul_le_mul_right sz (by omega)
          refine ⟨u, ?_, fin u q a3⟩
          show (xs.take (i * sz) ++ ys ++ xs.drop (i * sz))[(p' + 1) * sz + j]? = some u
          rw [Nat.add_mul, Nat.one_mul, List.getElem?_append_right (by simp only [List.length_append]; omega), List.getElem?_drop, List.length_append, hlt1]
          rw [← a2]; congr 1; omega
  · intro nm nm' ver ver' e0 e1 b hne h1 h2
    exact absurd ((lv h1).1.trans (lv h2).1.symm) hne
  · intro nm ver e0 b h hb2
    rcases hnew b hb2 with h1 | h1
    · exact M.own0 1 0 E1 b lv1 h1
    · exact .inr h1
  · refine .own 3 0 v ?_ (.inl (by show 0 < 2; omega)) fun e0 h => rfl
    rcases ho3.2 with ⟨h1, _⟩ | ⟨g, cap, cur, h1, _⟩
    · rw [h1]; rfl
    · rw [h1]; rfl
  · intro nm e0 e1 h1 h2
    rcases (live2 rfl rfl rfl rfl).1 h1 with ⟨rfl, _⟩ | ⟨rfl, _⟩
    · cases (lv h2).1
    · cases (lv h2).1
  · intro b hlt hf
    refine ⟨fun nm ver e0 h => hfree b hlt hf, hg.block b hlt (fun h => hf 1 0 E1 lv1 h.symm)⟩
def gins {α : Type} (bytes : Nat) (l : List α) (i : Int) (x : α) : Option (List α) := if 0 ≤ i ∧ i ≤ l.length ∧ (l.length + 1) * bytes ≤ big ∧ l.length + 1 ≤ big then some (l.take i.toNat ++ [x] ++ l.drop i.toNat) else none
theorem gins_some {α : Type} {bytes : Nat} {l r : List α} {i : Int} {x : α} (h : gins bytes l i x = some r) : 0 ≤ i ∧ i.toNat ≤ l.length ∧ (l.length + 1) * bytes ≤ big ∧ l.length + 1 ≤ big ∧ l.take i.toNat ++ [x] ++ l.drop i.toNat = r := by
  unfold gins at h
  split at h
  · rename_i hr; injection h with h; exact ⟨hr.1, by omega, hr.2.2.1, hr.2.2.2, h⟩
  · cases h
section
variable {α : Type} {c : α → List PV} {l l2 : List α} {z : α} {d nm v nm2 v2 : Nat} {elem : TypeId} {sz bytes : Nat} {cs : List PV} {nw nw2 : Bool} {sl : List (Nat × PV)} {m : List (Nat × Ent)} {g : Nat} {r : List LOper} {acc : List Log} {K : List Log → St → Prop} {i : Int}
theorem W.insCall {as : List LX} (h : InsertsAt P f elem sz bytes) (hx : lxs sl as = some [.own nm v, .int .i64 i, .own nm2 v2]) (hm : look m nm = some ⟨v, elem, sz, l.map c, true, nw, false⟩) (hm2 : look m nm2 = some ⟨v2, elem, sz, [cs], true, nw2, false⟩)
    (hne : nm ≠ nm2) (hf : freshF (look m) d = true) (hd1 : nm ≠ d) (hd2 : nm2 ≠ d) (hg : gins bytes l i z = some l2) (hu : (r.all fun o => o.dst != some d) = true)
    (kk : W P r ((d :: [nm, nm2, d, nm, nm2], [d, nm, nm2]) :: acc) ⟨(d, .own d g) :: sl, (d, ⟨g, elem, sz, (l.map c).take i.toNat ++ [cs] ++ (l.map c).drop i.toNat, true, true, false⟩) :: (nm, ⟨v, elem, sz, l.map c, true, nw, true⟩) :: (nm2, ⟨v2, elem, sz, [cs], true, nw2, true⟩) :: m, g⟩ K) : W P (⟨some d, none, .call f as⟩ :: r) acc ⟨sl, m, g⟩ K := by
  obtain ⟨h1, h2, h3, h4, _⟩ := gins_some hg
  have hp := PMut.insert (es := l.map c) (cs := cs) (i := i.toNat) h (by simpa using h2) (by simpa using h3) (by simpa using h4)
  have hii : ((i.toNat : Nat) : Int) = i := by omega
  rw [hii] at hp
  refine W.callM (fun x => if x = 1 then (nm, v) else (nm2, v2)) (fun _ => d) hp hx ?_ (res' := .own d g) (up := [(d, ⟨g, elem, sz, (l.map c).take i.toNat ++ [cs] ++ (l.map c).drop i.toNat, true, true, false⟩), (nm, ⟨v, elem, sz, l.map c, true, nw, true⟩), (nm2, ⟨v2, elem, sz, [cs], true, nw2, true⟩)]) ?_ ?_ (ns := [nm, nm2, d, nm, nm2]) ?_ hu kk
  · refine ⟨rfl, ?_, ?_, ?_, ?_, ?_, ?_, ?_, ?_⟩
    · intro j x p g1 g2
      match j, g1, g2 with
      | 0, g1, g2 => cases g1; cases g2; exact .tok rfl rfl
      | 1, g1, g2 => cases g1; cases g2; exact .data rfl (.refl _)
      | 2, g1, g2 => cases g1; cases g2; exact .tok rfl rfl
    · intro x hx2; simp at hx2; rcases hx2 with rfl | rfl <;> simp [look]
    · intro x hx2; simp at hx2; subst hx2; simp [look]
    · intro x hx2 y hy hne2
      simp at hx2 hy
      rcases hx2 with rfl | rfl <;> rcases hy with rfl | rfl <;> first | exact absurd rfl hne2 | (simp; first | exact hne | exact fun e => hne e.symm)
    · intro x hx2 y hy hne2
      simp at hx2 hy; subst hx2 hy; exact absurd rfl hne2
    · intro x hx2
      simp at hx2
      rcases hx2 with rfl | rfl
      · exact ⟨⟨rfl, rfl, rfl⟩, ⟨v, elem, sz, l.map c, true, nw, false⟩, by simp [liveF, hm], rfl, rfl, .inl ⟨rfl, rfl, rfl⟩⟩
      · exact ⟨⟨rfl, rfl, rfl⟩, ⟨v2, elem, sz, [cs], true, nw2, false⟩, by simp [liveF, hm2], rfl, rfl, .inl ⟨rfl, rfl, rfl⟩⟩
    · intro x hx2
      simp at hx2; subst hx2
      refine ⟨⟨rfl, rfl, rfl⟩, ?_, ?_, .inl rfl⟩
      · intro e0 h0; simp [look] at h0
      · intro _
        refine ⟨hf, fun x hx3 => ?_⟩
        simp at hx3
        rcases hx3 with rfl | rfl
        · simpa using hd1
        · simpa using hd2
    · rfl
  · rfl
  · simp [Mut.up, Mut.post, Mut.ent, Mut.gone, hm, hm2]
  · simp [Mut.foot, nameOf, nameOf1]
theorem LesR.ins (hg : gins bytes l i z = some l2) (hz : Les cs (c z)) (hone : ∀ x, (c x).all PV.one = true) : LesR ((l.map c).take i.toNat ++ [cs] ++ (l.map c).drop i.toNat) (l2.map c) := by
  obtain ⟨_, _, _, _, rfl⟩ := gins_some hg
  rw [List.map_append, List.map_append, List.map_take, List.map_drop]
  refine LesR.append (LesR.append (LesR.refl fun cs hc => ?_) (.cons hz (hone z) .nil)) (LesR.refl fun cs hc => ?_)
  · obtain ⟨x, _, rfl⟩ := List.mem_map.1 (List.mem_of_mem_take hc)
    exact hone x
  · obtain ⟨x, _, rfl⟩ := List.mem_map.1 (List.mem_of_mem_drop hc)
    exact hone x
end
end Go.PW
