/-
  PwSortFn: slices.SortFunc over rows of structs whose cells lie in no block, as a contract that changes a row.
-/
import Derived.Test.YtlkknmhhefjmjaaDoorPwSort
import Derived.Shelf.GgSortFunc.InsertionK
import Derived.Sort.AssemblyPlain
import Derived.Test.YtlkknmhhefjmjaaDoorPwBytes
namespace Go.PW
open Go.RowKit Go.Proofs Go.Sort
variable {P : Program} {f : FuncId} {α : Type} [Inhabited α]
theorem take_flat {α : Type} [Inhabited α] {enc : α → List Value} {sz : Nat} {ts : List α} (hlen : ∀ x, (enc x).length = sz) {i j : Nat} {x : α} {v : Value} (hi : ts[i]? = some x) (hj : (enc x)[j]? = some v) :
    i * sz + j < ts.length * sz ∧ (flatK enc sz ts.toArray)[i * sz + j]! = v := by
  have hil : i < ts.length := (List.getElem?_eq_some_iff.1 hi).1
  have hjl : j < sz := by rw [← hlen x]; exact (List.getElem?_eq_some_iff.1 hj).1
  have hlt : i * sz + j < ts.length * sz := by
    have := Nat.mul_le_mul_right sz (show i + 1 ≤ ts.length from hil); rw [Nat.add_mul, Nat.one_mul] at this; omega
  refine ⟨hlt, ?_⟩
  have e1 : (i * sz + j) / sz = i := (blk_iff sz i _ (by omega)).1 ⟨by omega, by omega⟩
  have e2 : (i * sz + j) % sz = j := by rw [Nat.mod_eq_sub_div_mul, e1]; omega
  rw [get_flatK _ _ _ _ (by simpa using hlt), e1, e2]
  have hx : ts.toArray[i]! = x := by
    rw [getElem!_pos _ i (by simpa using hil)]
    simpa using (List.getElem?_eq_some_iff.1 hi).2
  rw [hx]
  have hje : j < (enc x).length := by rw [hlen]; exact hjl
  rw [getElem!_pos _ j hje]
  exact (List.getElem?_eq_some_iff.1 hj).2
theorem heap_sortedK {w : World} {g n : Nat} {os : Array Obj} {cur : Array Value} {e : TypeId} {fr : Nat × Nat} (F : Array Value) (hb : w.heap[g]? = some (.cells cur e fr)) :
    (grow (putRow id (Sort.ahead w n) g 0 F) os).heap[g]? = some (.cells (putCells id 0 F cur) e fr) := by
  have hg : g < w.heap.size := (Array.getElem?_eq_some_iff.1 hb).1
  rw [heap_grow_old _ _ (by simpa using hg)]
  simp [putRow, mapBlock, Sort.ahead, Array.getElem?_modify, hb, onCells]
theorem grownBy_sortedK {w : World} {g n : Nat} {os : Array Obj} (F : Array Value) : w.grownBy (grow (putRow id (Sort.ahead w n) g 0 F) os) (some g) := by
  refine ⟨rfl, rfl, rfl, by simp, fun k hk hne => ?_⟩
  rw [heap_grow_old _ _ (by simpa using hk)]
  have : g ≠ k := fun e => hne (by rw [e])
  simp [putRow, mapBlock, Sort.ahead, Array.getElem?_modify, this]
theorem take_putCellsK (cur F : Array Value) (h : F.size ≤ cur.size) : (putCells id 0 F cur).toList.take F.size = F.toList := by
  apply List.ext_getElem?
  intro j
  by_cases hj : j < F.size
  · rw [List.getElem?_take_of_lt hj, Array.getElem?_toList]
    simp [putCells, hj, show j < cur.size by omega]
  · rw [List.getElem?_take_eq_none (by omega), List.getElem?_eq_none (by simp; omega)]
structure Plainly (c : α → List PV) (enc : α → List Value) (sz : Nat) : Prop where
  len : ∀ x, (enc x).length = sz
  cl : ∀ x, (c x).length = sz
  one : ∀ x, ∀ p ∈ c x, p.one = true
  val : ∀ (C : Ctx) (v : Value) (x : α) (j : Nat) (p : PV), (c x)[j]? = some p → RV C v p → (enc x)[j]? = some v ∧ ∀ w I, DV w I v p
theorem PMut.sortK {e : TypeId} {sz : Nat} {c : α → List PV} {enc : α → List Value} {ss ts : List α} {g : Nat} (hp : Plainly c enc sz) (hm : ∀ x ∈ ts, x ∈ ss) (hl : ts.length = ss.length)
    (hsort : ∀ (blk off cap : Nat) (w : World), HoldsK enc sz w blk off ss.toArray → blk < w.heap.size → ss.length < 4611686018427387904 →
      Calls P f #[.slice (some ⟨blk, off, none⟩) ss.length cap, .func (.func g) #[] #[]] w fun r w' => r = .returned (.tuple #[]) ∧ ∃ n os, w' = sortWorldK enc sz w blk off n ts.toArray os)
    (hnil : ∀ w, Calls P f #[.slice none 0 0, .func (.func g) #[] #[]] w fun r w' => r = .returned (.tuple #[]) ∧ w.grownBy w' none) :
    PMut P f [.own 1 0, .fn g [] []] [(1, ⟨0, e, sz, List.map c ss, true, false, false⟩)] (.tup []) [(1, ⟨0, e, sz, List.map c ts, true, false, false⟩)] := by
  intro w hd I gh vs M hlv hv
  obtain ⟨v0, v1, rfl⟩ : ∃ v u, vs = [v, u] := by
    match vs, hlv with
    | [v, u], _ => exact ⟨v, u, rfl⟩
  have h0 := hv 0 v0 _ rfl rfl
  have hv0 : v0 = hd 1 := by
    cases h0 with
    | data _ _ h => cases h
    | own _ _ _ _ _ h => exact h _ ((live1 rfl rfl).2 ⟨rfl, rfl, rfl⟩)
  subst hv0
  have h1' := hv 1 v1 _ rfl rfl
  have hv1 : v1 = .func (.func g) #[] #[] := by
    cases h1' with
    | data _ _ h => cases h with
      | fn _ vf vc _ _ h1 h2 _ _ =>
        have e1 := Array.eq_empty_of_size_eq_zero (by simpa using h1)
        have e2 := Array.eq_empty_of_size_eq_zero (by simpa using h2)
        subst e1 e2; rfl
    | fn _ vf vc _ _ h1 h2 _ _ =>
      have e1 := Array.eq_empty_of_size_eq_zero (by simpa using h1)
      have e2 := Array.eq_empty_of_size_eq_zero (by simpa using h2)
      subst e1 e2; rfl
  subst hv1
  obtain ⟨xs, hown, hbig, hel⟩ := M.rows 1 0 ⟨0, e, sz, List.map c ss, true, false, false⟩ ((live1 rfl rfl).2 ⟨rfl, rfl, rfl⟩)
  simp only [List.length_map] at hown hbig
  have hcell : ∀ (x : α), x ∈ ss → ∀ (j : Nat) (p : PV), (c x)[j]? = some p → ∃ v, (enc x)[j]? = some v ∧ ∀ w I, DV w I v p := by
    intro x hx j p hj
    obtain ⟨i, hi, rfl⟩ := List.getElem_of_mem hx
    obtain ⟨_, _, hk⟩ := hel i (c ss[i]) (by simp [hi])
    obtain ⟨v, _, hr, _⟩ := hk j p hj
    exact ⟨v, hp.val _ _ _ _ _ hj hr⟩
  have hxs : xs = (flatK enc sz ss.toArray).toList := by
    have hlen : xs.length = ss.length * sz := by have := hown.1; simpa using this
    apply List.ext_getElem?
    intro t
    by_cases ht : t < ss.length * sz
    · have hsz : 0 < sz := by rcases Nat.eq_zero_or_pos sz with h | h
                              · subst h; simp at ht
                              · exact h
      have hi : t / sz < ss.length := by rw [Nat.div_lt_iff_lt_mul hsz]; exact ht
      have hj : t % sz < sz := Nat.mod_lt _ hsz
      obtain ⟨_, _, hk⟩ := hel (t / sz) (c ss[t / sz]) (by simp [hi])
      have hjl : t % sz < (c ss[t / sz]).length := by rw [hp.cl]; exact hj
      obtain ⟨v, hx, hr, _⟩ := hk (t % sz) _ (List.getElem?_eq_getElem hjl)
      obtain ⟨h2, _⟩ := hp.val _ _ _ _ _ (List.getElem?_eq_getElem hjl) hr
      have htt : t / sz * sz + t % sz = t := by have := Nat.div_add_mod t sz; rw [Nat.mul_comm] at this; exact this
      obtain ⟨h3, h4⟩ := take_flat hp.len (List.getElem?_eq_getElem hi) h2
      simp only at hx
      rw [htt] at h3 h4 hx
      rw [hx, Array.getElem?_toList]
      have h5 : t < (flatK enc sz ss.toArray).size := by simpa using h3
      rw [getElem!_pos _ t h5] at h4
      rw [Array.getElem?_eq_getElem h5, h4]
    · rw [List.getElem?_eq_none (by omega), List.getElem?_eq_none (by simp; omega)]
  subst hxs
  have key : ∀ w', w.grownBy w' (hd 1).ownBlock → w'.ownsRow 0 e sz (hd 1) ts.length (flatK enc sz ts.toArray).toList →
      ∃ v hd', Ending.returned (Value.tuple #[]) = .returned v ∧ MemInv ⟨w, 0, Nat.zero_le _⟩ ⟨w', [(1, ⟨0, e, sz, List.map c ts, true, false, false⟩)], hd', 2, fun b => I b ∨ w.heap.size ≤ b, gh⟩ ∧
        RV ⟨w', [(1, ⟨0, e, sz, List.map c ts, true, false, false⟩)], hd', 2, fun b => I b ∨ w.heap.size ≤ b, gh⟩ v (.tup []) ∧
        (∀ nm e0 e', live [(1, ⟨0, e, sz, List.map c ss, true, false, false⟩)] nm 0 = some e0 → live [(1, ⟨0, e, sz, List.map c ts, true, false, false⟩)] nm 0 = some e' → hd' nm = hd nm) ∧
        ∀ b, b < w.heap.size → free [(1, ⟨0, e, sz, List.map c ss, true, false, false⟩)] hd b → free [(1, ⟨0, e, sz, List.map c ts, true, false, false⟩)] hd' b ∧ w'.heap[b]? = w.heap[b]? := by
    intro w' hg ho
    have lv : ∀ {nm ver e0}, live [(1, (⟨0, e, sz, List.map c ts, true, false, false⟩ : Ent))] nm ver = some e0 → nm = 1 ∧ ver = 0 ∧ e0 = ⟨0, e, sz, List.map c ts, true, false, false⟩ := by
      intro nm ver e0 h
      exact (live1 rfl rfl).1 h
    have lv1 : live [(1, (⟨0, e, sz, List.map c ss, true, false, false⟩ : Ent))] 1 0 = some ⟨0, e, sz, List.map c ss, true, false, false⟩ := (live1 rfl rfl).2 ⟨rfl, rfl, rfl⟩
    refine ⟨_, hd, rfl, ⟨M.i0, ?_, ?_, ?_, ?_, ?_⟩, .tup #[] [] rfl (fun j v p h => by simp at h), fun _ _ _ _ _ => rfl, ?_⟩
    · exact (Go.RowKit.Below.refl 0 w).grown hg (Nat.zero_le _) (fun k _ => Nat.zero_le _)
    · intro nm e0 h
      simp only [look] at h
      by_cases hn : 1 = nm
      · simp [hn] at h; subst h; simp
      · simp [hn] at h
    · intro nm ver e0 h
      obtain ⟨rfl, rfl, rfl⟩ := lv h
      refine ⟨_, by simpa using ho, by simpa [hl] using hbig, ?_⟩
      intro i cs hi
      simp only [List.getElem?_map, Option.map_eq_some_iff] at hi
      obtain ⟨s, hs, rfl⟩ := hi
      have hmem : s ∈ ss := hm s (List.mem_of_getElem? hs)
      refine ⟨hp.cl s, hp.one s, ?_⟩
      intro j p hj
      have hj : (c s)[j]? = some p := hj
      obtain ⟨v, h1, h2⟩ := hcell s hmem j p hj
      obtain ⟨h3, h4⟩ := take_flat hp.len hs h1
      refine ⟨v, ?_, .data _ _ (h2 _ _), fun _ => h2 _ _⟩
      have h5 : i * sz + j < (flatK enc sz ts.toArray).size := by simpa using h3
      rw [getElem!_pos (flatK enc sz ts.toArray) _ h5] at h4
      show (flatK enc sz ts.toArray).toList[i * sz + j]? = some v
      rw [Array.getElem?_toList, Array.getElem?_eq_getElem h5, h4]
    · intro nm nm' ver ver' e0 e1 b hne h1 h2
      exact absurd ((lv h1).1.trans (lv h2).1.symm) hne
    · intro nm ver e0 b h hb
      obtain ⟨rfl, rfl, rfl⟩ := lv h
      exact M.own0 1 0 _ b lv1 hb
    · intro b hb hf
      have hne : (hd 1).ownBlock ≠ some b := hf 1 0 _ lv1
      refine ⟨?_, hg.block b hb (fun e => hne e.symm)⟩
      intro nm ver e0 h
      obtain ⟨rfl, rfl, rfl⟩ := lv h
      exact hne
  rcases hown.2 with ⟨hn, h0⟩ | ⟨g', cap, cur, hh, hbase, hb, h1, h2, h3, h4⟩
  · have hs0 : ss = [] := List.eq_nil_of_length_eq_zero h0
    rw [hn]
    refine (hnil w).mono ?_
    rintro r w' ⟨rfl, hg⟩
    refine key w' (by rw [hn]; exact hg) ?_
    subst hs0
    have ht0 : ts = [] := List.eq_nil_of_length_eq_zero hl
    subst ht0
    exact ⟨by simp, .inl ⟨hn, by simp⟩⟩
  · rw [hh]
    have hle : (flatK enc sz ss.toArray).size ≤ cur.size := by
      rw [size_flatK, h3]
      simpa using Nat.mul_le_mul_right sz h1
    have hbl : ss.length < 4611686018427387904 := by
      have : big < 4611686018427387904 := by decide
      omega
    refine (hsort g' 0 cap w ?_ (Array.getElem?_eq_some_iff.1 hb).1 hbl).mono ?_
    · intro j hj
      refine ⟨?_, by simp [World.frozen?, hb]⟩
      have hj2 : j < ss.length * sz := by simpa using hj
      simp only [World.cell?, hb, Nat.zero_add, Option.isSome_none, Bool.false_eq_true, if_false]
      have h5 : (cur.toList.take (ss.length * sz))[j]? = (flatK enc sz ss.toArray).toList[j]? := by rw [h4]
      rw [List.getElem?_take_of_lt hj2] at h5
      rw [← Array.getElem?_toList, h5, Array.getElem?_toList, Array.getElem?_eq_getElem hj, getElem!_pos (flatK enc sz ss.toArray) _ hj]
      rfl
    · rintro r w' ⟨rfl, n, os, rfl⟩
      refine key _ (by rw [hh]; exact grownBy_sortedK _) ?_
      rw [hh]
      have hft : (flatK enc sz ts.toArray).size ≤ cur.size := by
        rw [size_flatK] at hle ⊢
        simpa [hl] using hle
      refine ⟨by simp, .inr ⟨g', cap, _, by rw [hl], hbase, heap_sortedK _ hb, by omega, h2, by simp [putCells, h3], ?_⟩⟩
      have := take_putCellsK cur (flatK enc sz ts.toArray) hft
      rw [size_flatK] at this
      simpa using this
theorem plainly_strInt {β : Type} {c : β → List PV} {enc : β → List Value} (s : β → List UInt8) (n : β → Int) (hc : ∀ x, c x = [.str (s x), .int .i64 (n x)]) (he : ∀ x, enc x = [.string ⟨(s x).toArray⟩, .int .i64 (n x)]) : Plainly c enc 2 := by
  refine ⟨fun x => by simp [he], fun x => by simp [hc], fun x p hp => ?_, fun C v x j p hj hr => ?_⟩
  · rw [hc] at hp
    simp at hp
    rcases hp with rfl | rfl <;> rfl
  · rw [hc] at hj
    rw [he]
    match j, hj with
    | 0, hj =>
      simp at hj; subst hj
      cases hr with
      | data _ _ h => cases h with
        | str _ hb => exact ⟨rfl, fun _ _ => .str _ hb⟩
    | 1, hj =>
      simp at hj; subst hj
      cases hr with
      | data _ _ h => cases h with
        | int => exact ⟨rfl, fun _ _ => .int _ _⟩
    | j + 2, hj => simp at hj
section
def sortTie [DecidableEq α] (cf : α → α → Int) (l : List α) : List α :=
  if ∀ x ∈ l, ∀ y ∈ l, cf x y = 0 → x = y then l.mergeSort (fun x y => !decide (cf y x < 0)) else (pdq (fun x y => decide (cf x y < 0)) l.toArray 0 l.length (Lib.bitLen l.length) true true).toList
structure CmpOk (cf : α → α → Int) : Prop where
  swo : SWO (fun x y => decide (cf x y < 0))
  tie : ∀ x y, ¬ cf x y < 0 → ¬ cf y x < 0 → cf x y = 0
variable {cf : α → α → Int}
theorem pdq_perm (h : SWO (fun x y : α => decide (cf x y < 0))) (l : List α) :
    (pdq (fun x y => decide (cf x y < 0)) l.toArray 0 l.length (Lib.bitLen l.length) true true).toList.Perm l ∧
    (pdq (fun x y => decide (cf x y < 0)) l.toArray 0 l.length (Lib.bitLen l.length) true true).toList.Pairwise (fun x y => ¬ cf y x < 0) := by
  obtain ⟨⟨h1, _, h3⟩, h4⟩ := pdq_sorts (fun x y => decide (cf x y < 0)) h l.toArray 0 l.length (Lib.bitLen l.length) true true (Nat.zero_le _) (by simp) (Or.inl rfl)
  generalize pdq (fun x y => decide (cf x y < 0)) l.toArray 0 l.length (Lib.bitLen l.length) true true = r at h1 h3 h4 ⊢
  have hs : r.size = l.length := by simpa using h1
  constructor
  · have e1 : (r.extract 0 l.length).toList = r.toList := by rw [← hs]; simp
    have e2 : (l.toArray.extract 0 l.length).toList = l := by simp
    rwa [e1, e2] at h3
  · rw [List.pairwise_iff_getElem]
    intro i j hi hj hij
    have hi' : i < r.size := by simpa using hi
    have hj' : j < r.size := by simpa using hj
    have := h4 i j (Nat.zero_le _) hij (by omega)
    rw [getElem!_pos r i hi', getElem!_pos r j hj'] at this
    simpa using this
theorem merge_perm {β : Type} {cf : β → β → Int} (h : CmpOk cf) (l : List β) : (l.mergeSort (fun x y => !decide (cf y x < 0))).Perm l ∧ (l.mergeSort (fun x y => !decide (cf y x < 0))).Pairwise (fun x y => ¬ cf y x < 0) := by
  refine ⟨List.mergeSort_perm _ _, ?_⟩
  have := List.pairwise_mergeSort (le := fun x y => !decide (cf y x < 0)) (fun a b c h1 h2 => by
    have := h.swo.ntrans c b a (by simpa using h2) (by simpa using h1)
    simpa using this) (fun a b => by
    by_cases h1 : cf b a < 0
    · have : ¬ cf a b < 0 := by
        intro h2
        have h3 := h.swo.trans a b a (by simpa using h2) (by simpa using h1)
        rw [h.swo.irrefl] at h3; cases h3
      simp [this]
    · simp [h1]) l
  exact this.imp fun hab => by simpa using hab
theorem sortTie_eq [DecidableEq α] (h : CmpOk cf) (l : List α) : sortTie cf l = (pdq (fun x y => decide (cf x y < 0)) l.toArray 0 l.length (Lib.bitLen l.length) true true).toList := by
  unfold sortTie
  split
  · rename_i ht
    obtain ⟨p1, s1⟩ := merge_perm h l
    obtain ⟨p2, s2⟩ := pdq_perm h.swo l
    refine (p1.trans p2.symm).eq_of_pairwise (le := fun x y => ¬ cf y x < 0) (fun a b ha hb h1 h2 => ht a (p1.mem_iff.1 ha) b (p2.mem_iff.1 hb) (h.tie a b h2 h1)) s1 s2
  · rfl
theorem sortTie_perm [DecidableEq α] (h : CmpOk cf) (l : List α) : (sortTie cf l).Perm l := by rw [sortTie_eq h]; exact (pdq_perm h.swo l).1
theorem sortTie_pairwise [DecidableEq α] (h : CmpOk cf) (l : List α) : (sortTie cf l).Pairwise (fun x y => ¬ cf y x < 0) := by rw [sortTie_eq h]; exact (pdq_perm h.swo l).2
theorem cmpOk_bytes (p : α → List UInt8) : CmpOk (fun x y => libCompare (p x) (p y)) := ⟨swoBytes p, tieBytes p⟩
theorem sortTie_length [DecidableEq α] (h : CmpOk cf) (l : List α) : (sortTie cf l).length = l.length := (sortTie_perm h l).length_eq
end
section
variable {d nm v : Nat} {elem : TypeId} {sz : Nat} {es es' : List (List PV)} {nw : Bool} {sl : List (Nat × PV)} {m : List (Nat × Ent)} {g gf : Nat} {r : List LOper} {acc : List Log} {K : List Log → St → Prop}
theorem W.rowCallF {f : FuncId} {xas : List LX} (h : PMut P f [.own 1 0, .fn gf [] []] [(1, ⟨0, elem, sz, es, true, false, false⟩)] (.tup []) [(1, ⟨0, elem, sz, es', true, false, false⟩)]) (hx : lxs sl xas = some [.own nm v, .fn gf [] []])
    (hm : look m nm = some ⟨v, elem, sz, es, true, nw, false⟩) (hl : es'.length = es.length) (hu : (r.all fun o => o.dst != some d) = true)
    (kk : W P r ((d :: [nm, nm, nm], [nm]) :: acc) ⟨(d, .tup []) :: sl, (nm, ⟨v, elem, sz, es', true, nw, false⟩) :: m, g⟩ K) : W P (⟨some d, none, .call f xas⟩ :: r) acc ⟨sl, m, g⟩ K := by
  refine W.callM (fun _ => (nm, v)) (fun _ => nm) h hx ?_ (res' := .tup []) (up := [(nm, ⟨v, elem, sz, es', true, nw, false⟩)]) rfl ?_ rfl hu kk
  · refine ⟨rfl, ?_, by simp [look], by simp [look], ?_, ?_, ?_, ?_, rfl⟩
    · intro j x p h1 h2
      match j, h1, h2 with
      | 0, h1, h2 => cases h1; cases h2; exact .tok rfl rfl
      | 1, h1, h2 => cases h1; cases h2; exact .data rfl (.refl _)
    · intro x hx y hy hne
      simp at hx hy; subst hx hy; exact absurd rfl hne
    · intro x hx y hy hne
      simp at hx hy; subst hx hy; exact absurd rfl hne
    · intro x hx
      simp at hx; subst hx
      exact ⟨⟨rfl, rfl, rfl⟩, ⟨v, elem, sz, es, true, nw, false⟩, by simp [liveF, hm], rfl, rfl, .inl ⟨rfl, rfl, rfl⟩⟩
    · intro x hx
      simp at hx; subst hx
      refine ⟨⟨rfl, rfl, rfl⟩, ?_, ?_, .inl rfl⟩
      · intro e0 h0; simp [look] at h0; subst h0; exact ⟨rfl, hl⟩
      · intro h0; simp [look] at h0
  · simp [Mut.up, Mut.post, Mut.ent, Mut.gone, hm]
end
end Go.PW
