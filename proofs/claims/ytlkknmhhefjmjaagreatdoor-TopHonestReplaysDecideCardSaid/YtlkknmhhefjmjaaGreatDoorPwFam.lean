/-
 PwFam: a row of rows: the inner rows are a family, under the names B, B + 1, ..
-/
import Derived.Test.YtlkknmhhefjmjaaGreatDoorPwInl
namespace Go.PW
open Go.RowKit
noncomputable section
theorem Wk.eqv {st st' : St} (h1 : look st'.slots = look st.slots) (h2 : look st'.mem = look st.mem) (h3 : st'.gen = st.gen) : Wk st st' := fun _ _ _ _ _ hd R => ⟨hd, R.eqv h1 h2 h3⟩
section
variable {α : Type}
def famE (elem sz : Nat) (c : α → List PV) (xs : List α) : Ent := ⟨0, elem, sz, xs.map c, true, false, false⟩
def fam (B elem sz : Nat) (c : α → List PV) : List (List α) → List (Nat × Ent)
 | [] => []
 | xs :: r => (B, famE elem sz c xs) :: fam (B + 1) elem sz c r
def outr (B : Nat) : Nat → List (List PV)
 | 0 => []
 | n + 1 => [.own B 0] :: outr (B + 1) n
def idf (B : Nat) : Nat → Ren
 | 0 => []
 | n + 1 => (B, B) :: idf (B + 1) n
variable {B elem sz : Nat} {c : α → List PV} {xss : List (List α)}
theorem look_fam : ∀ {xss : List (List α)} {B n : Nat}, look (fam B elem sz c xss) n = if B ≤ n then (xss[n - B]?).map (famE elem sz c) else none
 | [], B, n => by simp [fam, look]
 | xs :: r, B, n => by
  simp only [fam, look]
  by_cases h : B = n
  ·subst h; simp
  ·rw [if_neg h, look_fam]
   by_cases h2 : B ≤ n
   ·rw [if_pos h2, if_pos (by omega)]
    obtain ⟨k, rfl⟩ : ∃ k, n = B + 1 + k := ⟨n - B - 1, by omega⟩
    have e1 : B + 1 + k - (B + 1) = k := by omega
    have e2 : B + 1 + k - B = k + 1 := by omega
    rw [e1, e2, List.getElem?_cons_succ]
   ·rw [if_neg h2, if_neg (by omega)]
theorem look_fam_lt {n : Nat} (h : n < B) : look (fam B elem sz c xss) n = none := by rw [look_fam, if_neg (by omega)]
theorem look_fam_at {i : Nat} {xs : List α} (h : xss[i]? = some xs) : look (fam B elem sz c xss) (B + i) = some (famE elem sz c xs) := by
 rw [look_fam, if_pos (by omega), Nat.add_sub_cancel_left, h]; rfl
theorem outr_len : ∀ (B n : Nat), (outr B n).length = n
 | _, 0 => rfl
 | B, n + 1 => by simp [outr, outr_len (B + 1) n]
theorem outr_at : ∀ {B n i : Nat}, i < n → (outr B n)[i]? = some [.own (B + i) 0]
 | B, n + 1, 0, _ => rfl
 | B, n + 1, i + 1, h => by
  simp only [outr, List.getElem?_cons_succ]
  rw [outr_at (B := B + 1) (n := n) (i := i) (by omega), show B + 1 + i = B + (i + 1) by omega]
theorem outr_snoc : ∀ (B n : Nat), outr B n ++ [[.own (B + n) 0]] = outr B (n + 1)
 | B, 0 => rfl
 | B, n + 1 => by
  have := outr_snoc (B + 1) n
  simp only [outr, List.cons_append] at this ⊢
  rw [show B + (n + 1) = B + 1 + n by omega, this]
theorem idf_mem : ∀ {B n : Nat} {x : Nat × Nat}, x ∈ idf B n ↔ x.1 = x.2 ∧ B ≤ x.1 ∧ x.1 < B + n
 | B, 0, x => by simp only [idf, List.not_mem_nil, false_iff]; omega
 | B, n + 1, x => by
  simp only [idf, List.mem_cons, idf_mem]
  constructor
  ·rintro (rfl | h)
   ·simp
   ·omega
  ·rintro ⟨h1, h2, h3⟩
   by_cases h : x.1 = B
   ·left; exact Prod.ext h (by rw [← h1, h])
   ·right; omega
theorem look_idf : ∀ {n B k : Nat}, look (idf B n) k = if B ≤ k ∧ k < B + n then some k else none
 | 0, B, k => by rw [if_neg (by omega)]; rfl
 | n + 1, B, k => by
  simp only [idf, look]
  by_cases h : B = k
  ·subst h; simp
  ·rw [if_neg h, look_idf]
   by_cases h2 : B ≤ k ∧ k < B + (n + 1)
   ·rw [if_pos h2, if_pos (by omega)]
   ·rw [if_neg h2, if_neg (by omega)]
def below (B : Nat) (L : List (Nat × Ent)) : Bool := L.all fun x => decide (x.1 < B)
def belowR (B : Nat) (ρ : Ren) : Bool := ρ.all fun x => decide (x.1 < B) && decide (x.2 < B)
def pushR (B k : Nat) : Option Nat → Ren
 | none => []
 | some d => [(d, B + k)]
theorem below_none {L : List (Nat × Ent)} {n : Nat} (h : below B L = true) (hn : B ≤ n) : look L n = none := lk_none fun x hx he => by
 unfold below at h
 have := List.all_eq_true.1 h x hx
 simp at this; omega
theorem look_mem_fam {L : List (Nat × Ent)} (h : below B L = true) (n : Nat) : look (L ++ fam B elem sz c xss) n = if B ≤ n then (xss[n - B]?).map (famE elem sz c) else look L n := by
 rw [lk_app, look_fam]
 by_cases hn : B ≤ n
 ·rw [if_pos hn, if_pos hn, below_none h hn]; rfl
 ·rw [if_neg hn, if_neg hn]; cases look L n <;> rfl
def tokX (L : List (Nat × Ent)) (ρ : Ren) (B k nm ver : Nat) : Nat × Nat :=
 if B ≤ nm then (if ver = 0 ∧ nm < B + k then (nm, 0) else (nm, 1)) else tokR L ρ nm ver
def gX (L : List (Nat × Ent)) (ρ : Ren) (B k : Nat) : PV → PV
 | .own nm v => .own (tokX L ρ B k nm v).1 (tokX L ρ B k nm v).2
 | .sub nm v a b => .sub (tokX L ρ B k nm v).1 (tokX L ρ B k nm v).2 a b
 | .pown nm v a b => .pown (tokX L ρ B k nm v).1 (tokX L ρ B k nm v).2 a b
 | .agg _ => .top
 | .tup _ => .top
 | .fn .. => .top
 | p => p
theorem tokX_eq {L : List (Nat × Ent)} {ρ : Ren} (hL : below B L = true) (hρ : ∀ x ∈ ρ, x.1 < B) (nm ver : Nat) : tokR (L ++ fam B elem sz c xss) (ρ ++ idf B xss.length) nm ver = tokX L ρ B xss.length nm ver := by
 have hρn : ∀ n, B ≤ n → look ρ n = none := fun n hn => lk_none fun x hx he => by
  have := hρ x hx
  omega
 unfold tokX tokR live
 rw [look_mem_fam hL]
 by_cases hn : B ≤ nm
 ·simp only [if_pos hn]
  rw [lk_app, hρn nm hn, look_idf]
  by_cases hlt : nm < B + xss.length
  ·have hx : xss[nm - B]? = some (xss[nm - B]'(by omega)) := List.getElem?_eq_getElem (by omega)
   rw [hx]
   simp only [Option.map_some, famE]
   by_cases hv : ver = 0
   ·subst hv
    simp [hn, hlt]
   ·have : ¬ (0 = ver ∧ True) := by omega
    simp [hv, Ne.symm hv, hlt]
  ·have hx : xss[nm - B]? = none := List.getElem?_eq_none (by omega)
   rw [hx]
   simp [hlt]
 ·simp only [if_neg hn]
  have hl : look (ρ ++ idf B xss.length) nm = look ρ nm := by
   rw [lk_app, look_idf, if_neg (by omega)]; cases look ρ nm <;> rfl
  rw [hl]
theorem gX_eq {L : List (Nat × Ent)} {ρ : Ren} (hL : below B L = true) (hρ : ∀ x ∈ ρ, x.1 < B) : gR (L ++ fam B elem sz c xss) (ρ ++ idf B xss.length) = gX L ρ B xss.length := by
 funext p
 cases p <;> simp only [gR, gX, tokX_eq hL hρ]
theorem ok_idf {ρ : Ren} {B k : Nat} (h : ρ.ok = true) (h1 : ∀ x ∈ ρ, x.1 < B ∧ (x.2 < B ∨ B + k ≤ x.2)) : Ren.ok (ρ ++ idf B k) = true := by
 unfold Ren.ok
 rw [List.all_eq_true]
 intro x hx
 rw [List.all_eq_true]
 intro y hy
 have key : (x.1 = y.1 ↔ x.2 = y.2) := by
  rcases List.mem_append.1 hx with hx | hx <;> rcases List.mem_append.1 hy with hy | hy
  ·exact ren_ok h hx hy
  ·have a := h1 x hx; have b := idf_mem.1 hy; omega
  ·have a := h1 y hy; have b := idf_mem.1 hx; omega
  ·have a := idf_mem.1 hx; have b := idf_mem.1 hy; omega
 by_cases h2 : x.1 = y.1
 ·simp [h2, key.1 h2]
 ·have h3 : ¬ x.2 = y.2 := fun e => h2 (key.2 e)
  rw [beq_eq_false_iff_ne.2 h2, beq_eq_false_iff_ne.2 h3]; rfl
theorem memR_app (a b : Ren) (M : List (Nat × Ent)) : memR (a ++ b) M = (a.filterMap fun x => match look M x.1 with | some e => if e.dead then none else some (x.2, entR M (a ++ b) e) | none => none) ++ (b.filterMap fun x => match look M x.1 with | some e => if e.dead then none else some (x.2, entR M (a ++ b) e) | none => none) := by
 unfold memR
 rw [List.filterMap_append]
 rfl
theorem fam_back {M : List (Nat × Ent)} {ρ : Ren} : ∀ {xss : List (List α)} {B : Nat}, (∀ i xs, xss[i]? = some xs → look M (B + i) = some (famE elem sz c xs)) →
  ((idf B xss.length).filterMap fun x => match look M x.1 with | some e => if e.dead then none else some (x.2, entR M ρ e) | none => none) = fam B elem sz c xss
 | [], B, _ => rfl
 | xs :: r, B, h => by
  simp only [List.length_cons, idf, List.filterMap_cons]
  have h0 := h 0 xs rfl
  rw [Nat.add_zero] at h0
  simp only [h0]
  have : entR M ρ (famE elem sz c xs) = famE elem sz c xs := rfl
  rw [this]
  have ih := fam_back (M := M) (ρ := ρ) (xss := r) (B := B + 1) fun i ys hi => by rw [show B + 1 + i = B + (i + 1) by omega]; exact h (i + 1) ys (by simpa using hi)
  simp only [famE, Bool.false_eq_true, if_false, fam]
  rw [ih]
def entX (L : List (Nat × Ent)) (ρ : Ren) (B k : Nat) (e : Ent) : Ent := { e with ver := 0, new := false, es := if e.data then e.es else e.es.map (·.map (l1 (gX L ρ B k))) }
def memX (ρ : Ren) (o : Nat) (oes : List (List PV)) (ρ1 : Ren) (B k : Nat) (L : List (Nat × Ent)) : List (Nat × Ent) := ρ.filterMap fun x => match look L x.1 with
 | some e => if e.dead then none else some (x.2, if x.1 = o then { e with ver := 0, new := false, es := oes } else entX L ρ1 B k e)
 | none => none
theorem outr_map {g : PV → PV} : ∀ {n B : Nat}, (∀ i, i < n → l1 g (.own (B + i) 0) = .own (B + i) 0) → (outr B n).map (·.map (l1 g)) = outr B n
 | 0, _, _ => rfl
 | n + 1, B, h => by
  simp only [outr, List.map_cons, List.map_nil]
  have h0 := h 0 (by omega)
  rw [Nat.add_zero] at h0
  rw [h0, outr_map fun i hi => by rw [show B + 1 + i = B + (i + 1) by omega]; exact h (i + 1) (by omega)]
theorem Wk.nrmF (ks : List Nat) (ρ : Ren) (o : Nat) (push : Option (Nat × Nat × List α)) {sl sl' : List (Nat × PV)} {L L' : List (Nat × Ent)} {g : Nat} {eo : Ent}
  (hok : Ren.ok (ρ ++ pushR B xss.length (push.map (·.1))) = true) (hL : below B L = true) (hρ : belowR B ρ = true) (ho : look L o = some eo) (hod : eo.data = false)
  (hoes : eo.es = outr B xss.length ++ (match push with | some (d, v, _) => [[.own d v]] | none => []))
  (hp : ∀ d v xs, push = some (d, v, xs) → d < B ∧ ∃ e, liveF (look L) d v = some e ∧ e.elem = elem ∧ e.sz = sz ∧ e.data = true ∧ e.es = xs.map c)
  (hsl : (ks.filterMap fun t => (look sl t).map fun p => (t, l3 (gX L (ρ ++ pushR B xss.length (push.map (·.1))) B xss.length) p)) = sl')
  (hme : memX ρ o (outr B (xss.length + push.toList.length)) (ρ ++ pushR B xss.length (push.map (·.1))) B xss.length L = L') :
  Wk ⟨sl, L ++ fam B elem sz c xss, g⟩ ⟨sl', L' ++ fam B elem sz c (xss ++ (push.map (·.2.2)).toList), 2⟩ := by
 have hρ1 : ∀ x ∈ ρ ++ pushR B xss.length (push.map (·.1)), x.1 < B ∧ (x.2 < B ∨ B + xss.length ≤ x.2) := by
  intro x hx
  rcases List.mem_append.1 hx with hx | hx
  ·unfold belowR at hρ
   have := List.all_eq_true.1 hρ x hx
   simp at this; omega
  ·cases push with
   | none => simp [pushR] at hx
   | some d =>
    simp [pushR] at hx; subst hx
    exact ⟨(hp d.1 d.2.1 d.2.2 rfl).1, .inr (Nat.le_refl _)⟩
 have hlt : ∀ x ∈ ρ ++ pushR B xss.length (push.map (·.1)), x.1 < B := fun x hx => (hρ1 x hx).1
 have hG := gX_eq (elem := elem) (sz := sz) (c := c) (xss := xss) hL hlt
 have hlkM : ∀ n, n < B → look (L ++ fam B elem sz c xss) n = look L n := fun n hn => by rw [look_mem_fam hL, if_neg (by omega)]
 refine (Wk.nrm ks ((ρ ++ pushR B xss.length (push.map (·.1))) ++ idf B xss.length) (ok_idf hok hρ1) ⟨sl, L ++ fam B elem sz c xss, g⟩).trans (Wk.eqv ?_ ?_ rfl)
 ·unfold PW.nrm
  simp only [hG]
  rw [hsl]
 ·unfold PW.nrm
  simp only
  -- the rows
  have e1 : memR ((ρ ++ pushR B xss.length (push.map (·.1))) ++ idf B xss.length) (L ++ fam B elem sz c xss) =
    (memX ρ o (outr B (xss.length + push.toList.length)) (ρ ++ pushR B xss.length (push.map (·.1))) B xss.length L ++ (match push with | some (_, _, xs) => [(B + xss.length, famE elem sz c xs)] | none => [])) ++ fam B elem sz c xss := by
   rw [memR_app]
   congr 1
   ·rw [List.filterMap_append]
    congr 1
    ·unfold memX
     refine fm_congr fun x hx => ?_
     have hxB := hlt x (List.mem_append_left _ hx)
     rw [hlkM _ hxB]
     cases he : look L x.1 with
     | none => rfl
     | some e =>
      simp only
      by_cases hd : e.dead = true
      ·rw [if_pos hd, if_pos hd]
      ·rw [if_neg hd, if_neg hd]
       congr 2
       by_cases hxo : x.1 = o
       ·rw [if_pos hxo]
        have : e = eo := by rw [hxo, ho] at he; injection he with he; exact he.symm
        subst this
        unfold entR
        simp only [hod, Bool.false_eq_true, if_false, hoes, hG, List.map_append]
        rw [outr_map fun i hi => ?_]
        ·cases push with
         | none => simp
         | some d =>
          obtain ⟨d, v, xs⟩ := d
          obtain ⟨_, e2, h2, _⟩ := hp d v xs rfl
          have hl2 : look (ρ ++ pushR B xss.length (some d)) d = some (B + xss.length) := by
           cases hk : look (ρ ++ pushR B xss.length (some d)) d with
           | none =>
            obtain ⟨e', he'⟩ := mem_lk (l := ρ ++ pushR B xss.length (some d)) (n := d) (e := B + xss.length) (by simp [pushR])
            rw [hk] at he'; cases he'
           | some m =>
            have a := lk_mem hk
            have b : (d, B + xss.length) ∈ ρ ++ pushR B xss.length (some d) := by simp [pushR]
            rw [(ren_ok hok a b).1 rfl]
          have hdB := hlt (d, B + xss.length) (by simp [pushR])
          simp only [List.map_cons, List.map_nil, Option.map_some, Option.toList_some, List.length_singleton]
          rw [← outr_snoc]
          congr 2
          simp only [l1, gX, tokX]
          rw [if_neg (by simp only at hdB; omega)]
          unfold tokR
          rw [live_eq, h2]
          simp [hl2]
        ·simp only [l1, gX, tokX]
         rw [if_pos (by omega), if_pos ⟨by trivial, by omega⟩]
       ·rw [if_neg hxo]
        unfold entR entX
        simp only [hG]
    ·cases push with
     | none => rfl
     | some d =>
      obtain ⟨d, v, xs⟩ := d
      obtain ⟨hdB, e2, h2, h3, h4, h5, h6⟩ := hp d v xs rfl
      rw [← live_eq] at h2
      obtain ⟨k1, k2, k3⟩ := live_some.1 h2
      simp only [Option.map_some, pushR, List.filterMap_cons, List.filterMap_nil]
      rw [hlkM _ hdB, k1]
      simp only [k3, Bool.false_eq_true, if_false]
      congr 2
      unfold entR famE
      simp only [h5, if_true, h6, h3, h4, k3]
   ·exact fam_back fun i xs hi => by
     rw [look_mem_fam hL, if_pos (by omega), Nat.add_sub_cancel_left, hi]; rfl
  rw [e1, hme]
  funext n
  rw [lk_app, lk_app, lk_app]
  cases push with
  | none => simp [look]
  | some d =>
   obtain ⟨d, v, xs⟩ := d
   simp only [Option.map_some, Option.toList_some]
   cases look L' n with
   | some e => rfl
   | none =>
    simp only [Option.none_or, look_fam, look]
    by_cases hn : B + xss.length = n
    ·subst hn
     rw [if_pos rfl, if_pos (by omega), Nat.add_sub_cancel_left, List.getElem?_append_right (Nat.le_refl _), Nat.sub_self]
     rfl
    ·rw [if_neg hn]
     simp only [Option.none_or]
     by_cases hB : B ≤ n
     ·rw [if_pos hB, if_pos hB]
      by_cases hl : n - B < xss.length
      ·rw [List.getElem?_append_left hl]
      ·rw [List.getElem?_eq_none (l := xss ++ [xs]) (by rw [List.length_append, List.length_singleton]; omega), List.getElem?_eq_none (l := xss) (by omega)]
     ·rw [if_neg hB, if_neg hB]
theorem ok_push {ρ : Ren} {B k d : Nat} (h : ρ.ok = true) (hd : (ρ.all fun x => x.1 != d) = true) (hB : belowR B ρ = true) : Ren.ok (ρ ++ pushR B k (some d)) = true := by
 unfold Ren.ok
 rw [List.all_eq_true]
 intro x hx
 rw [List.all_eq_true]
 intro y hy
 have f : ∀ z ∈ ρ, z.1 ≠ d ∧ z.2 < B := fun z hz => by
  have a := List.all_eq_true.1 hd z hz
  have b := List.all_eq_true.1 hB z hz
  simp at a b
  exact ⟨a, b.2⟩
 have key : (x.1 = y.1 ↔ x.2 = y.2) := by
  rcases List.mem_append.1 hx with hx | hx <;> rcases List.mem_append.1 hy with hy | hy
  ·exact ren_ok h hx hy
  ·have a := f x hx; simp [pushR] at hy; subst hy; simp only; omega
  ·have a := f y hy; simp [pushR] at hx; subst hx; simp only; omega
  ·simp [pushR] at hx hy; subst hx hy; simp
 by_cases h2 : x.1 = y.1
 ·simp [h2, key.1 h2]
 ·have h3 : ¬ x.2 = y.2 := fun e => h2 (key.2 e)
  rw [beq_eq_false_iff_ne.2 h2, beq_eq_false_iff_ne.2 h3]; rfl
theorem Wk.nrmF0 (ks : List Nat) (ρ : Ren) (o : Nat) {sl sl' : List (Nat × PV)} {L L' : List (Nat × Ent)} {g : Nat} {eo : Ent}
  (hok : Ren.ok ρ = true) (hL : below B L = true) (hρ : belowR B ρ = true) (ho : look L o = some eo) (hod : eo.data = false) (hoes : eo.es = outr B xss.length)
  (hsl : (ks.filterMap fun t => (look sl t).map fun p => (t, l3 (gX L ρ B xss.length) p)) = sl') (hme : memX ρ o (outr B xss.length) ρ B xss.length L = L') :
  Wk ⟨sl, L ++ fam B elem sz c xss, g⟩ ⟨sl', L' ++ fam B elem sz c xss, 2⟩ := by
 have := Wk.nrmF (elem := elem) (sz := sz) (c := c) (xss := xss) ks ρ o none (sl := sl) (sl' := sl') (L := L) (L' := L') (g := g) (eo := eo) (by simpa [pushR] using hok) hL hρ ho hod (by simpa using hoes) (by intro d v xs h; cases h) (by simpa [pushR] using hsl) (by simpa [pushR] using hme)
 simpa using this
theorem Wk.nrmF1 (ks : List Nat) (ρ : Ren) (o d v : Nat) (xs : List α) {sl sl' : List (Nat × PV)} {L L' : List (Nat × Ent)} {g : Nat} {eo e2 : Ent}
  (hok : Ren.ok ρ = true) (hd : (ρ.all fun x => x.1 != d) = true) (hL : below B L = true) (hρ : belowR B ρ = true) (ho : look L o = some eo) (hod : eo.data = false) (hoes : eo.es = outr B xss.length ++ [[.own d v]])
  (hdB : d < B) (h2 : liveF (look L) d v = some e2) (h3 : e2.elem = elem ∧ e2.sz = sz ∧ e2.data = true ∧ e2.es = xs.map c)
  (hsl : (ks.filterMap fun t => (look sl t).map fun p => (t, l3 (gX L (ρ ++ pushR B xss.length (some d)) B xss.length) p)) = sl')
  (hme : memX ρ o (outr B (xss ++ [xs]).length) (ρ ++ pushR B xss.length (some d)) B xss.length L = L') :
  Wk ⟨sl, L ++ fam B elem sz c xss, g⟩ ⟨sl', L' ++ fam B elem sz c (xss ++ [xs]), 2⟩ := by
 have := Wk.nrmF (elem := elem) (sz := sz) (c := c) (xss := xss) ks ρ o (some (d, v, xs)) (sl := sl) (sl' := sl') (L := L) (L' := L') (g := g) (eo := eo) (ok_push hok hd hρ) hL hρ ho hod hoes (by intro d' v' xs' h; cases h; exact ⟨hdB, e2, h2, h3.1, h3.2.1, h3.2.2.1, h3.2.2.2⟩) hsl (by simpa using hme)
 simpa using this
theorem Wk.famSet {sl : List (Nat × PV)} {L : List (Nat × Ent)} {g i : Nat} {xs : List α} (hL : below B L = true) (hi : i < xss.length) :
  Wk ⟨sl, (B + i, famE elem sz c xs) :: (L ++ fam B elem sz c xss), g⟩ ⟨sl, L ++ fam B elem sz c (xss.set i xs), g⟩ := by
 refine Wk.eqv rfl ?_ rfl
 funext n
 simp only [look]
 rw [look_mem_fam hL, look_mem_fam hL]
 by_cases h : B + i = n
 ·subst h
  rw [if_pos rfl, if_pos (by omega), Nat.add_sub_cancel_left, List.getElem?_set_self hi]; rfl
 ·rw [if_neg h]
  by_cases hB : B ≤ n
  ·rw [if_pos hB, if_pos hB, List.getElem?_set_ne (by omega)]
  ·rw [if_neg hB, if_neg hB]
theorem row_dvI {w0 : Base} {C : Ctx} {nm ver : Nat} {e : Ent} {I : Nat → Prop} (M : MemInv w0 C) (he : live C.mem nm ver = some e) (hd : e.data = true) (h1 : ∀ b, (C.hd nm).ownBlock = some b → I b) (h2 : ∀ b, imm C.mem C.hd C.I0 b → I b) :
  DV C.w I (C.hd nm) (.list e.sz e.es) := by
 obtain ⟨ys, ho, hb, hc⟩ := M.rows nm ver e he
 rcases ho.2 with ⟨h3, h4⟩ | ⟨g, cap, cur, h3, hg, hh, hn, hm, hs, ht⟩
 ·have : e.es = [] := List.eq_nil_of_length_eq_zero h4
  rw [h3, this]; exact .list0 _ _ _ fun _ => rfl
 ·rw [h3]
  have hlt : g < C.w.heap.size := (Array.getElem?_eq_some_iff.1 hh).1
  refine .list ⟨g, 0, none⟩ cap e.sz e.es (fun i j => ys.getD (i * e.sz + j) undef) hn hb (h1 g (by rw [h3]; rfl)) hlt (fun i cs hi => ⟨(hc i cs hi).1, (hc i cs hi).2.1⟩) (fun i cs j p hi hj => ?_) fun i cs j p hi hj => ?_
  ·obtain ⟨u, a1, a2, a3⟩ := (hc i cs hi).2.2 j p hj
   rw [ho.cells (g := g) (by rw [h3]; rfl) _ u a1]
   simp [List.getD, a1]
  ·obtain ⟨u, a1, a2, a3⟩ := (hc i cs hi).2.2 j p hj
   simpa [List.getD, a1] using (a3 hd).mono (Nat.le_refl _) fun b _ hi => ⟨h2 b hi, rfl⟩
def gFF (o vo : Nat) (es : List (List PV)) : PV → PV
 | .own n v => if n = o ∧ v = vo then .list 1 es else .own n v
 | p => p
def entFF (o vo : Nat) (es : List (List PV)) (x : Ent) : Ent := if x.data then x else
 { x with es := x.es.map (·.map (l1 (gFF o vo es))), data := x.es.all fun cs => cs.all fun p => (l1 (gFF o vo es) p).isD }
def frzF (o vo : Nat) (es : List (List PV)) (sl : List (Nat × PV)) (L : List (Nat × Ent)) (g : Nat) : St :=
 { slots := sl.map fun x => (x.1, l3 (gFF o vo es) x.2), mem := L.map fun x => (x.1, if x.1 = o then { x.2 with dead := true } else entFF o vo es x.2), gen := g }
theorem gFF_one {o vo : Nat} {es : List (List PV)} (p : PV) (h : p.one = true) : (gFF o vo es p).one = true := by
 cases p <;> simp only [gFF] <;> first | exact h | (split <;> rfl)
theorem entFF_same (o vo : Nat) (es : List (List PV)) (x : Ent) : (entFF o vo es x).ver = x.ver ∧ (entFF o vo es x).new = x.new ∧ (entFF o vo es x).dead = x.dead ∧ (entFF o vo es x).sz = x.sz ∧ (entFF o vo es x).elem = x.elem ∧ (entFF o vo es x).es.length = x.es.length := by
 unfold entFF
 split
 ·exact ⟨rfl, rfl, rfl, rfl, rfl, rfl⟩
 ·exact ⟨rfl, rfl, rfl, rfl, rfl, by simp⟩
theorem look_map_key {β γ : Type} (f : Nat → β → γ) : ∀ (l : List (Nat × β)) (n : Nat), look (l.map fun x => (x.1, f x.1 x.2)) n = (look l n).map (f n)
 | [], n => rfl
 | (k, v) :: l, n => by
  simp only [List.map_cons, look]
  by_cases h : k = n
  ·subst h; rw [if_pos rfl, if_pos rfl]; rfl
  ·rw [if_neg h, if_neg h]; exact look_map_key f l n
theorem Wk.frzF (o vo : Nat) {sl : List (Nat × PV)} {L : List (Nat × Ent)} {g : Nat} {eo : Ent} {S : St} (hL : below B L = true) (ho : liveF (look L) o vo = some eo) (hes : eo.es = outr B xss.length) (hsz : eo.sz = 1)
  (h : PW.frzF o vo (xss.map (cL sz c)) sl L g = S) : Wk ⟨sl, L ++ fam B elem sz c xss, g⟩ S := by
 subst h
 intro w0 I0 N a w hdr R
 have M := R.mem
 let es := xss.map (cL sz c)
 let C : Ctx := { w, mem := L ++ fam B elem sz c xss, hd := hdr, gen := g, I0 := fun b => I0 b ∨ w0.w.heap.size ≤ b, gh := I0.gh }
 let C2 : Ctx := { C with mem := (PW.frzF o vo es sl L g).mem }
 have hlt : ∀ n e, look L n = some e → n < B := fun n e he => by
  by_cases hn : n < B
  ·exact hn
  ·rw [below_none hL (by omega)] at he; cases he
 have hlkC : ∀ n, n < B → look C.mem n = look L n := fun n hn => by show look (L ++ _) n = _; rw [look_mem_fam hL, if_neg (by omega)]
 rw [← live_eq] at ho
 have hoB := hlt o eo (live_some.1 ho).1
 have hoC : live C.mem o vo = some eo := by
  obtain ⟨a, b⟩ := live_some.1 ho
  exact live_some.2 ⟨by rw [hlkC _ hoB]; exact a, b⟩
 have hfC : ∀ i xs, xss[i]? = some xs → live C.mem (B + i) 0 = some (famE elem sz c xs) := fun i xs hi => live_some.2 ⟨by
  show look (L ++ _) _ = _
  rw [look_mem_fam hL, if_pos (by omega), Nat.add_sub_cancel_left, hi]; rfl, rfl, rfl⟩
 have hlv : ∀ n v x', live C2.mem n v = some x' → ∃ x, live C.mem n v = some x ∧ x' = entFF o vo es x ∧ n ≠ o ∧ n < B := by
  intro n v x' h
  obtain ⟨h1, h2, h3⟩ := live_some.1 h
  have h1 : look (L.map fun x => (x.1, if x.1 = o then { x.2 with dead := true } else entFF o vo es x.2)) n = some x' := h1
  rw [look_map_key (fun k x => if k = o then { x with dead := true } else entFF o vo es x), Option.map_eq_some_iff] at h1
  obtain ⟨x, h4, rfl⟩ := h1
  by_cases hn : n = o
  ·rw [if_pos hn] at h3; simp at h3
  ·rw [if_neg hn] at h2 h3
   obtain ⟨k1, k2, k3, _⟩ := entFF_same o vo es x
   have hnB := hlt n x h4
   exact ⟨x, live_some.2 ⟨by rw [hlkC _ hnB]; exact h4, by rw [← k1]; exact h2, by rw [← k3]; exact h3⟩, by rw [if_neg hn], hn, hnB⟩
 have hfree : ∀ b, free C.mem C.hd b → free C2.mem C2.hd b := fun b hf n v x' h => by
  obtain ⟨x, h1, _⟩ := hlv n v x' h
  exact hf n v x h1
 have hI : ∀ b, imm C.mem C.hd C.I0 b → imm C2.mem C2.hd C2.I0 b := fun b hi => ⟨hi.1, hfree b hi.2⟩
 have hout : ∀ nm ver e, live C.mem nm ver = some e → (nm = o ∨ B ≤ nm) → ∀ b, (C.hd nm).ownBlock = some b → imm C2.mem C2.hd C2.I0 b := by
  intro nm ver e he hnm b hb
  refine ⟨M.own0 nm ver e b he hb, fun n v x' h => ?_⟩
  obtain ⟨x, h1, _, h3, h4⟩ := hlv n v x' h
  exact M.apart nm n ver v e x b (by rcases hnm with h | h <;> omega) he h1 hb
 -- the row of rows, as a datum
 have hdv : DV w (imm C2.mem C2.hd C2.I0) (hdr o) (.list 1 es) := by
  obtain ⟨ys, hown, hb, hc⟩ := M.rows o vo eo hoC
  have hlen : eo.es.length = xss.length := by rw [hes, outr_len]
  rcases hown.2 with ⟨h3, h4⟩ | ⟨gb, cap, cur, h3, hg', hh, hn, hm, hs, ht⟩
  ·have h5 : xss = [] := List.eq_nil_of_length_eq_zero (by rw [← hlen]; exact h4)
   simp only at h3
   rw [h3]
   subst h5
   exact .list0 _ _ _ fun _ => rfl
  ·simp only at h3
   rw [h3]
   have hltg : gb < w.heap.size := (Array.getElem?_eq_some_iff.1 hh).1
   have hel : es.length = xss.length := by simp [es]
   have hcells : ∀ (i : Nat) (cs : List PV) (j : Nat) (p : PV), es[i]? = some cs → cs[j]? = some p → j = 0 ∧ ∃ xs u, xss[i]? = some xs ∧ p = .list sz (xs.map c) ∧ ys[i * 1 + 0]? = some u ∧ u = hdr (B + i) := by
    intro i cs j p hi hj
    simp only [es, List.getElem?_map, Option.map_eq_some_iff] at hi
    obtain ⟨xs, hxs, rfl⟩ := hi
    have hik : i < xss.length := (List.getElem?_eq_some_iff.1 hxs).1
    have hcell := hc i [.own (B + i) 0] (by rw [hes, outr_at hik])
    have hj0 : j = 0 ∧ p = .list sz (xs.map c) := by
     cases j with
     | zero => simp [cL] at hj; exact ⟨rfl, hj.symm⟩
     | succ j => simp [cL] at hj
    obtain ⟨rfl, rfl⟩ := hj0
    obtain ⟨u, a1, a2, _⟩ := hcell.2.2 0 _ rfl
    rw [hsz] at a1
    exact ⟨rfl, xs, u, hxs, rfl, a1, a2.own_inv.2.2 _ (hfC i xs hxs)⟩
   have h7 : DV w (imm C2.mem C2.hd C2.I0) (.slice (some ⟨gb, 0, none⟩) es.length cap) (.list 1 es) := by
    refine DV.list ⟨gb, 0, none⟩ cap 1 es (fun i j => ys.getD (i * 1 + j) undef) (by rw [hel, ← hlen]; exact hn) (by rw [hel, ← hlen]; exact hb)
     (hout o vo eo hoC (.inl rfl) gb (by show (hdr o).ownBlock = _; rw [h3]; rfl)) hltg (fun i cs hi => ?_) (fun i cs j p hi hj => ?_) fun i cs j p hi hj => ?_
    ·simp only [es, List.getElem?_map, Option.map_eq_some_iff] at hi
     obtain ⟨xs, _, rfl⟩ := hi
     exact ⟨rfl, fun p hp => by simp [cL] at hp; subst hp; rfl⟩
    ·obtain ⟨rfl, xs, u, hxs, rfl, a1, hu⟩ := hcells i cs j p hi hj
     have := hown.cells (g := gb) (by simp only [h3]; rfl) _ u a1
     simp only at this
     rw [this]
     rw [Nat.mul_one, Nat.add_zero] at a1
     simp [List.getD, a1]
    ·obtain ⟨rfl, xs, u, hxs, rfl, a1, hu⟩ := hcells i cs j p hi hj
     have hr := row_dvI M (hfC i xs hxs) rfl (I := imm C2.mem C2.hd C2.I0) (hout _ _ _ (hfC i xs hxs) (.inr (by omega))) hI
     have e2 : ys.getD (i * 1 + 0) undef = u := by
      rw [Nat.mul_one, Nat.add_zero] at a1 ⊢
      simp [List.getD, a1]
     rw [e2, hu]
     exact hr
   rw [hel] at h7; rw [hlen]; exact h7
 -- values
 have L2 : Later C C2 := by
  refine ⟨Nat.le_refl _, fun n v hu => ?_, fun n v x' _ h => ?_, fun _ h => h, fun b _ hf => ⟨hfree b hf, rfl⟩⟩
  ·rcases hu with hu | ⟨h1, x, h2, h3⟩
   ·exact .inl hu
   ·have hnB : n < B := by
     by_cases hn : n < B
     ·exact hn
     ·have h2 : look (L ++ _) n = some x := h2
      rw [look_mem_fam hL, if_pos (by omega), Option.map_eq_some_iff] at h2
      obtain ⟨xs, _, rfl⟩ := h2
      simp [famE] at h3
    rw [hlkC _ hnB] at h2
    refine .inr ⟨h1, if n = o then { x with dead := true } else entFF o vo es x, ?_, ?_⟩
    ·show look (L.map _) n = _
     rw [look_map_key (fun k x => if k = o then { x with dead := true } else entFF o vo es x), h2]; rfl
    ·split
     ·exact h3
     ·rw [(entFF_same o vo es x).2.1]; exact h3
  ·obtain ⟨x, h1, rfl, _⟩ := hlv n v x' h
   obtain ⟨_, _, _, k4, _, k6⟩ := entFF_same o vo es x
   exact ⟨x, h1, k4.symm, k6.symm, rfl⟩
 have g0 : ∀ v p, RV C v p → RV C2 v (gFF o vo es p) := by
  intro v p h
  cases p with
  | own n vr =>
   simp only [gFF]
   split
   ·rename_i hn
    obtain ⟨rfl, rfl⟩ := hn
    refine .data _ _ ?_
    rw [h.own_inv.2.2 eo hoC]; exact hdv
   ·exact L2.rv h
  | _ => exact L2.rv h
 refine ⟨hdr, ⟨⟨M.i0, M.below, fun n x' h => ?_, fun n v x' h => ?_, fun n n' v v' x x' b hne h h' hb => ?_, fun n v x' b h hb => ?_⟩, R.defers, R.size, R.top, fun t p ht => ?_, L2.frame R.frame⟩⟩
 ·have h : look (L.map fun x => (x.1, if x.1 = o then { x.2 with dead := true } else entFF o vo es x.2)) n = some x' := h
  rw [look_map_key (fun k x => if k = o then { x with dead := true } else entFF o vo es x), Option.map_eq_some_iff] at h
  obtain ⟨x, h1, rfl⟩ := h
  have := M.vers n x (by rw [show look _ n = look C.mem n from rfl, hlkC _ (hlt n x h1)]; exact h1)
  split
  ·exact this
  ·obtain ⟨k1, k2, _⟩ := entFF_same o vo es x
   rw [k1, k2]; exact this
 ·obtain ⟨x, h4, rfl, _⟩ := hlv n v x' h
  obtain ⟨_, _, _, k4, k5, k6⟩ := entFF_same o vo es x
  obtain ⟨xs, ho, hbig, hc⟩ := M.rows n v x h4
  refine ⟨xs, by rw [k4, k5, k6]; exact ho, by rw [k6]; exact hbig, fun i cs hi => ?_⟩
  by_cases hdt : x.data = true
  ·have : entFF o vo es x = x := by unfold entFF; rw [if_pos hdt]
   rw [this] at hi ⊢
   obtain ⟨c1, c2, c3⟩ := hc i cs hi
   refine ⟨c1, c2, fun j p hj => ?_⟩
   obtain ⟨u, a1, a2, a3⟩ := c3 j p hj
   have := L2.dv (a3 hdt)
   exact ⟨u, a1, .data _ _ this, fun _ => this⟩
  ·have hx : entFF o vo es x = { x with es := x.es.map (·.map (l1 (gFF o vo es))), data := x.es.all fun cs => cs.all fun p => (l1 (gFF o vo es) p).isD } := by unfold entFF; rw [if_neg hdt]
   rw [hx] at hi ⊢
   simp only [List.getElem?_map, Option.map_eq_some_iff] at hi
   obtain ⟨cs0, h5, rfl⟩ := hi
   obtain ⟨c1, c2, c3⟩ := hc i cs0 h5
   refine ⟨by simpa using c1, fun p hp => ?_, fun j p hj => ?_⟩
   ·rw [List.mem_map] at hp
    obtain ⟨p', h6, rfl⟩ := hp
    exact l1_one gFF_one (c2 p' h6)
   ·rw [List.getElem?_map, Option.map_eq_some_iff] at hj
    obtain ⟨p', h6, rfl⟩ := hj
    obtain ⟨u, a1, a2, a3⟩ := c3 j p' h6
    have hrv := l1_rv g0 a2
    refine ⟨u, a1, hrv, fun hall => ?_⟩
    simp only [List.all_eq_true] at hall
    exact hrv.isD (hall cs0 (List.mem_of_getElem? h5) p' (List.mem_of_getElem? h6))
 ·obtain ⟨x1, h1, _⟩ := hlv n v x h
  obtain ⟨x2, h2, _⟩ := hlv n' v' x' h'
  exact M.apart n n' v v' x1 x2 b hne h1 h2 hb
 ·obtain ⟨x1, h1, _⟩ := hlv n v x' h
  exact M.own0 n v x1 b h1 hb
 ·have ht : look (sl.map fun x => (x.1, l3 (gFF o vo es) x.2)) t = some p := ht
  rw [look_map_snd, Option.map_eq_some_iff] at ht
  obtain ⟨q, h1, rfl⟩ := ht
  exact ⟨(R.slot t q h1).1, l3_rv gFF_one g0 (R.slot t q h1).2⟩
inductive Skip (B : Nat) (F : List (Nat × Ent)) : List (Nat × Ent) → Prop
 | base : Skip B F F
 | cons {k : Nat} {v : Ent} {M : List (Nat × Ent)} (h : k < B) (t : Skip B F M) : Skip B F ((k, v) :: M)
theorem Skip.look {F M : List (Nat × Ent)} (h : Skip B F M) {n : Nat} (hn : B ≤ n) : look M n = look F n := by
 induction h with
 | base => rfl
 | cons h _ ih => rw [look_ne _ _ (by omega)]; exact ih
theorem liveF_fam {M : List (Nat × Ent)} {i : Nat} {xs : List α} (hs : Skip B (fam B elem sz c xss) M) (h : xss[i]? = some xs) : liveF (look M) (B + i) 0 = some (famE elem sz c xs) := by
 unfold liveF
 rw [hs.look (by omega), look_fam_at h]
 rfl
inductive NoKey (d : Nat) : List (Nat × Ent) → Prop
 | base {B elem sz : Nat} {c : α → List PV} {xss : List (List α)} (h : d < B) : NoKey d (fam B elem sz c xss)
 | cons {k : Nat} {v : Ent} {M : List (Nat × Ent)} (h : k ≠ d) (t : NoKey d M) : NoKey d ((k, v) :: M)
theorem fresh_fam {M : List (Nat × Ent)} {d : Nat} (h : NoKey (α := α) d M) : freshF (look M) d = true := by
 have : look M d = none := by
  induction h with
  | base h => exact look_fam_lt h
  | cons h _ ih => rw [look_ne _ _ h]; exact ih
 simp [freshF, this]
variable {P : Program} {r : List LOper} {acc : List Log} {sl : List (Nat × PV)} {m : List (Nat × Ent)} {g d : Nat} {K : List Log → St → Prop} {x y : LX} {k : IntKind} {a : Int} {xs : List α}
theorem W.idxFO {sz' o vo : Nat} {e : Ent} (hx : lx sl x = some (.own o vo)) (hy : lx sl y = some (.int k a)) (hl : liveF (look m) o vo = some e) (hs : e.sz = sz') (he : e.es = outr B xss.length) (h : gidx xss a = some xs)
  (kk : W P r (([o], []) :: acc) ⟨(d, .pown o vo a.toNat 0) :: sl, m, g⟩ K) : W P (⟨some d, none, .idx sz' x y⟩ :: r) acc ⟨sl, m, g⟩ K :=
 W.idxO hx hy hl hs (gidx_some h).1 rfl (by rw [he, outr_len]; exact gidx_lt h) kk
theorem W.loadFO {o vo i : Nat} {e : Ent} (hx : lx sl x = some (.pown o vo i 0)) (hl : liveF (look m) o vo = some e) (he : e.es = outr B xss.length) (h : xss[i]? = some xs)
  (kk : W P r (([o], []) :: acc) ⟨(d, .own (B + i) 0) :: sl, m, g⟩ K) : W P (⟨some d, none, .load 1 false x⟩ :: r) acc ⟨sl, m, g⟩ K :=
 W.loadO hx hl (by rw [he]; exact outr_at (List.getElem?_eq_some_iff.1 h).1) rfl kk
theorem W.appFO {el bytes o vo d2 v2 : Nat} {e : Ent} {q : PV} {yss : List (List α)} (hx : lx sl x = some (.own o vo)) (hl : liveF (look m) o vo = some e) (hee : e.elem = el) (hes : e.sz = 1) (he : e.es = outr B xss.length) (hy : lx sl y = some q) (hs : srcRows (look m) 1 q = some (1, [[.own d2 v2]])) (hf : freshF (look m) d = true)
  (h : gapp bytes xss [xs] = some yss) (hd : (e.data && srcData (look m) q) = false) (hne : (o = d) = False)
  (kk : W P r ((d :: o :: (nameOf q ++ []), [d, o]) :: acc) ⟨(d, .own d g) :: sl, (d, ⟨g, el, 1, outr B xss.length ++ [[.own d2 v2]], false, true, false⟩) :: (o, { e with dead := true }) :: m, g⟩ K) : W P (⟨some d, none, .append el 1 bytes x y⟩ :: r) acc ⟨sl, m, g⟩ K := by
 obtain ⟨h1, h2⟩ := gapp_some h
 exact W.append hx hl hee hes hy hs hf (by rw [he]) (by subst h2; simp only [List.length_append, outr_len, List.length_singleton] at h1 ⊢; exact h1) hd hne kk
theorem Wk.keep (ks : List Nat) {sl sl' : List (Nat × PV)} {m : List (Nat × Ent)} {g : Nat} (h : (ks.filterMap fun t => (look sl t).map fun p => (t, p)) = sl') : Wk ⟨sl, m, g⟩ ⟨sl', m, g⟩ := by
 subst h
 intro w0 I0 N a w hd R
 refine ⟨hd, ⟨R.mem, R.defers, R.size, R.top, fun t p ht => ?_, R.frame⟩⟩
 obtain ⟨_, q, h1, rfl⟩ := look_fm (look sl) (fun q : PV => q) ks t p ht
 exact R.slot t _ h1
end
end
end Go.PW
