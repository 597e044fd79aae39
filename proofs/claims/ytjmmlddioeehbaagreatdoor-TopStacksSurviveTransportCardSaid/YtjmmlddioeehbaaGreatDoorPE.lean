/- The closed example of the laws of this file. -/
import Derived.Test.YtjmmlddioeehbaaGreatDoorD
import Derived.Test.YtjmmlddioeehbaaGreatDoorPwPa
import Derived.Lib.ItoaNum
set_option linter.unusedVariables false
set_option linter.unusedSimpArgs false
namespace Go.Proofs.YtjmmlddioeehbaaGreatDoor
open Go.PW Go
theorem works_eq : top_h11Works 6000 = some true := by decide +kernel
end Go.Proofs.YtjmmlddioeehbaaGreatDoor
set_option linter.unusedVariables false
namespace Go.Proofs.YtjmmlddioeehbaaGreatDoor
open Go.PW Go
theorem ifdec {α : Type} (p : Prop) [Decidable p] (a b : α) : (if decide p = true then a else b) = if p then a else b := by
  by_cases h : p <;> simp [h]
theorem ifnot {α : Type} (p : Prop) [Decidable p] (a b : α) : (if (!decide p) = true then a else b) = if p then b else a := by
  by_cases h : p <;> simp [h]
theorem gadd_one {i : Nat} (h : i < 4611686018427387904) : gadd (i : Int) 1 = some ((i + 1 : Nat) : Int) := by
  rw [gaddI (by omega)]
  rfl
theorem gapp_big {α : Type} {b : Nat} {xs ys : List α} (h : (xs.length + ys.length) * b ≤ 140737488355328) : gapp b xs ys = some (xs ++ ys) := by
  unfold gapp
  exact if_pos (by unfold big; exact h)
theorem fault_ne {r : SCodeIndex} (h : r.Code ≠ 0) : ((r.Code == 0 && (r.Index == 0 && true)) != true) = true := by simp [h]
theorem fault_none : ¬ (((⟨0, 0⟩ : SCodeIndex).Code == 0 && ((⟨0, 0⟩ : SCodeIndex).Index == 0 && true)) != true) = true := by decide
theorem indexByte_mem (s : List UInt8) (c : UInt8) : 0 ≤ Lib.indexByte s c ↔ c ∈ s := by
  induction s with
  | nil => simp [Lib.indexByte]
  | cons x xs ih =>
    have hg := Lib.indexByte_ge xs c
    by_cases hx : x = c
    · simp [Lib.indexByte, hx]
    · have hx' : c ≠ x := fun e => hx e.symm
      simp only [Lib.indexByte, beq_iff_eq, hx, if_false, List.mem_cons, hx', false_or, ← ih]
      by_cases h1 : Lib.indexByte xs c = -1
      · simp [h1]
      · simp only [h1, if_false]; omega
theorem index10 (s : List UInt8) : 0 ≤ libIndexByte s 10 ↔ (10 : UInt8) ∈ s := by
  have : libIndexByte s 10 = Lib.indexByte s 10 := rfl
  rw [this]
  exact indexByte_mem s 10
def okLine (s : List UInt8) : Prop := s.length ≤ 80 ∧ (10 : UInt8) ∉ s
def okLines (l : List (List UInt8)) : Prop := l.length ≤ 120 ∧ ∀ s ∈ l, okLine s
theorem lval_l (n : Nat) (l : List (List UInt8)) (hl : l.length ≤ 120) : ∀ (m i : Nat), i ≤ l.length → l.length - i < m →
    ∃ r, lines_Validate_l1 n l m (i : Int) = some r ∧ ((r = ⟨0, 0⟩ ∧ ∀ s ∈ l.drop i, okLine s) ∨ r.Code ≠ 0) := by
  intro m
  induction m with
  | zero => intro i _ h; omega
  | succ m ih =>
    intro i hi h
    rw [lines_Validate_l1, ifdec]
    by_cases hlt : i < l.length
    · rw [if_pos (by omega), gidx_nat, getElem?_lt hlt, bsome, ifdec]
      by_cases h1 : (80 : Int) < l[i].length
      · rw [if_pos h1]; exact ⟨_, rfl, .inr (by simp)⟩
      · rw [if_neg h1]
        unfold strings_IndexByte
        rw [bsome, ifdec]
        by_cases h2 : 0 ≤ libIndexByte l[i] 10
        · rw [if_pos h2]; exact ⟨_, rfl, .inr (by simp)⟩
        · rw [if_neg h2, gadd_one (by omega), bsome]
          obtain ⟨r, hr, hq⟩ := ih (i + 1) (by omega) (by omega)
          refine ⟨r, hr, ?_⟩
          rcases hq with ⟨rfl, hq⟩ | hq
          · refine .inl ⟨rfl, fun s hs => ?_⟩
            rw [List.drop_eq_getElem_cons hlt] at hs
            rcases List.mem_cons.1 hs with rfl | hs
            · exact ⟨by omega, fun hm => h2 ((index10 _).2 hm)⟩
            · exact hq s hs
          · exact .inr hq
    · rw [if_neg (by omega)]
      refine ⟨_, rfl, .inl ⟨rfl, fun s hs => ?_⟩⟩
      rw [List.drop_eq_nil_of_le (by omega)] at hs
      cases hs
theorem lval {n : Nat} (hn : 5000 < n) (l : List (List UInt8)) : ∃ r, lines_Validate n l = some r ∧ ((r = ⟨0, 0⟩ ∧ okLines l) ∨ r.Code ≠ 0) := by
  unfold lines_Validate
  rw [ifdec]
  by_cases h : (120 : Int) < l.length
  · rw [if_pos h]; exact ⟨_, rfl, .inr (by simp)⟩
  · rw [if_neg h]
    obtain ⟨r, hr, hq⟩ := lval_l n l (by omega) n 0 (by omega) (by omega)
    refine ⟨r, hr, ?_⟩
    rcases hq with ⟨h1, h2⟩ | hq
    · exact .inl ⟨h1, by omega, by rw [List.drop_zero] at h2; exact h2⟩
    · exact .inr hq
theorem lsecond {n : Nat} (hn : 5000 < n) (l : List (List UInt8)) (k : Int) : ∃ r, lines_Second n l k = some r ∧ ((r = ⟨0, 0⟩ ∧ okLines l) ∨ r.Code ≠ 0) := by
  obtain ⟨r, h1, h2⟩ := lval hn l
  unfold lines_Second
  rw [h1, bsome]
  rcases h2 with ⟨rfl, h2⟩ | h2
  · rw [if_neg fault_none]; exact ⟨_, rfl, .inl ⟨rfl, h2⟩⟩
  · rw [if_pos (fault_ne h2)]; exact ⟨_, rfl, .inr h2⟩
def hend (h : SAtOldNew) : Int := h.At + h.Old.length
def okHunk (h : SAtOldNew) (e : Int) : Prop := 0 ≤ h.At ∧ h.At ≤ 120 ∧ okLines h.Old ∧ okLines h.New ∧ h.Old.length + h.New.length ≠ 0 ∧ e < h.At ∧ hend h ≤ 120
theorem end_eq (n : Nat) {h : SAtOldNew} (h1 : 0 ≤ h.At ∧ h.At ≤ 120) (h2 : h.Old.length ≤ 120) : textpatch_End n h = some (hend h) := by
  unfold textpatch_End hend
  rw [gaddI (by omega), bsome]
theorem hunk_eq {n : Nat} (hn : 5000 < n) (h : SAtOldNew) (e : Int) : ∃ c, textpatch_hunk n h e = some c ∧ ((c = 0 ∧ okHunk h e) ∨ c ≠ 0) := by
  unfold textpatch_hunk
  rw [ifdec]
  by_cases h1 : h.At < 0
  · rw [if_pos h1]
    unfold textpatch_hunk_j1
    rw [if_pos rfl]; exact ⟨_, rfl, .inr (by decide)⟩
  rw [if_neg h1]
  unfold textpatch_hunk_j1
  rw [ifdec]
  by_cases h2 : 120 < h.At
  · rw [if_pos h2]; exact ⟨_, rfl, .inr (by decide)⟩
  rw [if_neg h2]
  obtain ⟨m, rfl⟩ : ∃ m, n = m + 3 := ⟨n - 3, by omega⟩
  obtain ⟨r, hr, hq⟩ := lval hn h.Old
  obtain ⟨r2, hr2, hq2⟩ := lval hn h.New
  rw [textpatch_hunk_l1, ifdec, if_pos (by decide)]
  have g0 : garr 2 0 = some 0 := by decide
  have g1 : garr 2 1 = some 1 := by decide
  rw [g0, bsome, if_pos rfl, hr, bsome]
  rcases hq with ⟨rfl, hq⟩ | hq
  case inr => rw [if_pos (fault_ne hq)]; exact ⟨_, rfl, .inr hq⟩
  rw [if_neg fault_none, show gadd 0 1 = some 1 by decide, bsome, textpatch_hunk_l1, ifdec, if_pos (by decide), g1, bsome, if_neg (by decide), hr2, bsome]
  rcases hq2 with ⟨rfl, hq2⟩ | hq2
  case inr => rw [if_pos (fault_ne hq2)]; exact ⟨_, rfl, .inr hq2⟩
  have l1 := hq.1
  have l2 := hq2.1
  rw [if_neg fault_none, show gadd 1 1 = some 2 by decide, bsome, textpatch_hunk_l1, ifdec, if_neg (by decide), gaddI (by omega), bsome, ifdec]
  by_cases h3 : (h.Old.length : Int) + h.New.length = 0
  · rw [if_pos h3]
    unfold textpatch_hunk_j2
    rw [if_pos rfl]; exact ⟨_, rfl, .inr (by decide)⟩
  rw [if_neg h3]
  unfold textpatch_hunk_j2
  rw [ifdec]
  by_cases h4 : h.At ≤ e
  · rw [if_pos h4]; exact ⟨_, rfl, .inr (by decide)⟩
  rw [if_neg h4, end_eq _ (by omega) l1, bsome, ifdec]
  by_cases h5 : 120 < hend h
  · rw [if_pos h5]; exact ⟨_, rfl, .inr (by decide)⟩
  rw [if_neg h5]
  exact ⟨_, rfl, .inl ⟨rfl, by omega, by omega, hq, hq2, by omega, by omega, by omega⟩⟩
def okHunks : Int → List SAtOldNew → Prop
  | _, [] => True
  | e, h :: l => okHunk h e ∧ okHunks (hend h) l
theorem pval_l {n : Nat} (hn : 5000 < n) (p : SHunks) (hl : p.Hunks.length ≤ 130) : ∀ (m i : Nat) (e : Int), i ≤ p.Hunks.length → p.Hunks.length - i < m →
    ∃ r, textpatch_Validate_l1 n p m e (i : Int) = some r ∧ ((r = ⟨0, 0⟩ ∧ okHunks e (p.Hunks.drop i)) ∨ r.Code ≠ 0) := by
  intro m
  induction m with
  | zero => intro i _ _ h; omega
  | succ m ih =>
    intro i e hi h
    rw [textpatch_Validate_l1, ifdec]
    by_cases hlt : i < p.Hunks.length
    · obtain ⟨c, hc, hq⟩ := hunk_eq hn p.Hunks[i] e
      rw [if_pos (by omega), gidx_nat, getElem?_lt hlt, bsome, hc, bsome, ifdec]
      rcases hq with ⟨rfl, hq⟩ | hq
      case inr => rw [if_pos hq]; exact ⟨_, rfl, .inr hq⟩
      rw [if_neg (by decide), end_eq _ ⟨hq.1, hq.2.1⟩ hq.2.2.1.1, bsome, gadd_one (by omega), bsome]
      obtain ⟨r, hr, hr2⟩ := ih (i + 1) (hend p.Hunks[i]) (by omega) (by omega)
      refine ⟨r, hr, ?_⟩
      rcases hr2 with ⟨rfl, hr2⟩ | hr2
      · refine .inl ⟨rfl, ?_⟩
        rw [List.drop_eq_getElem_cons hlt]
        exact ⟨hq, hr2⟩
      · exact .inr hr2
    · rw [if_neg (by omega)]
      refine ⟨_, rfl, .inl ⟨rfl, ?_⟩⟩
      rw [List.drop_eq_nil_of_le (by omega)]
      trivial
def okPatch (p : SHunks) : Prop := p.Hunks.length ≤ 130 ∧ okHunks (-1) p.Hunks
theorem pval {n : Nat} (hn : 5000 < n) (p : SHunks) : ∃ r, textpatch_Validate n p = some r ∧ ((r = ⟨0, 0⟩ ∧ okPatch p) ∨ r.Code ≠ 0) := by
  unfold textpatch_Validate
  rw [ifdec]
  by_cases h : (130 : Int) < p.Hunks.length
  · rw [if_pos h]; exact ⟨_, rfl, .inr (by simp)⟩
  · rw [if_neg h]
    obtain ⟨r, hr, hq⟩ := pval_l hn p (by omega) n 0 (-1) (by omega) (by omega)
    refine ⟨r, hr, ?_⟩
    rcases hq with ⟨h1, h2⟩ | hq
    · exact .inl ⟨h1, by omega, by rw [List.drop_zero] at h2; exact h2⟩
    · exact .inr hq
end Go.Proofs.YtjmmlddioeehbaaGreatDoor
set_option linter.unusedVariables false
namespace Go.Proofs.YtjmmlddioeehbaaGreatDoor
open Go.PW Go
theorem slices_l (n : Nat) (a b : List (List UInt8)) (hab : a.length = b.length) (hl : a.length ≤ 1000) : ∀ (m i : Nat), i ≤ a.length → a.length - i < m → slices_Equal_string_l1 n a b m (i : Int) = some (decide (a.drop i = b.drop i)) := by
  intro m
  induction m with
  | zero => intro i _ h; omega
  | succ m ih =>
    intro i hi h
    rw [slices_Equal_string_l1, ifdec]
    by_cases hlt : i < a.length
    · have hlt2 : i < b.length := by omega
      rw [if_pos (by omega), gidx_nat, getElem?_lt hlt, bsome, gidx_nat, getElem?_lt hlt2, bsome, ifdec, List.drop_eq_getElem_cons hlt, List.drop_eq_getElem_cons hlt2]
      by_cases he : a[i] = b[i]
      · rw [if_neg (by simpa using he), gadd_one (by omega), bsome, ih (i + 1) (by omega) (by omega)]
        congr 1
        have e : (a[i] :: a.drop (i + 1) = b[i] :: b.drop (i + 1)) ↔ a.drop (i + 1) = b.drop (i + 1) := ⟨fun e => (List.cons.inj e).2, fun e => by rw [he, e]⟩
        exact (decide_eq_decide.2 e).symm
      · rw [if_pos he]
        have hne : ¬ (a[i] :: a.drop (i + 1) = b[i] :: b.drop (i + 1)) := fun e => he (List.cons.inj e).1
        rw [decide_eq_false hne]
    · rw [if_neg (by omega), List.drop_eq_nil_of_le (by omega), List.drop_eq_nil_of_le (by omega)]
      simp
theorem slices_eq {n : Nat} (hn : 5000 < n) (a b : List (List UInt8)) (hl : a.length ≤ 1000) : slices_Equal_string n a b = some (decide (a = b)) := by
  unfold slices_Equal_string
  rw [ifdec]
  by_cases h : a.length = b.length
  · rw [if_neg (by omega)]
    have := slices_l n a b h hl n 0 (by omega) (by omega)
    simpa using this
  · rw [if_pos (by omega)]
    have : a ≠ b := fun e => h (by rw [e])
    simp [this]
def standsAt (t : List (List UInt8)) (h : SAtOldNew) : Prop := hend h ≤ t.length ∧ (t.drop h.At.toNat).take h.Old.length = h.Old
theorem occurs_eq {n : Nat} (hn : 5000 < n) (t : List (List UInt8)) (h : SAtOldNew) (ht : t.length ≤ 120) (h0 : 0 ≤ h.At) (ho : h.Old.length ≤ 120) : ∃ b, lines_Occurs n t h.Old h.At = some b ∧ (b = true → standsAt t h) := by
  obtain ⟨k, hk⟩ := natOf h0
  unfold lines_Occurs
  rw [ifdec, if_pos h0, ifdec]
  by_cases h1 : h.At ≤ (t.length : Int)
  case neg => rw [if_neg h1]; exact ⟨false, rfl, fun e => by cases e⟩
  rw [if_pos h1, gsubI (by omega), bsome, ifdec]
  by_cases h2 : (h.Old.length : Int) ≤ t.length - h.At
  case neg => rw [if_neg h2]; exact ⟨false, rfl, fun e => by cases e⟩
  rw [if_pos h2, gaddI (by omega), bsome]
  have hc : gcut t h.At (h.At + h.Old.length) = some ((t.drop k).take h.Old.length) := by
    unfold gcut
    rw [if_pos ⟨h0, by omega, by omega⟩, hk]
    congr 1
    rw [show ((k : Int) + (h.Old.length : Int)).toNat = k + h.Old.length by omega, Int.toNat_natCast, List.drop_take]
    congr 1
    omega
  rw [hc, bsome, slices_eq hn _ _ (by rw [List.length_take]; omega), bsome]
  refine ⟨_, rfl, fun e => ?_⟩
  rw [decide_eq_true_eq] at e
  refine ⟨by unfold hend; omega, ?_⟩
  rw [hk, Int.toNat_natCast]
  exact e
theorem okHunks_mem : ∀ {e : Int} {l : List SAtOldNew}, okHunks e l → ∀ h ∈ l, ∃ e', okHunk h e'
  | e, [], _, h, hm => by cases hm
  | e, x :: l, hk, h, hm => by
    rcases List.mem_cons.1 hm with rfl | hm
    · exact ⟨e, hk.1⟩
    · exact okHunks_mem hk.2 h hm
def gr : List SAtOldNew → Int
  | [] => 0
  | h :: hs => (h.New.length - h.Old.length) + gr hs
theorem gr_nil : gr [] = 0 := rfl
theorem gr_cons (h : SAtOldNew) (hs : List SAtOldNew) : gr (h :: hs) = (h.New.length - h.Old.length) + gr hs := rfl
theorem raw_l {n : Nat} (t : List (List UInt8)) (ht : t.length ≤ 120) (hs : List SAtOldNew) (hl : hs.length ≤ 130) (hst : ∀ h ∈ hs, standsAt t h) : ∀ (m i : Nat) (e e' : Int) (w : List (List UInt8)), i ≤ hs.length → hs.length - i < m →
    okHunks e' (hs.drop i) → e' ≤ e → e ≤ e' + 1 → 0 ≤ e → e ≤ t.length → w.length ≤ 240 * i → ∃ r, textpatch_Raw_l1 n hs t t.length m e w (i : Int) = some r ∧ (r.length : Int) = w.length + (t.length - e) + gr (hs.drop i) := by
  intro m
  induction m with
  | zero => intro i _ _ _ _ h; omega
  | succ m ih =>
    intro i e e' w hi h hok he1 he2 he0 het hw
    rw [textpatch_Raw_l1, ifdec]
    have htn : (t.length : Int) = ((t.length : Nat) : Int) := rfl
    by_cases hlt : i < hs.length
    · rw [List.drop_eq_getElem_cons hlt] at hok
      obtain ⟨⟨o1, o2, o3, o4, o5, o6, o7⟩, hok2⟩ := hok
      have hs1 := (hst _ (List.getElem_mem hlt)).1
      unfold hend at hs1 o7
      have hn2 := o4.1
      have ho2 := o3.1
      rw [if_pos (by omega), gidx_nat, getElem?_lt hlt, bsome]
      have hc : gcut t e hs[i].At = some ((t.take hs[i].At.toNat).drop e.toNat) := by
        unfold gcut
        rw [if_pos ⟨he0, by omega, by omega⟩]
      have hcl : ((t.take hs[i].At.toNat).drop e.toNat).length ≤ 120 := by simp only [List.length_drop, List.length_take]; omega
      rw [hc, bsome, gapp_big (by omega), bsome, gapp_big (by rw [List.length_append]; omega), bsome, end_eq _ ⟨o1, o2⟩ ho2, bsome, gadd_one (by omega), bsome]
      obtain ⟨r, hr, hr2⟩ := ih (i + 1) (hend hs[i]) (hend hs[i]) (w ++ (t.take hs[i].At.toNat).drop e.toNat ++ hs[i].New) (by omega) (by omega) hok2 (by omega) (by omega) (by unfold hend; omega) (by unfold hend; omega) (by simp only [List.length_append]; omega)
      refine ⟨r, hr, ?_⟩
      have hcl2 : (((t.take hs[i].At.toNat).drop e.toNat).length : Int) = hs[i].At - e := by simp only [List.length_drop, List.length_take]; omega
      rw [hr2, List.drop_eq_getElem_cons hlt, gr_cons, List.length_append, List.length_append]
      unfold hend
      push_cast
      rw [hcl2]
      omega
    · rw [if_neg (by omega)]
      have hc : gcut t e t.length = some ((t.take (t.length : Int).toNat).drop e.toNat) := by
        unfold gcut
        rw [if_pos ⟨he0, by omega, by omega⟩]
      have hcl : ((t.take (t.length : Int).toNat).drop e.toNat).length ≤ 120 := by simp only [List.length_drop, List.length_take]; omega
      rw [hc, bsome, gapp_big (by omega), bsome]
      refine ⟨_, rfl, ?_⟩
      have hcl2 : (((t.take (t.length : Int).toNat).drop e.toNat).length : Int) = t.length - e := by simp only [List.length_drop, List.length_take]; omega
      rw [List.length_append, List.drop_eq_nil_of_le (show hs.length ≤ i by omega), gr_nil]
      push_cast
      rw [hcl2]
      omega
structure Applies (p : SHunks) (t : List (List UInt8)) : Prop where
  patch : okPatch p
  text : okLines t
  stands : ∀ h ∈ p.Hunks, standsAt t h
  grown : (t.length : Int) + gr p.Hunks ≤ 120
theorem apply_l {n : Nat} (hn : 5000 < n) (p : SHunks) (t : List (List UInt8)) (hp : okPatch p) (ht : okLines t) : ∀ (m i : Nat), i ≤ p.Hunks.length → p.Hunks.length - i < m → (∀ h ∈ p.Hunks.take i, standsAt t h) →
    ∃ r, textpatch_Apply_l1 n p t m (i : Int) = some r ∧ ((r.2 = ⟨0, 0⟩ ∧ r.1.length ≤ 120 ∧ Applies p t) ∨ r.2.Code ≠ 0) := by
  intro m
  induction m with
  | zero => intro i _ h; omega
  | succ m ih =>
    intro i hi h hst
    have hp1 := hp.1
    rw [textpatch_Apply_l1, ifdec]
    by_cases hlt : i < p.Hunks.length
    · obtain ⟨e', o1, o2, o3, o4, o5, o6, o7⟩ := okHunks_mem hp.2 _ (List.getElem_mem hlt)
      obtain ⟨b, hb, hb2⟩ := occurs_eq hn t p.Hunks[i] ht.1 o1 o3.1
      rw [if_pos (by omega), gidx_nat, getElem?_lt hlt, bsome, hb, bsome]
      cases b with
      | false => rw [if_pos (by decide)]; exact ⟨_, rfl, .inr (by simp)⟩
      | true =>
        rw [if_neg (by decide), gadd_one (by omega), bsome]
        refine ih (i + 1) (by omega) (by omega) fun h hm => ?_
        rw [List.take_succ_eq_append_getElem hlt] at hm
        rcases List.mem_append.1 hm with hm | hm
        · exact hst h hm
        · rw [List.mem_singleton] at hm
          rw [hm]; exact hb2 rfl
    · rw [if_neg (by omega)]
      have hall : ∀ h ∈ p.Hunks, standsAt t h := by
        intro h hm
        rw [List.take_of_length_le (by omega)] at hst
        exact hst h hm
      obtain ⟨r, hr, hrl⟩ := raw_l (n := n) t ht.1 p.Hunks hp.1 hall n 0 0 (-1) [] (by omega) (by omega) (by rw [List.drop_zero]; exact hp.2) (by omega) (by omega) (by omega) (by omega) (by simp)
      unfold textpatch_Raw
      rw [show ((0 : Nat) : Int) = 0 from rfl] at hr
      rw [hr, bsome, ifdec]
      by_cases h3 : (120 : Int) < r.length
      · rw [if_pos h3]; exact ⟨_, rfl, .inr (by simp)⟩
      · rw [if_neg h3]; exact ⟨_, rfl, .inl ⟨rfl, by show r.length ≤ 120; omega, hp, ht, hall, by simp at hrl; omega⟩⟩
theorem apply_eq {n : Nat} (hn : 5000 < n) (p : SHunks) (t : List (List UInt8)) : ∃ r, textpatch_Apply n p t = some r ∧ ((r.2 = ⟨0, 0⟩ ∧ r.1.length ≤ 120 ∧ Applies p t) ∨ r.2.Code ≠ 0) := by
  obtain ⟨r1, h1, q1⟩ := pval hn p
  obtain ⟨r2, h2, q2⟩ := lsecond hn t (-2)
  unfold textpatch_Apply
  rw [h1, bsome]
  rcases q1 with ⟨rfl, q1⟩ | q1
  case inr => rw [if_pos (fault_ne q1)]; exact ⟨_, rfl, .inr q1⟩
  rw [if_neg fault_none, h2, bsome]
  rcases q2 with ⟨rfl, q2⟩ | q2
  case inr => rw [if_pos (fault_ne q2)]; exact ⟨_, rfl, .inr q2⟩
  rw [if_neg fault_none]
  have hp1 := q1.1
  exact apply_l hn p t q1 q2 n 0 (by omega) (by omega) (by simp)
end Go.Proofs.YtjmmlddioeehbaaGreatDoor
set_option linter.unusedVariables false
namespace Go.Proofs.YtjmmlddioeehbaaGreatDoor
open Go.PW Go
theorem index_at (c : UInt8) (q r : List UInt8) : ∀ (a : List UInt8), c ∉ a → Lib.index (a ++ (c :: q) ++ r) (c :: q) = a.length
  | [], _ => by
    rw [List.nil_append, List.cons_append]
    unfold Lib.index
    rw [if_pos]
    · rfl
    · rw [← List.cons_append]
      exact List.isPrefixOf_iff_prefix.2 (List.prefix_append _ _)
  | x :: a, h => by
    have hx : (c :: q : List UInt8).isPrefixOf (x :: (a ++ (c :: q) ++ r)) = false := by
      have : (c == x) = false := by
        rw [beq_eq_false_iff_ne]
        exact fun e => h (by rw [e]; exact List.mem_cons_self)
      rw [List.isPrefixOf, this]; rfl
    rw [List.cons_append, List.cons_append]
    unfold Lib.index
    rw [hx, index_at c q r a (fun e => h (List.mem_cons_of_mem _ e))]
    have : ((a.length : Int) == -1) = false := by rw [beq_eq_false_iff_ne]; omega
    simp [this]
theorem cut_at (n : Nat) (c : UInt8) (q a r : List UInt8) (h : (a ++ (c :: q) ++ r).length ≤ 2000000) (hc : c ∉ a) : strings_Cut n (a ++ (c :: q) ++ r) (c :: q) = some (a, r, true) := by
  have e : Lib.cut (a ++ (c :: q) ++ r) (c :: q) = (a, r, true) := by
    unfold Lib.cut
    rw [index_at c q r a hc, if_pos (by omega), Int.toNat_natCast]
    simp
  simp only [List.length_append, List.length_cons] at h
  unfold strings_Cut libCut
  rw [e, if_pos ⟨by simp only [List.length_append, List.length_cons]; omega, by show a.length ≤ _; omega, by show r.length ≤ _; omega⟩]
theorem cut_nl (n : Nat) (a r : List UInt8) (h : (a ++ 10 :: r).length ≤ 2000000) (hc : (10 : UInt8) ∉ a) : strings_Cut n (a ++ 10 :: r) ([10] : List UInt8) = some (a, r, true) := by
  have := cut_at n 10 [] a r (by simpa using h) hc
  simpa using this
theorem nin10 {c : UInt8} {s : List UInt8} (hc : (10 : UInt8) ≠ c) (hs : (10 : UInt8) ∉ s) : (10 : UInt8) ∉ c :: s := fun h => by
  rcases List.mem_cons.1 h with h | h
  · exact hc h
  · exact hs h
theorem gidx_zero {α : Type} (x : α) (l : List α) : gidx (x :: l) 0 = some x := rfl
theorem gcut_tail (x : UInt8) (l : List UInt8) : gcut (x :: l) 1 ((x :: l).length : Int) = some l := by
  have := gcut_drop (l := x :: l) (i := 1) (by simp)
  simpa using this
abbrev Open := Option (Int × List (List UInt8) × List (List UInt8))
def mdl : Open → List SAtOldNew
  | none => []
  | some (a, o, w) => [⟨a, o, w⟩]
structure Bd (w : List SAtOldNew) (a g x : Int) (t : List UInt8) : Prop where
  w : w.length ≤ 100000
  a : 0 ≤ a ∧ a ≤ 100000
  g : -100000 ≤ g ∧ g ≤ 100000
  x : 0 ≤ x ∧ x ≤ 100000
  t : t.length ≤ 1000000
def mdOk : Open → Prop
  | none => True
  | some (_, o, w) => o.length ≤ 100000 ∧ w.length ≤ 100000
theorem keep1 {n m : Nat} (md : Open) {w : List SAtOldNew} {a b3 b4 g x : Int} {f : Bool} {s more : List UInt8} (hs : okLine s) (B : Bd w a g x ((32 :: s) ++ 10 :: more)) (h3 : 1 ≤ b3 ∧ b3 ≤ 100000) (h4 : 1 ≤ b4 ∧ b4 ≤ 100000) :
    unified_Parse_l1 n (m + 1) md w a b3 b4 a g f x ((32 :: s) ++ 10 :: more) = unified_Parse_l1 n m none (w ++ mdl md) (a + 1) (b3 - 1) (b4 - 1) (a + 1) g false (x + 1) more := by
  have hc := cut_nl n (32 :: s) more (by have := B.t; omega) (nin10 (by decide) hs.2)
  have ha := B.a; have hx := B.x
  cases md with
  | none =>
    rw [unified_Parse_l1, ifdec, if_pos (by simp), hc, bsome, if_neg (show ¬ (!true) = true by decide), gaddI (by omega), bsome, ifdec, if_neg (by omega), ifdec, if_neg (by simp), gidx_zero, bsome, ifdec, if_pos (by decide),
      gsubI (by omega), bsome, gsubI (by omega), bsome, gaddI (by omega), bsome, bsome, ifdec, if_pos (by omega), ifnot, if_pos (by omega), gaddI (by omega), bsome]
    simp only [mdl, List.append_nil]
  | some y =>
    obtain ⟨xa, xo, xn⟩ := y
    rw [unified_Parse_l1, ifdec, if_pos (by simp), hc, bsome, if_neg (show ¬ (!true) = true by decide), gaddI (by omega), bsome, ifdec, if_neg (by omega), ifdec, if_neg (by simp), gidx_zero, bsome, ifdec, if_pos (by decide),
      gsubI (by omega), bsome, gsubI (by omega), bsome, gaddI (by omega), bsome, bsome, ifdec, if_pos (by omega), ifnot, if_pos (by omega), gaddI (by omega), bsome]
    simp only [mdl]
def mdel (a : Int) (s : List UInt8) : Open → Int × List (List UInt8) × List (List UInt8)
  | none => (a, [s], [])
  | some (xa, xo, xn) => (xa, xo ++ [s], xn)
theorem del1 {n m : Nat} (md : Open) (hm : mdOk md) {w : List SAtOldNew} {a b3 b4 g x : Int} {s more : List UInt8} (hs : okLine s) (B : Bd w a g x ((45 :: s) ++ 10 :: more)) (h3 : 1 ≤ b3 ∧ b3 ≤ 100000) (h4 : 0 ≤ b4 ∧ b4 ≤ 100000) :
    unified_Parse_l1 n (m + 1) md w a b3 b4 a g false x ((45 :: s) ++ 10 :: more) = unified_Parse_l1 n m (some (mdel a s md)) w (a + 1) (b3 - 1) b4 (a + 1) (g - 1) false (x + 1) more := by
  have hc := cut_nl n (45 :: s) more (by have := B.t; omega) (nin10 (by decide) hs.2)
  have ha := B.a; have hx := B.x; have hw := B.w; have hg := B.g
  cases md with
  | none =>
    rw [unified_Parse_l1, ifdec, if_pos (by simp), hc, bsome, if_neg (show ¬ (!true) = true by decide), gaddI (by omega), bsome, ifdec, if_neg (by omega), ifdec, if_neg (by simp), gidx_zero, bsome, ifdec, if_neg (by decide), ifdec, if_pos (by decide), if_neg (by decide),
      gsubI (by omega), bsome, gaddI (by omega), bsome, gsubI (by omega), bsome, gcut_tail, bsome, gapp_big (by simp; omega), bsome, gsubI (by omega), bsome, gapp_big (by simp), bsome, bsome, ifdec, if_pos (by omega), ifnot, if_pos (by omega), gaddI (by omega), bsome]
    rfl
  | some y =>
    obtain ⟨xa, xo, xn⟩ := y
    have := hm.1
    rw [unified_Parse_l1, ifdec, if_pos (by simp), hc, bsome, if_neg (show ¬ (!true) = true by decide), gaddI (by omega), bsome, ifdec, if_neg (by omega), ifdec, if_neg (by simp), gidx_zero, bsome, ifdec, if_neg (by decide), ifdec, if_pos (by decide), if_neg (by decide),
      gsubI (by omega), bsome, gaddI (by omega), bsome, gsubI (by omega), bsome, gcut_tail, bsome, gsubI (by omega), bsome, gapp_big (by simp; omega), bsome, bsome, ifdec, if_pos (by omega), ifnot, if_pos (by omega), gaddI (by omega), bsome]
    rfl
def mins (a : Int) (s : List UInt8) : Open → Int × List (List UInt8) × List (List UInt8)
  | none => (a, [], [s])
  | some (xa, xo, xn) => (xa, xo, xn ++ [s])
theorem ins1 {n m : Nat} (md : Open) (hm : mdOk md) {w : List SAtOldNew} {a b3 b4 g x : Int} {f : Bool} {s more : List UInt8} (hs : okLine s) (B : Bd w a g x ((43 :: s) ++ 10 :: more)) (h3 : 0 ≤ b3 ∧ b3 ≤ 100000) (h4 : 1 ≤ b4 ∧ b4 ≤ 100000) :
    unified_Parse_l1 n (m + 1) md w a b3 b4 a g f x ((43 :: s) ++ 10 :: more) = unified_Parse_l1 n m (some (mins a s md)) w a b3 (b4 - 1) a (g + 1) true (x + 1) more := by
  have hc := cut_nl n (43 :: s) more (by have := B.t; omega) (nin10 (by decide) hs.2)
  have ha := B.a; have hx := B.x; have hw := B.w; have hg := B.g
  cases md with
  | none =>
    rw [unified_Parse_l1, ifdec, if_pos (by simp), hc, bsome, if_neg (show ¬ (!true) = true by decide), gaddI (by omega), bsome, ifdec, if_neg (by omega), ifdec, if_neg (by simp), gidx_zero, bsome, ifdec, if_neg (by decide), ifdec, if_neg (by decide), ifdec, if_pos (by decide),
      gsubI (by omega), bsome, gaddI (by omega), bsome, gcut_tail, bsome, gapp_big (by simp; omega), bsome, gsubI (by omega), bsome, gapp_big (by simp), bsome, ifdec, if_pos (by omega), ifnot, if_pos (by omega), gaddI (by omega), bsome]
    rfl
  | some y =>
    obtain ⟨xa, xo, xn⟩ := y
    have := hm.2
    rw [unified_Parse_l1, ifdec, if_pos (by simp), hc, bsome, if_neg (show ¬ (!true) = true by decide), gaddI (by omega), bsome, ifdec, if_neg (by omega), ifdec, if_neg (by simp), gidx_zero, bsome, ifdec, if_neg (by decide), ifdec, if_neg (by decide), ifdec, if_pos (by decide),
      gsubI (by omega), bsome, gaddI (by omega), bsome, gcut_tail, bsome, gsubI (by omega), bsome, gapp_big (by simp; omega), bsome, ifdec, if_pos (by omega), ifnot, if_pos (by omega), gaddI (by omega), bsome]
    rfl
end Go.Proofs.YtjmmlddioeehbaaGreatDoor
set_option linter.unusedVariables false
namespace Go.Proofs.YtjmmlddioeehbaaGreatDoor
open Go.PW Go
def tl (c : UInt8) (ls : List (List UInt8)) : List UInt8 := ls.flatMap fun s => (c :: s) ++ [10]
theorem tl_nil (c : UInt8) (more : List UInt8) : tl c [] ++ more = more := rfl
theorem tl_cons (c : UInt8) (s : List UInt8) (ls : List (List UInt8)) (more : List UInt8) : tl c (s :: ls) ++ more = (c :: s) ++ 10 :: (tl c ls ++ more) := by
  unfold tl
  rw [List.flatMap_cons, List.append_assoc, List.append_assoc]
  rfl
def mdR : Open → Nat → Prop
  | none, r => r ≤ 100000
  | some (_, o, w), r => o.length + r ≤ 100000 ∧ w.length + r ≤ 100000
structure Rm (md : Open) (w : List SAtOldNew) (a g x : Int) (t : List UInt8) (r : Nat) : Prop where
  w : w.length + r ≤ 100000
  a : 0 ≤ a ∧ a + r ≤ 100000
  g : -100000 ≤ g - r ∧ g + r ≤ 100000
  x : 0 ≤ x ∧ x + r ≤ 100000
  t : t.length ≤ 1000000
  md : mdR md r
theorem Rm.bd {md : Open} {w : List SAtOldNew} {a g x : Int} {t : List UInt8} {r : Nat} (R : Rm md w a g x t r) : Bd w a g x t :=
  ⟨by have := R.w; omega, by have := R.a; omega, by have := R.g; omega, by have := R.x; omega, R.t⟩
theorem Rm.ok {md : Open} {w : List SAtOldNew} {a g x : Int} {t : List UInt8} {r : Nat} (R : Rm md w a g x t r) : mdOk md := by
  have := R.md
  cases md with
  | none => trivial
  | some y => obtain ⟨_, o, w⟩ := y; exact ⟨by have := this.1; omega, by have := this.2; omega⟩
theorem tail_le {c : UInt8} {s more : List UInt8} (h : ((c :: s) ++ 10 :: more).length ≤ 1000000) : more.length ≤ 1000000 := by
  simp only [List.length_append, List.length_cons] at h; omega
theorem mdl_len (md : Open) : (mdl md).length ≤ 1 := by
  cases md with
  | none => simp [mdl]
  | some y => obtain ⟨_, _, _⟩ := y; simp [mdl]
theorem keepL {n : Nat} : ∀ (ls : List (List UInt8)) (m : Nat) (md : Open) (w : List SAtOldNew) (a b3 b4 g x : Int) (f : Bool) (more : List UInt8), ls ≠ [] → (∀ s ∈ ls, okLine s) → Rm md w a g x (tl 32 ls ++ more) (ls.length + 1) →
    (ls.length : Int) ≤ b3 → b3 ≤ 100000 → (ls.length : Int) ≤ b4 → b4 ≤ 100000 →
    unified_Parse_l1 n (m + ls.length) md w a b3 b4 a g f x (tl 32 ls ++ more) = unified_Parse_l1 n m none (w ++ mdl md) (a + ls.length) (b3 - ls.length) (b4 - ls.length) (a + ls.length) g false (x + ls.length) more
  | [], _, _, _, _, _, _, _, _, _, _, h, _, _, _, _, _, _ => absurd rfl h
  | s :: ls, m, md, w, a, b3, b4, g, x, f, more, _, hok, R, h3, h3', h4, h4' => by
    have hl := mdl_len md
    have r1 := R.w; have r2 := R.a; have r3 := R.g; have r4 := R.x; have r5 := R.t
    simp only [List.length_cons] at h3 h4 r1 r2 r3 r4 ⊢
    rw [tl_cons] at r5 ⊢
    rw [show m + (ls.length + 1) = (m + ls.length) + 1 by omega]
    have R0 := R.bd
    rw [tl_cons] at R0
    rw [keep1 md (hok s (by simp)) R0 (by omega) (by omega)]
    by_cases he : ls = []
    · subst he
      simp only [List.length_nil, tl_nil, Nat.add_zero, Nat.zero_add]
      rfl
    · rw [keepL ls m none (w ++ mdl md) (a + 1) (b3 - 1) (b4 - 1) g (x + 1) false more he (fun y hy => hok y (List.mem_cons_of_mem _ hy))
        ⟨by rw [List.length_append]; omega, by omega, by omega, by omega, tail_le r5, by show _ ≤ _; omega⟩ (by omega) (by omega) (by omega) (by omega)]
      simp only [mdl, List.append_nil]
      congr 1 <;> (push_cast; omega)
theorem delS {n : Nat} : ∀ (ls : List (List UInt8)) (m : Nat) (xa : Int) (xo xn : List (List UInt8)) (w : List SAtOldNew) (a b3 b4 g x : Int) (more : List UInt8), (∀ s ∈ ls, okLine s) → Rm (some (xa, xo, xn)) w a g x (tl 45 ls ++ more) ls.length →
    (ls.length : Int) ≤ b3 → b3 ≤ 100000 → 0 ≤ b4 → b4 ≤ 100000 →
    unified_Parse_l1 n (m + ls.length) (some (xa, xo, xn)) w a b3 b4 a g false x (tl 45 ls ++ more) = unified_Parse_l1 n m (some (xa, xo ++ ls, xn)) w (a + ls.length) (b3 - ls.length) b4 (a + ls.length) (g - ls.length) false (x + ls.length) more
  | [], m, xa, xo, xn, w, a, b3, b4, g, x, more, _, _, _, _, _, _ => by
    simp only [List.length_nil, tl_nil, Nat.add_zero, List.append_nil]
    congr 1 <;> simp
  | s :: ls, m, xa, xo, xn, w, a, b3, b4, g, x, more, hok, R, h3, h3', h4, h4' => by
    have r1 := R.w; have r2 := R.a; have r3 := R.g; have r4 := R.x; have r5 := R.t; have r6 := R.md
    have R0 := R.bd
    have r6 : xo.length + (ls.length + 1) ≤ 100000 ∧ xn.length + (ls.length + 1) ≤ 100000 := r6
    simp only [List.length_cons] at h3 r1 r2 r3 r4 ⊢
    rw [tl_cons] at r5 R0 ⊢
    rw [show m + (ls.length + 1) = (m + ls.length) + 1 by omega, del1 _ R.ok (hok s (by simp)) R0 (by omega) (by omega)]
    show unified_Parse_l1 n (m + ls.length) (some (xa, xo ++ [s], xn)) w _ _ _ _ _ _ _ _ = _
    rw [delS ls m xa (xo ++ [s]) xn w (a + 1) (b3 - 1) b4 (g - 1) (x + 1) more (fun y hy => hok y (List.mem_cons_of_mem _ hy))
      ⟨by omega, by omega, by omega, by omega, tail_le r5, by show (xo ++ [s]).length + _ ≤ _ ∧ _; rw [List.length_append, List.length_singleton]; omega⟩ (by omega) (by omega) h4 h4']
    rw [List.append_assoc]
    congr 1 <;> (push_cast; omega)
theorem insS {n : Nat} : ∀ (ls : List (List UInt8)) (m : Nat) (xa : Int) (xo xn : List (List UInt8)) (w : List SAtOldNew) (a b3 b4 g x : Int) (f : Bool) (more : List UInt8), (∀ s ∈ ls, okLine s) → Rm (some (xa, xo, xn)) w a g x (tl 43 ls ++ more) ls.length →
    (ls.length : Int) ≤ b4 → b4 ≤ 100000 → 0 ≤ b3 → b3 ≤ 100000 →
    ∃ f', unified_Parse_l1 n (m + ls.length) (some (xa, xo, xn)) w a b3 b4 a g f x (tl 43 ls ++ more) = unified_Parse_l1 n m (some (xa, xo, xn ++ ls)) w a b3 (b4 - ls.length) a (g + ls.length) f' (x + ls.length) more
  | [], m, xa, xo, xn, w, a, b3, b4, g, x, f, more, _, _, _, _, _, _ => by
    refine ⟨f, ?_⟩
    simp only [List.length_nil, tl_nil, Nat.add_zero, List.append_nil]
    congr 1 <;> simp
  | s :: ls, m, xa, xo, xn, w, a, b3, b4, g, x, f, more, hok, R, h4, h4', h3, h3' => by
    have r1 := R.w; have r2 := R.a; have r3 := R.g; have r4 := R.x; have r5 := R.t; have r6 := R.md
    have R0 := R.bd
    have r6 : xo.length + (ls.length + 1) ≤ 100000 ∧ xn.length + (ls.length + 1) ≤ 100000 := r6
    simp only [List.length_cons] at h4 r1 r2 r3 r4 ⊢
    rw [tl_cons] at r5 R0 ⊢
    obtain ⟨f', hf⟩ := insS (n := n) ls m xa xo (xn ++ [s]) w a b3 (b4 - 1) (g + 1) (x + 1) true more (fun y hy => hok y (List.mem_cons_of_mem _ hy))
      ⟨by omega, by omega, by omega, by omega, tail_le r5, by show _ ∧ (xn ++ [s]).length + _ ≤ _; rw [List.length_append, List.length_singleton]; omega⟩ (by omega) (by omega) h3 h3'
    refine ⟨f', ?_⟩
    rw [show m + (ls.length + 1) = (m + ls.length) + 1 by omega, ins1 _ R.ok (hok s (by simp)) R0 (by omega) (by omega)]
    show unified_Parse_l1 n (m + ls.length) (some (xa, xo, xn ++ [s])) w _ _ _ _ _ _ _ _ = _
    rw [hf, List.append_assoc]
    congr 1 <;> (push_cast; omega)
theorem hunkL {n m : Nat} (h : SAtOldNew) {w : List SAtOldNew} {b3 b4 g x : Int} {more : List UInt8} (ho : okLines h.Old) (hn : okLines h.New) (hne : h.Old.length + h.New.length ≠ 0) (R : Rm none w h.At g x (tl 45 h.Old ++ (tl 43 h.New ++ more)) (h.Old.length + h.New.length + 1))
    (h3 : (h.Old.length : Int) ≤ b3 ∧ b3 ≤ 100000) (h4 : (h.New.length : Int) ≤ b4 ∧ b4 ≤ 100000) :
    ∃ f', unified_Parse_l1 n (m + (h.Old.length + h.New.length)) none w h.At b3 b4 h.At g false x (tl 45 h.Old ++ (tl 43 h.New ++ more)) =
      unified_Parse_l1 n m (some (h.At, h.Old, h.New)) w (hend h) (b3 - h.Old.length) (b4 - h.New.length) (hend h) (g + (h.New.length - h.Old.length)) f' (x + (h.Old.length + h.New.length)) more := by
  obtain ⟨a, o, nw⟩ := h
  have r1 := R.w; have r2 := R.a; have r3 := R.g; have r4 := R.x; have r5 := R.t
  have R0 := R.bd
  simp only at *
  unfold hend
  simp only
  cases o with
  | cons s o =>
    simp only [List.length_cons] at *
    rw [tl_cons] at r5 R0 ⊢
    have t5 := tail_le r5
    have t6 : (tl 43 nw ++ more).length ≤ 1000000 := by rw [List.length_append] at t5; omega
    obtain ⟨f', hf⟩ := insS (n := n) nw m a ([s] ++ o) [] w (a + 1 + o.length) (b3 - 1 - o.length) b4 (g - 1 - o.length) (x + 1 + o.length) false more (fun y hy => hn.2 y hy)
      ⟨by omega, by omega, by omega, by omega, t6, by show _ ∧ _; simp; omega⟩ (by omega) (by omega) (by omega) (by omega)
    refine ⟨f', ?_⟩
    rw [show m + (o.length + 1 + nw.length) = (m + nw.length + o.length) + 1 by omega, del1 none trivial (ho.2 s (by simp)) R0 (by omega) (by omega)]
    show unified_Parse_l1 n (m + nw.length + o.length) (some (a, [s], [])) w _ _ _ _ _ _ _ _ = _
    rw [delS o (m + nw.length) a [s] [] w (a + 1) (b3 - 1) b4 (g - 1) (x + 1) _ (fun y hy => ho.2 y (List.mem_cons_of_mem _ hy)) ⟨by omega, by omega, by omega, by omega, t5, by show _ ∧ _; simp; omega⟩ (by omega) (by omega) (by omega) (by omega), hf]
    simp only [List.singleton_append, List.nil_append]
    congr 1 <;> (push_cast; omega)
  | nil =>
    cases nw with
    | nil => simp at hne
    | cons s nw =>
      simp only [List.length_cons, List.length_nil, Nat.zero_add, tl_nil] at *
      rw [tl_cons] at r5 R0 ⊢
      have t5 := tail_le r5
      obtain ⟨f', hf⟩ := insS (n := n) nw m a [] [s] w a b3 (b4 - 1) (g + 1) (x + 1) true more (fun y hy => hn.2 y (List.mem_cons_of_mem _ hy))
        ⟨by omega, by omega, by omega, by omega, t5, by show _ ∧ _; simp; omega⟩ (by omega) (by omega) (by omega) (by omega)
      refine ⟨f', ?_⟩
      rw [show m + (nw.length + 1) = (m + nw.length) + 1 by omega, ins1 none trivial (hn.2 s (by simp)) R0 (by omega) (by omega)]
      show unified_Parse_l1 n (m + nw.length) (some (a, [], [s])) w _ _ _ _ _ _ _ _ = _
      rw [hf]
      simp only [List.singleton_append]
      congr 1 <;> (push_cast; omega)
end Go.Proofs.YtjmmlddioeehbaaGreatDoor
set_option linter.unusedVariables false
namespace Go.Proofs.YtjmmlddioeehbaaGreatDoor
open Go.PW Go
def sl (t : List (List UInt8)) (i j : Int) : List (List UInt8) := (t.take j.toNat).drop i.toNat
theorem sl_len {t : List (List UInt8)} {i j : Int} (h0 : 0 ≤ i) (h1 : i ≤ j) (h2 : j ≤ t.length) : ((sl t i j).length : Int) = j - i := by
  unfold sl
  rw [List.length_drop, List.length_take]
  omega
theorem sl_ok {t : List (List UInt8)} (ht : okLines t) {i j : Int} : ∀ s ∈ sl t i j, okLine s := fun s hs => ht.2 s (List.mem_of_mem_take (List.mem_of_mem_drop hs))
def body (t : List (List UInt8)) : Int → List SAtOldNew → Int → List UInt8
  | a, [], hi => tl 32 (sl t a hi)
  | a, h :: hs, hi => tl 32 (sl t a h.At) ++ (tl 45 h.Old ++ (tl 43 h.New ++ body t (hend h) hs hi))
def cnt : Int → List SAtOldNew → Int → Nat
  | a, [], hi => (hi - a).toNat
  | a, h :: hs, hi => (h.At - a).toNat + ((h.Old.length + h.New.length) + cnt (hend h) hs hi)
def nr : Int → List SAtOldNew → Int → Int
  | a, [], hi => hi - a
  | a, h :: hs, hi => (h.At - a) + h.New.length + nr (hend h) hs hi
theorem nr_gr : ∀ (hs : List SAtOldNew) (a hi : Int), nr a hs hi = hi - a + gr hs
  | [], a, hi => by simp [nr, gr]
  | h :: hs, a, hi => by
    unfold nr gr
    rw [nr_gr hs]
    unfold hend
    omega
theorem nr_nonneg : ∀ (hs : List SAtOldNew) (e a hi : Int), okHunks e hs → (∀ h, hs.head? = some h → a ≤ h.At) → (∀ h ∈ hs, hend h ≤ hi) → a ≤ hi → 0 ≤ nr a hs hi
  | [], e, a, hi, _, _, _, h => by unfold nr; omega
  | h :: hs, e, a, hi, hk, h1, h2, h3 => by
    unfold nr
    have e1 := h1 h rfl
    have e2 := h2 h (by simp)
    have := nr_nonneg hs (hend h) (hend h) hi hk.2 (fun y hy => by
      cases hs with
      | nil => cases hy
      | cons z zs =>
        simp only [List.head?_cons, Option.some.injEq] at hy
        subst hy
        have := hk.2.1.2.2.2.2.2.1
        omega) (fun y hy => h2 y (List.mem_cons_of_mem _ hy)) e2
    omega
theorem head_chain {e : Int} {hs : List SAtOldNew} (h : okHunks e hs) : ∀ y, hs.head? = some y → e ≤ y.At := by
  intro y hy
  cases hs with
  | nil => cases hy
  | cons z zs =>
    simp only [List.head?_cons, Option.some.injEq] at hy
    subst hy
    have := h.1.2.2.2.2.2.1
    omega
theorem len_app {a b : List UInt8} {k : Nat} (h : (a ++ b).length ≤ k) : b.length ≤ k := by rw [List.length_append] at h; omega
theorem bodyL {n : Nat} (t : List (List UInt8)) (ht : okLines t) : ∀ (hs : List SAtOldNew) (m : Nat) (a : Int) (md : Open) (w : List SAtOldNew) (f : Bool) (g x hi e : Int) (more : List UInt8), okHunks e hs → (∀ h ∈ hs, standsAt t h) → (∀ h ∈ hs, hend h ≤ hi) →
    (∀ h, hs.head? = some h → a ≤ h.At) → 0 ≤ a → a ≤ hi → hi ≤ t.length → ((md = none ∧ f = false) ∨ okHunks a hs) →
    w.length + hs.length + cnt a hs hi ≤ 50000 → (-50000 ≤ g - cnt a hs hi ∧ g + cnt a hs hi ≤ 50000) → (0 ≤ x ∧ x + cnt a hs hi ≤ 50000) → (body t a hs hi ++ more).length ≤ 1000000 → mdR md 90000 → nr a hs hi ≤ 50000 →
    ∃ md' w' f', unified_Parse_l1 n (m + cnt a hs hi) md w a (hi - a) (nr a hs hi) a g f x (body t a hs hi ++ more) = unified_Parse_l1 n m md' w' hi 0 0 hi (g + gr hs) f' (x + cnt a hs hi) more ∧ w' ++ mdl md' = (w ++ mdl md) ++ hs ∧ mdR md' 90000
  | [], m, a, md, w, f, g, x, hi, e, more, _, _, _, _, ha, hai, hit, _, hw, hg, hx, htx, hmd, _ => by
    have hl := sl_len ha hai hit
    have ht1 := ht.1
    have hmr : mdR md (hi.toNat + 1) := by
      cases md with
      | none => show _ ≤ _; omega
      | some y => obtain ⟨_, o, v⟩ := y; exact ⟨by have := hmd.1; omega, by have := hmd.2; omega⟩
    simp only [cnt, List.length_nil] at hw hg hx ⊢
    simp only [nr, gr, body] at htx ⊢
    by_cases he : sl t a hi = []
    · rw [he] at hl ⊢
      have h0 : hi = a := by simp at hl; omega
      subst h0
      refine ⟨md, w, f, ?_, by simp, hmd⟩
      rw [tl_nil]
      congr 1 <;> simp
    · have hcn : (hi - a).toNat = (sl t a hi).length := by omega
      rw [hcn] at hw hg hx ⊢
      refine ⟨none, w ++ mdl md, false, ?_, by simp [mdl], by show _ ≤ _; omega⟩
      rw [keepL (sl t a hi) m md w a _ _ g x f more he (sl_ok ht) ⟨by omega, by omega, by omega, by omega, htx, by
        cases md with
        | none => show _ ≤ _; omega
        | some y => obtain ⟨_, o, v⟩ := y; exact ⟨by have := hmr.1; omega, by have := hmr.2; omega⟩⟩ (by omega) (by omega) (by omega) (by omega)]
      congr 1 <;> omega
  | h :: hs, m, a, md, w, f, g, x, hi, e, more, hk, hst, hen, hhd, ha, hai, hit, hcl, hw, hg, hx, htx, hmd, hnr => by
    obtain ⟨⟨o1, o2, o3, o4, o5, o6, o7⟩, hk2⟩ := hk
    have hs1 := (hst h (by simp)).1
    have he1 := hen h (by simp)
    have ha1 := hhd h rfl
    have hl := sl_len ha ha1 (show h.At ≤ (t.length : Int) by unfold hend at hs1; omega)
    have ht1 := ht.1; have l3 := o3.1; have l4 := o4.1
    have hnn := nr_nonneg hs (hend h) (hend h) hi hk2 (head_chain hk2) (fun y hy => hen y (List.mem_cons_of_mem _ hy)) he1
    have hee : hend h = h.At + h.Old.length := rfl
    have hcn : (h.At - a).toNat = (sl t a h.At).length := by omega
    simp only [cnt, List.length_cons, hcn] at hw hg hx ⊢
    simp only [nr, gr, body, List.append_assoc] at htx hnr ⊢
    -- ahead of the hunk
    have keep : ∃ w2, w2 = w ++ mdl md ∧ unified_Parse_l1 n (m + ((sl t a h.At).length + (h.Old.length + h.New.length + cnt (hend h) hs hi))) md w a (hi - a) (h.At - a + h.New.length + nr (hend h) hs hi) a g f x (tl 32 (sl t a h.At) ++ (tl 45 h.Old ++ (tl 43 h.New ++ (body t (hend h) hs hi ++ more)))) =
        unified_Parse_l1 n (m + cnt (hend h) hs hi + (h.Old.length + h.New.length)) none w2 h.At (hi - h.At) (h.New.length + nr (hend h) hs hi) h.At g false (x + (sl t a h.At).length) (tl 45 h.Old ++ (tl 43 h.New ++ (body t (hend h) hs hi ++ more))) := by
      refine ⟨_, rfl, ?_⟩
      by_cases hne : sl t a h.At = []
      · rw [hne] at hl ⊢
        have h0 : h.At = a := by simp at hl; omega
        rcases hcl with ⟨rfl, rfl⟩ | hcl
        · rw [tl_nil]
          simp only [mdl, List.append_nil, List.length_nil]
          congr 1 <;> omega
        · have := hcl.1.2.2.2.2.2.1
          omega
      · rw [show m + ((sl t a h.At).length + (h.Old.length + h.New.length + cnt (hend h) hs hi)) = (m + cnt (hend h) hs hi + (h.Old.length + h.New.length)) + (sl t a h.At).length by omega]
        rw [keepL (sl t a h.At) _ md w a _ _ g x f _ hne (sl_ok ht) ⟨by omega, by omega, by omega, by omega, htx, by
          cases md with
          | none => show _ ≤ _; omega
          | some y => obtain ⟨_, o, v⟩ := y; exact ⟨by have := hmd.1; omega, by have := hmd.2; omega⟩⟩ (by omega) (by omega) (by omega) (by omega)]
        congr 1 <;> omega
    obtain ⟨w2, hw2, keep⟩ := keep
    have hw2l : w2.length ≤ w.length + 1 := by rw [hw2, List.length_append]; have := mdl_len md; omega
    have htx2 := len_app htx
    rw [keep]
    obtain ⟨f1, h1⟩ := hunkL (n := n) (m := m + cnt (hend h) hs hi) h (w := w2) (b3 := hi - h.At) (b4 := h.New.length + nr (hend h) hs hi) (g := g) (x := x + (sl t a h.At).length) (more := body t (hend h) hs hi ++ more) o3 o4 o5
      ⟨by omega, by omega, by omega, by omega, htx2, by show _ ≤ _; omega⟩ ⟨by omega, by omega⟩ ⟨by omega, by omega⟩
    rw [h1]
    obtain ⟨md', w', f', h2, h3, h4⟩ := bodyL t ht hs m (hend h) (some (h.At, h.Old, h.New)) w2 f1 (g + (h.New.length - h.Old.length)) (x + (sl t a h.At).length + (h.Old.length + h.New.length)) hi (hend h) more hk2
      (fun y hy => hst y (List.mem_cons_of_mem _ hy)) (fun y hy => hen y (List.mem_cons_of_mem _ hy)) (head_chain hk2) (by omega) he1 hit (.inr hk2) (by omega) (by omega) (by omega) (len_app (len_app htx2)) ⟨by omega, by omega⟩ (by omega)
    refine ⟨md', w', f', ?_, ?_, h4⟩
    · rw [show hi - h.At - (h.Old.length : Int) = hi - hend h by omega, show (h.New.length : Int) + nr (hend h) hs hi - h.New.length = nr (hend h) hs hi by omega, h2]
      congr 1 <;> (push_cast; omega)
    · rw [h3, hw2]
      simp [mdl]
end Go.Proofs.YtjmmlddioeehbaaGreatDoor
set_option linter.unusedVariables false
namespace Go.Proofs.YtjmmlddioeehbaaGreatDoor
open Go.PW Go
def dg (k : Int) : List UInt8 := Lib.decDigits k.toNat
theorem dg_all : ∀ k : Nat, k < 122 → libItoa (k : Int) = some (dg k) ∧ libAtoi (dg k) = some ((k : Int), false) ∧ (44 : UInt8) ∉ dg k ∧ (32 : UInt8) ∉ dg k ∧ (10 : UInt8) ∉ dg k ∧ (dg k).length ≤ 3 := by decide +kernel
theorem dg_of {k : Int} (h : 0 ≤ k ∧ k ≤ 121) : libItoa k = some (dg k) ∧ libAtoi (dg k) = some (k, false) ∧ (44 : UInt8) ∉ dg k ∧ (32 : UInt8) ∉ dg k ∧ (10 : UInt8) ∉ dg k ∧ (dg k).length ≤ 3 := by
  obtain ⟨j, rfl⟩ := natOf h.1
  exact dg_all j (by omega)
theorem number_eq (n : Nat) {k : Int} (h : 0 ≤ k ∧ k ≤ 121) (c : UInt8) (q r : List UInt8) (hc : c ∉ dg k) (hl : (dg k ++ (c :: q) ++ r).length ≤ 2000000) : unified_number n (dg k ++ (c :: q) ++ r) (c :: q) = some (k, r, true) := by
  obtain ⟨h1, h2, _⟩ := dg_of h
  unfold unified_number unified_number_j1 strconv_Atoi strconv_Itoa
  rw [cut_at n c q (dg k) r hl hc, bsome, h2, bsome, if_pos rfl, if_pos (show ((!false) != false) = true by decide), h1, bsome, ifdec, if_pos rfl, ifdec, if_pos h.1, decide_eq_true h.2]
theorem cutp_eq (n : Nat) (p r : List UInt8) : strings_CutPrefix n (p ++ r) p = some (r, true) := by
  unfold strings_CutPrefix internal_stringslite_CutPrefix internal_stringslite_HasPrefix internal_stringslite_HasPrefix_j1
  have h1 : gcut (p ++ r) 0 (p.length : Int) = some p := by
    rw [gcut_take (by simp)]
    simp
  have h2 : gcut (p ++ r) (p.length : Int) ((p ++ r).length : Int) = some r := by
    rw [gcut_drop (by simp)]
    simp
  rw [ifdec, if_pos (by rw [List.length_append]; omega), h1, bsome, bsome, decide_eq_true rfl, if_neg (by decide), h2, bsome, bsome]
def pl (v b : Int) : Int := if 0 < b then v + 1 else v
theorem place_eq (n : Nat) {v b : Int} (hv : 0 ≤ v ∧ v ≤ 1000) : unified_place n (pl v b) b = some v := by
  unfold unified_place pl
  rw [ifdec]
  by_cases h : 0 < b
  · rw [if_pos h, if_pos h, gsubI (by omega), bsome]
    congr 1; omega
  · rw [if_neg h, if_neg h]
def hdr (A B C D : Int) : List UInt8 := [64, 64, 32, 45] ++ (dg A ++ [44] ++ (dg B ++ [32, 43] ++ (dg C ++ [44] ++ (dg D ++ [32, 64, 64] ++ []))))
theorem hdr_len {A B C D : Int} (hA : 0 ≤ A ∧ A ≤ 121) (hB : 0 ≤ B ∧ B ≤ 121) (hC : 0 ≤ C ∧ C ≤ 121) (hD : 0 ≤ D ∧ D ≤ 121) : (hdr A B C D).length ≤ 100 ∧ (10 : UInt8) ∉ hdr A B C D := by
  obtain ⟨_, _, _, _, a1, a2⟩ := dg_of hA
  obtain ⟨_, _, _, _, b1, b2⟩ := dg_of hB
  obtain ⟨_, _, _, _, c1, c2⟩ := dg_of hC
  obtain ⟨_, _, _, _, d1, d2⟩ := dg_of hD
  unfold hdr
  constructor
  · simp only [List.length_append, List.length_cons, List.length_nil]; omega
  · simp only [List.mem_append, List.mem_cons, List.not_mem_nil, a1, b1, c1, d1, or_false, false_or]
    decide
theorem headL {n m : Nat} (md : Open) {w : List SAtOldNew} {a g x low B D : Int} {f : Bool} {more : List UInt8} (ha : 0 ≤ a ∧ a ≤ low) (hlo : low ≤ 120) (hB : 0 ≤ B ∧ B ≤ 120) (hBl : low + B ≤ 120) (hg : 0 ≤ low + g) (hD : 0 ≤ D ∧ low + g + D ≤ 120) (hne : B + D ≠ 0) (hx : 0 ≤ x ∧ x ≤ 100000) (hm : more.length ≤ 1000000) :
    unified_Parse_l1 n (m + 1) md w a 0 0 a g f x (hdr (pl low B) B (pl (low + g) D) D ++ 10 :: more) =
      if a < low then unified_Parse_l1 n m none (w ++ mdl md) low B D low g false (x + 1) more else unified_Parse_l1 n m md w low B D low g f (x + 1) more := by
  have pA : 0 ≤ pl low B ∧ pl low B ≤ 121 := by unfold pl; split <;> omega
  have pC : 0 ≤ pl (low + g) D ∧ pl (low + g) D ≤ 121 := by unfold pl; split <;> omega
  have pB : 0 ≤ B ∧ B ≤ 121 := by omega
  have pD : 0 ≤ D ∧ D ≤ 121 := by omega
  obtain ⟨l1, l2⟩ := hdr_len pA pB pC pD
  have hc := cut_nl n (hdr (pl low B) B (pl (low + g) D) D) more (by rw [List.length_append, List.length_cons]; omega) l2
  obtain ⟨_, _, a1, a2, _, a3⟩ := dg_of pA
  obtain ⟨_, _, b1, b2, _, b3⟩ := dg_of pB
  obtain ⟨_, _, c1, c2, _, c3⟩ := dg_of pC
  obtain ⟨_, _, d1, d2, _, d3⟩ := dg_of pD
  have n1 := number_eq n pA 44 [] (dg B ++ [32, 43] ++ (dg (pl (low + g) D) ++ [44] ++ (dg D ++ [32, 64, 64] ++ []))) a1 (by simp only [List.length_append, List.length_cons, List.length_nil]; omega)
  have n2 := number_eq n pB 32 [43] (dg (pl (low + g) D) ++ [44] ++ (dg D ++ [32, 64, 64] ++ [])) b2 (by simp only [List.length_append, List.length_cons, List.length_nil]; omega)
  have n3 := number_eq n pC 44 [] (dg D ++ [32, 64, 64] ++ []) c1 (by simp only [List.length_append, List.length_cons, List.length_nil]; omega)
  have n4 := number_eq n pD 32 [64, 64] [] d2 (by simp only [List.length_append, List.length_cons, List.length_nil]; omega)
  have ht : hdr (pl low B) B (pl (low + g) D) D ++ 10 :: more ≠ [] := by simp
  have hpre : strings_CutPrefix n (hdr (pl low B) B (pl (low + g) D) D) ([64, 64, 32, 45] : List UInt8) = some (dg (pl low B) ++ [44] ++ (dg B ++ [32, 43] ++ (dg (pl (low + g) D) ++ [44] ++ (dg D ++ [32, 64, 64] ++ []))), true) := cutp_eq n _ _
  have hz : gadd 0 0 = some 0 := by decide
  have nt : ¬ (!true) = true := by decide
  cases md with
  | none =>
    rw [unified_Parse_l1, ifdec, if_pos ht, hc, bsome, if_neg nt, hz, bsome, ifdec, if_pos rfl, hpre, bsome, if_neg nt, n1, bsome, if_neg nt, n2, bsome, if_neg nt, n3, bsome, if_neg nt, n4, bsome, if_neg nt,
      place_eq n (by omega), bsome, place_eq n (by omega), bsome, ifdec, if_neg (by simp), gaddI (by omega), bsome, ifdec, if_neg hne, ifdec, if_neg (by omega), gsubI (by omega), bsome, ifdec, if_neg (by simp; omega), gsubI (by omega), bsome, ifdec]
    by_cases h : a < low
    · rw [if_pos (by omega), if_pos h, gaddI (by omega), bsome, bsome, gaddI (by omega), bsome]
      simp only [mdl, List.append_nil]
      congr 1 <;> omega
    · rw [if_neg (by omega), if_neg h, gaddI (by omega), bsome]
      have : a = low := by omega
      subst this
      rfl
  | some y =>
    obtain ⟨xa, xo, xn⟩ := y
    rw [unified_Parse_l1, ifdec, if_pos ht, hc, bsome, if_neg nt, hz, bsome, ifdec, if_pos rfl, hpre, bsome, if_neg nt, n1, bsome, if_neg nt, n2, bsome, if_neg nt, n3, bsome, if_neg nt, n4, bsome, if_neg nt,
      place_eq n (by omega), bsome, place_eq n (by omega), bsome, ifdec, if_neg (by simp), gaddI (by omega), bsome, ifdec, if_neg hne, ifdec, if_neg (by omega), gsubI (by omega), bsome, ifdec, if_neg (by simp; omega), gsubI (by omega), bsome, ifdec]
    by_cases h : a < low
    · rw [if_pos (by omega), if_pos h, gaddI (by omega), bsome, bsome, gaddI (by omega), bsome]
      simp only [mdl]
      congr 1 <;> omega
    · rw [if_neg (by omega), if_neg h, gaddI (by omega), bsome]
      have : a = low := by omega
      subst this
      rfl
end Go.Proofs.YtjmmlddioeehbaaGreatDoor
set_option linter.unusedVariables false
namespace Go.Proofs.YtjmmlddioeehbaaGreatDoor
open Go.PW Go
def lastEnd : Int → List SAtOldNew → Int
  | e, [] => e
  | _, h :: hs => lastEnd (hend h) hs
def takeG (c : Int) : Int → List SAtOldNew → List SAtOldNew × List SAtOldNew
  | _, [] => ([], [])
  | e, h :: r => if h.At - e ≤ 2 * c then (h :: (takeG c (hend h) r).1, (takeG c (hend h) r).2) else ([], h :: r)
def lo (c : Int) (h : SAtOldNew) : Int := max (h.At - c) 0
def hiG (t : List (List UInt8)) (c e : Int) : Int := min (e + c) t.length
def gtext (t : List (List UInt8)) (c g : Int) (h : SAtOldNew) (us : List SAtOldNew) : List UInt8 :=
  hdr (pl (lo c h) (hiG t c (lastEnd (hend h) us) - lo c h)) (hiG t c (lastEnd (hend h) us) - lo c h) (pl (lo c h + g) (hiG t c (lastEnd (hend h) us) - lo c h + gr (h :: us))) (hiG t c (lastEnd (hend h) us) - lo c h + gr (h :: us)) ++
    10 :: body t (lo c h) (h :: us) (hiG t c (lastEnd (hend h) us))
def ftext (t : List (List UInt8)) (c : Int) : Nat → Int → List SAtOldNew → List UInt8
  | 0, _, _ => []
  | _ + 1, _, [] => []
  | k + 1, g, h :: r => gtext t c g h (takeG c (hend h) r).1 ++ ftext t c k (g + gr (h :: (takeG c (hend h) r).1)) (takeG c (hend h) r).2
def fcnt (t : List (List UInt8)) (c : Int) : Nat → List SAtOldNew → Nat
  | 0, _ => 0
  | _ + 1, [] => 0
  | k + 1, h :: r => 1 + cnt (lo c h) (h :: (takeG c (hend h) r).1) (hiG t c (lastEnd (hend h) (takeG c (hend h) r).1)) + fcnt t c k (takeG c (hend h) r).2
theorem takeG_app (c : Int) : ∀ (r : List SAtOldNew) (e : Int), (takeG c e r).1 ++ (takeG c e r).2 = r
  | [], _ => rfl
  | h :: r, e => by
    unfold takeG
    split
    · simp only [List.cons_append, takeG_app c r (hend h)]
    · rfl
theorem takeG_far (c : Int) : ∀ (r : List SAtOldNew) (e : Int) (y : SAtOldNew), (takeG c e r).2.head? = some y → 2 * c < y.At - lastEnd e (takeG c e r).1
  | [], _, y, h => by simp [takeG] at h
  | h :: r, e, y, hy => by
    unfold takeG at hy ⊢
    split at hy
    · rename_i hc
      rw [if_pos hc]
      exact takeG_far c r (hend h) y hy
    · rename_i hc
      rw [if_neg hc]
      simp only [List.head?_cons, Option.some.injEq] at hy
      subst hy
      show _ < _ - e
      omega
theorem okHunks_app : ∀ {a b : List SAtOldNew} {e : Int}, okHunks e (a ++ b) → okHunks e a ∧ okHunks (lastEnd e a) b
  | [], b, e, h => ⟨trivial, h⟩
  | x :: a, b, e, h => ⟨⟨h.1, (okHunks_app h.2).1⟩, (okHunks_app h.2).2⟩
theorem ends_le : ∀ {hs : List SAtOldNew} {e : Int}, okHunks e hs → e ≤ lastEnd e hs ∧ ∀ h ∈ hs, hend h ≤ lastEnd e hs
  | [], e, _ => ⟨Int.le_refl _, fun h hm => by cases hm⟩
  | x :: a, e, h => by
    obtain ⟨h1, h2⟩ := ends_le h.2
    have o := h.1
    have : e ≤ hend x := by unfold hend; have := o.2.2.2.2.2.1; omega
    refine ⟨by show e ≤ lastEnd (hend x) a; omega, fun y hy => ?_⟩
    rcases List.mem_cons.1 hy with rfl | hy
    · exact h1
    · exact h2 y hy
theorem lastEnd_mem : ∀ {hs : List SAtOldNew} {e L : Int}, e ≤ L → (∀ h ∈ hs, hend h ≤ L) → lastEnd e hs ≤ L
  | [], e, L, h, _ => h
  | x :: a, e, L, _, h => by
    show lastEnd (hend x) a ≤ L
    exact lastEnd_mem (h x (by simp)) fun y hy => h y (List.mem_cons_of_mem _ hy)
theorem gr_app : ∀ (a b : List SAtOldNew), gr (a ++ b) = gr a + gr b
  | [], b => by rw [List.nil_append, gr_nil]; omega
  | x :: a, b => by rw [List.cons_append, gr_cons, gr_cons, gr_app a b]; omega
theorem textL {n : Nat} (hn : 5000 < n) (t : List (List UInt8)) (ht : okLines t) {c : Int} (hc : 0 ≤ c ∧ c ≤ 120) : ∀ (k : Nat) (hs : List SAtOldNew) (m : Nat) (a : Int) (md : Open) (w : List SAtOldNew) (f : Bool) (g x e : Int), hs.length ≤ k → okHunks e hs → (∀ h ∈ hs, standsAt t h) →
    0 ≤ a → a ≤ t.length → (∀ h, hs.head? = some h → (md = none ∧ f = false ∧ a ≤ lo c h) ∨ a < lo c h) → 0 ≤ g + a → (t.length : Int) + g + gr hs ≤ 120 → w.length + (mdl md).length + hs.length ≤ 1000 → mdR md 90000 → (ftext t c k g hs).length ≤ 1000000 → fcnt t c k hs ≤ 40000 → (0 ≤ x ∧ x + fcnt t c k hs ≤ 40000) →
    textpatch_Validate n ⟨(w ++ mdl md) ++ hs⟩ = some ⟨0, 0⟩ →
    unified_Parse_l1 n (m + 1 + fcnt t c k hs) md w a 0 0 a g f x (ftext t c k g hs) = some (⟨(w ++ mdl md) ++ hs⟩, ⟨0, 0⟩) := by
  intro k
  have fin : ∀ (m : Nat) (a : Int) (md : Open) (w : List SAtOldNew) (f : Bool) (g x : Int), textpatch_Validate n ⟨(w ++ mdl md) ++ []⟩ = some ⟨0, 0⟩ → unified_Parse_l1 n (m + 1) md w a 0 0 a g f x [] = some (⟨(w ++ mdl md) ++ []⟩, ⟨0, 0⟩) := by
    intro m a md w f g x hv
    have hz : gadd 0 0 = some 0 := by decide
    cases md with
    | none =>
      simp only [mdl, List.append_nil] at hv ⊢
      rw [unified_Parse_l1, ifdec, if_neg (by simp), hz, bsome, ifdec, if_neg (by decide)]
      unfold textpatch_Second
      rw [hv, bsome, if_neg fault_none, bsome, if_neg fault_none]
    | some y =>
      obtain ⟨xa, xo, xn⟩ := y
      simp only [mdl, List.append_nil] at hv ⊢
      rw [unified_Parse_l1, ifdec, if_neg (by simp), hz, bsome, ifdec, if_neg (by decide)]
      unfold textpatch_Second
      rw [hv, bsome, if_neg fault_none, bsome, if_neg fault_none]
  induction k with
  | zero =>
    intro hs m a md w f g x e hk _ _ _ _ _ _ _ _ _ _ _ _ hv
    have : hs = [] := List.eq_nil_of_length_eq_zero (by omega)
    subst this
    exact fin m a md w f g x hv
  | succ k ih =>
    intro hs m a md w f g x e hk hok hst ha hat hhd hga hgr hw hmd htx hfc hx hv
    cases hs with
    | nil => exact fin m a md w f g x hv
    | cons h r =>
      obtain ⟨us, rest, hG⟩ : ∃ us rest, takeG c (hend h) r = (us, rest) := ⟨_, _, rfl⟩
      have hap := takeG_app c r (hend h)
      have hfar := takeG_far c r (hend h)
      simp only [ftext, fcnt, hG] at htx hfc hx hap hfar ⊢
      unfold gtext at htx ⊢
      subst hap
      have hok1 : okHunks e ((h :: us) ++ rest) := hok
      obtain ⟨hoa, hor⟩ := okHunks_app hok1
      obtain ⟨e1, e2⟩ := ends_le hoa.2
      have hh := hoa.1
      have hor : okHunks (lastEnd (hend h) us) rest := hor
      have hst1 : ∀ y ∈ h :: us, standsAt t y := fun y hy => hst y (by
        rcases List.mem_cons.1 hy with rfl | hy
        · simp
        · simp [hy])
      have hst2 : ∀ y ∈ rest, standsAt t y := fun y hy => hst y (by simp [hy])
      have hLt : lastEnd (hend h) us ≤ t.length := lastEnd_mem (hst1 h (by simp)).1 fun y hy => (hst1 y (List.mem_cons_of_mem _ hy)).1
      have htl := ht.1
      have hlo : 0 ≤ lo c h ∧ lo c h ≤ h.At ∧ h.At - c ≤ lo c h := by have := hh.1; unfold lo; omega
      have hhe : hend h = h.At + h.Old.length := rfl
      have hhi : lastEnd (hend h) us ≤ hiG t c (lastEnd (hend h) us) ∧ hiG t c (lastEnd (hend h) us) ≤ t.length ∧ hiG t c (lastEnd (hend h) us) ≤ lastEnd (hend h) us + c := by unfold hiG; omega
      generalize hiG t c (lastEnd (hend h) us) = hi at *
      generalize hL : lastEnd (hend h) us = L at *
      have hends : ∀ y ∈ h :: us, hend y ≤ hi := by
        intro y hy
        rcases List.mem_cons.1 hy with rfl | hy
        · omega
        · have := e2 y hy; omega
      have hhd1 : ∀ y, (h :: us).head? = some y → lo c h ≤ y.At := by
        intro y hy
        simp only [List.head?_cons, Option.some.injEq] at hy
        subst hy; omega
      have hnn := nr_nonneg (h :: us) e (lo c h) hi hoa hhd1 hends (by omega)
      have hnr := nr_gr (h :: us) (lo c h) hi
      have hrr : 0 ≤ nr hi rest t.length := by
        refine nr_nonneg rest L hi t.length hor (fun y hy => ?_) (fun y hy => (hst2 y hy).1) hhi.2.1
        have := hfar y hy
        omega
      have hrg := nr_gr rest hi t.length
      rw [show h :: (us ++ rest) = (h :: us) ++ rest from rfl, gr_app] at hgr
      have hal : a ≤ lo c h := by rcases hhd h rfl with ⟨_, _, q⟩ | q <;> omega
      have hnrh : nr (lo c h) (h :: us) hi = (h.At - lo c h) + h.New.length + nr (hend h) us hi := rfl
      have hnn2 := nr_nonneg us (hend h) (hend h) hi hoa.2 (head_chain hoa.2) (fun y hy => hends y (List.mem_cons_of_mem _ hy)) (by omega)
      have hsz := hh.2.2.2.2.1
      have hwl := mdl_len md
      simp only [List.length_cons, List.length_append] at hk hw
      rw [show m + 1 + (1 + cnt (lo c h) (h :: us) hi + fcnt t c k rest) = (m + 1 + fcnt t c k rest) + cnt (lo c h) (h :: us) hi + 1 by omega]
      have hBD : hi - lo c h + (hi - lo c h + gr (h :: us)) ≠ 0 := by omega
      rw [List.append_assoc, List.cons_append] at htx ⊢
      have htx2 : (body t (lo c h) (h :: us) hi ++ ftext t c k (g + gr (h :: us)) rest).length ≤ 1000000 := by
        rw [List.length_append, List.length_cons] at htx; omega
      rw [headL md ⟨ha, hal⟩ (by omega) ⟨by omega, by omega⟩ (by omega) (by omega) ⟨by omega, by omega⟩ hBD (by omega) htx2]
      have hit : (if a < lo c h then unified_Parse_l1 n (m + 1 + fcnt t c k rest + cnt (lo c h) (h :: us) hi) none (w ++ mdl md) (lo c h) (hi - lo c h) (hi - lo c h + gr (h :: us)) (lo c h) g false (x + 1) (body t (lo c h) (h :: us) hi ++ ftext t c k (g + gr (h :: us)) rest)
          else unified_Parse_l1 n (m + 1 + fcnt t c k rest + cnt (lo c h) (h :: us) hi) md w (lo c h) (hi - lo c h) (hi - lo c h + gr (h :: us)) (lo c h) g f (x + 1) (body t (lo c h) (h :: us) hi ++ ftext t c k (g + gr (h :: us)) rest)) =
          unified_Parse_l1 n (m + 1 + fcnt t c k rest + cnt (lo c h) (h :: us) hi) none (w ++ mdl md) (lo c h) (hi - lo c h) (nr (lo c h) (h :: us) hi) (lo c h) g false (x + 1) (body t (lo c h) (h :: us) hi ++ ftext t c k (g + gr (h :: us)) rest) := by
        rw [hnr]
        by_cases hal2 : a < lo c h
        · rw [if_pos hal2]
        · rw [if_neg hal2]
          rcases hhd h rfl with ⟨rfl, rfl, _⟩ | q
          · simp only [mdl, List.append_nil]
          · exact absurd q hal2
      rw [hit]
      obtain ⟨md', w', f', h1, h2, h3⟩ := bodyL (n := n) t ht (h :: us) (m + 1 + fcnt t c k rest) (lo c h) none (w ++ mdl md) false g (x + 1) hi e (ftext t c k (g + gr (h :: us)) rest) hoa hst1 hends hhd1 hlo.1 (by omega) hhi.2.1 (.inl ⟨rfl, rfl⟩)
        (by simp only [List.length_append, List.length_cons]; omega) ⟨by omega, by omega⟩ ⟨by omega, by omega⟩ htx2 (by show _ ≤ _; omega) (by omega)
      have h2 : w' ++ mdl md' = (w ++ mdl md) ++ h :: us := by rw [h2]; simp [mdl]
      have h2l := congrArg List.length h2
      simp only [List.length_append, List.length_cons] at h2l
      rw [h1]
      have := ih rest m hi md' w' f' (g + gr (h :: us)) (x + 1 + cnt (lo c h) (h :: us) hi) L (by omega) hor hst2 (by omega) hhi.2.1 (fun y hy => .inr (by
        have := hfar y hy
        unfold lo; omega)) (by omega) (by omega) (by omega) h3 (len_app htx2) (by omega) ⟨by omega, by omega⟩ (by rw [h2, List.append_assoc]; exact hv)
      rw [this, h2, List.append_assoc]
      rfl
end Go.Proofs.YtjmmlddioeehbaaGreatDoor
set_option linter.unusedVariables false
namespace Go.Proofs.YtjmmlddioeehbaaGreatDoor
open Go.PW Go
theorem bts_app (a b : List UInt8) : bts (a ++ b) = bts a ++ bts b := by unfold bts; rw [List.map_append]
theorem bts_len (a : List UInt8) : (bts a).length = a.length := by unfold bts; rw [List.length_map]
theorem gcut_sl {t : List (List UInt8)} {i j : Int} (h0 : 0 ≤ i) (h1 : i ≤ j) (h2 : j ≤ t.length) : gcut t i j = some (sl t i j) := by
  unfold gcut
  rw [if_pos ⟨h0, h1, h2⟩]
  rfl
theorem print_loop {R : Type} {L : Nat → List Int → Int → Option R} (ls : List (List UInt8)) (c : UInt8) (k : List Int → Option R)
    (hstep : ∀ (m : Nat) (w : List Int) (i : Int), L (m + 1) w i = if (decide (i < (ls.length : Int))) = true then (gidx ls i).bind fun e => (gapp 1 w [(c.toNat : Int)]).bind fun w1 => (gapp 1 w1 (bts e)).bind fun w2 => (gapp 1 w2 [10]).bind fun w3 => (gadd i 1).bind fun x => L m w3 x else k w)
    (hok : ∀ s ∈ ls, okLine s) (hl : ls.length ≤ 1000) :
    ∀ (m i : Nat) (w : List Int), i ≤ ls.length → ls.length - i < m → w.length + 100 * (ls.length - i) ≤ 1000000000 → L m w (i : Int) = k (w ++ bts (tl c (ls.drop i))) := by
  intro m
  induction m with
  | zero => intro i w _ h; omega
  | succ m ih =>
    intro i w hi hm hw
    rw [hstep, ifdec]
    by_cases hlt : i < ls.length
    · have hs := (hok _ (List.getElem_mem hlt)).1
      have hb := bts_len ls[i]
      rw [if_pos (by omega), gidx_nat, getElem?_lt hlt, bsome, gapp_big (by simp; omega), bsome, gapp_big (by simp; omega), bsome, gapp_big (by simp; omega), bsome, gadd_one (by omega), bsome,
        ih (i + 1) _ (by omega) (by omega) (by simp; omega), List.drop_eq_getElem_cons hlt]
      congr 1
      have : tl c (ls[i] :: ls.drop (i + 1)) = ((c :: ls[i]) ++ [10]) ++ tl c (ls.drop (i + 1)) := by unfold tl; rw [List.flatMap_cons]
      rw [this, bts_app, bts_app]
      simp only [List.append_assoc]
      rfl
    · rw [if_neg (by omega), List.drop_eq_nil_of_le (by omega)]
      congr 1
      simp [tl, bts]
theorem l4_eq {n : Nat} (hn : 5000 < n) (x34 : Int) (lp3 : List Int → Int → Int → Option ((List UInt8) × SCodeIndex)) (h : SAtOldNew) (w : List Int) (ho : okLines h.New) (hw : w.length + 100 * h.New.length ≤ 1000000000) :
    unified_Format_l4 n x34 lp3 h n w 0 = unified_Format_j8 n x34 lp3 h (w ++ bts (tl 43 h.New)) := by
  have h1 := ho.1
  have := print_loop (L := unified_Format_l4 n x34 lp3 h) h.New 43 (unified_Format_j8 n x34 lp3 h) (fun m w i => rfl) ho.2 (by omega) n 0 w (by omega) (by omega) (by omega)
  simpa using this
theorem l5_eq {n : Nat} (hn : 5000 < n) (x34 : Int) (lp3 : List Int → Int → Int → Option ((List UInt8) × SCodeIndex)) (h : SAtOldNew) (w : List Int) (ho : okLines h.Old) (hw : w.length + 100 * h.Old.length ≤ 1000000000) :
    unified_Format_l5 n x34 lp3 h n w 0 = unified_Format_j7 n x34 lp3 h (w ++ bts (tl 45 h.Old)) := by
  have h1 := ho.1
  have := print_loop (L := unified_Format_l5 n x34 lp3 h) h.Old 45 (unified_Format_j7 n x34 lp3 h) (fun m w i => rfl) ho.2 (by omega) n 0 w (by omega) (by omega) (by omega)
  simpa using this
theorem l6_eq {n : Nat} (hn : 5000 < n) (x34 : Int) (lp3 : List Int → Int → Int → Option ((List UInt8) × SCodeIndex)) (h : SAtOldNew) (s : List (List UInt8)) (w : List Int) (ho : ∀ y ∈ s, okLine y) (hs : s.length ≤ 1000) (hw : w.length + 100 * s.length ≤ 1000000000) :
    unified_Format_l6 n x34 lp3 h s n w 0 = unified_Format_j6 n x34 lp3 h (w ++ bts (tl 32 s)) := by
  have := print_loop (L := unified_Format_l6 n x34 lp3 h s) s 32 (unified_Format_j6 n x34 lp3 h) (fun m w i => rfl) ho hs n 0 w (by omega) (by omega) (by omega)
  simpa using this
theorem l7_eq {n : Nat} (hn : 5000 < n) (x4 : Int) (lp1 : List Int → Int → Int → Option ((List UInt8) × SCodeIndex)) (x7 x17 : Int) (s : List (List UInt8)) (w : List Int) (ho : ∀ y ∈ s, okLine y) (hs : s.length ≤ 1000) (hw : w.length + 100 * s.length ≤ 1000000000) :
    unified_Format_l7 n x4 lp1 x7 x17 s n w 0 = unified_Format_j9 n x4 lp1 x7 x17 (w ++ bts (tl 32 s)) := by
  have := print_loop (L := unified_Format_l7 n x4 lp1 x7 x17 s) s 32 (unified_Format_j9 n x4 lp1 x7 x17) (fun m w i => rfl) ho hs n 0 w (by omega) (by omega) (by omega)
  simpa using this
theorem tl_len (c : UInt8) : ∀ (ls : List (List UInt8)), (∀ s ∈ ls, okLine s) → (tl c ls).length ≤ 82 * ls.length ∧ ls.length ≤ (tl c ls).length
  | [], _ => by simp [tl]
  | s :: ls, h => by
    obtain ⟨h1, h2⟩ := tl_len c ls fun y hy => h y (List.mem_cons_of_mem _ hy)
    have hs := (h s (by simp)).1
    have : tl c (s :: ls) = ((c :: s) ++ [10]) ++ tl c ls := by unfold tl; rw [List.flatMap_cons]
    rw [this]
    simp only [List.length_append, List.length_cons, List.length_nil]
    omega
theorem l3_eq {n : Nat} (hn : 5000 < n) (t : List (List UInt8)) (ht : okLines t) (x4 : Int) (lp1 : List Int → Int → Int → Option ((List UInt8) × SCodeIndex)) (x7 : Int) (s8 : List SAtOldNew) (x16 x17 : Int) (hl : s8.length ≤ 130) (hst : ∀ h ∈ s8, standsAt t h) :
    ∀ (m i : Nat) (w : List Int) (a e : Int), i ≤ s8.length → s8.length - i < m → okHunks e (s8.drop i) → (∀ h, (s8.drop i).head? = some h → a ≤ h.At) → 0 ≤ a → a ≤ min x16 t.length → (∀ h ∈ s8, hend h ≤ x16) → w.length + 100000 * (s8.length - i) ≤ 500000000 →
      unified_Format_l3 n t x4 lp1 x7 s8 x16 x17 m w a (i : Int) = unified_Format_j9 n x4 lp1 x7 x17 (w ++ bts (body t a (s8.drop i) (min x16 t.length))) := by
  intro m
  induction m with
  | zero => intro i w _ _ _ h; omega
  | succ m ih =>
    intro i w a e hi hm hok hhd ha hae hen hw
    have ht1 := ht.1
    rw [unified_Format_l3, ifdec]
    by_cases hlt : i < s8.length
    · rw [List.drop_eq_getElem_cons hlt] at hok hhd ⊢
      have hmem := List.getElem_mem hlt
      generalize hh : s8[i] = h at *
      obtain ⟨⟨o1, o2, o3, o4, o5, o6, o7⟩, hok2⟩ := hok
      have hs1 := (hst h hmem).1
      have he1 := hen h hmem
      have ha1 := hhd h rfl
      have hee : hend h = h.At + h.Old.length := rfl
      have l3 := o3.1; have l4 := o4.1
      have hsl := sl_len ha ha1 (show h.At ≤ (t.length : Int) by omega)
      have c1 := (tl_len 32 (sl t a h.At) (sl_ok ht)).1
      have c2 := (tl_len 45 h.Old o3.2).1
      have c3 := (tl_len 43 h.New o4.2).1
      have b1 := bts_len (tl 32 (sl t a h.At)); have b2 := bts_len (tl 45 h.Old); have b3 := bts_len (tl 43 h.New)
      rw [if_pos (by omega), gidx_nat, getElem?_lt hlt, bsome, hh, gcut_sl ha ha1 (by omega), bsome, l6_eq hn _ _ _ _ _ (sl_ok ht) (by omega) (by omega)]
      unfold unified_Format_j6
      rw [l5_eq hn _ _ _ _ o3 (by simp only [List.length_append]; omega)]
      unfold unified_Format_j7
      rw [l4_eq hn _ _ _ _ o4 (by simp only [List.length_append]; omega)]
      unfold unified_Format_j8
      rw [end_eq _ ⟨o1, o2⟩ l3, bsome, gadd_one (by omega), bsome, ih (i + 1) _ (hend h) (hend h) (by omega) (by omega) hok2 (head_chain hok2) (by omega) (by omega) hen (by simp only [List.length_append]; omega)]
      congr 1
      simp only [body, bts_app, List.append_assoc]
    · have hsl := sl_len ha hae (show min x16 (t.length : Int) ≤ (t.length : Int) by omega)
      rw [if_neg (by omega), gcut_sl ha hae (by omega), bsome, l7_eq hn _ _ _ _ _ _ (sl_ok ht) (by omega) (by omega), List.drop_eq_nil_of_le (by omega)]
      rfl
end Go.Proofs.YtjmmlddioeehbaaGreatDoor
set_option linter.unusedVariables false
namespace Go.Proofs.YtjmmlddioeehbaaGreatDoor
open Go.PW Go
theorem gcat_ok {a b : List UInt8} (h : a.length + b.length ≤ 1000000) : gcat a b = some (a ++ b) := by
  unfold gcat
  rw [if_pos]
  unfold big; omega
theorem growth_eq (n : Nat) {h : SAtOldNew} (h1 : h.Old.length ≤ 120) (h2 : h.New.length ≤ 120) : textpatch_Growth n h = some ((h.New.length : Int) - h.Old.length) := by
  unfold textpatch_Growth
  rw [gsubI (by omega), bsome]
theorem last_get : ∀ (us : List SAtOldNew) (h : SAtOldNew), ∃ y, (h :: us)[us.length]? = some y ∧ lastEnd (hend h) us = hend y
  | [], h => ⟨h, rfl, rfl⟩
  | x :: us, h => by
    obtain ⟨y, h1, h2⟩ := last_get us x
    exact ⟨y, by simpa using h1, h2⟩
theorem gr_bd : ∀ (hs : List SAtOldNew), (∀ h ∈ hs, h.Old.length ≤ 120 ∧ h.New.length ≤ 120) → -(120 * hs.length : Int) ≤ gr hs ∧ gr hs ≤ 120 * hs.length
  | [], _ => by rw [gr_nil]; simp
  | h :: hs, hk => by
    have h1 := hk h (by simp)
    have h2 := gr_bd hs fun y hy => hk y (List.mem_cons_of_mem _ hy)
    rw [gr_cons, List.length_cons]
    omega
theorem body_len {t : List (List UInt8)} (ht : okLines t) : ∀ (hs : List SAtOldNew) (a hi : Int), (∀ h ∈ hs, okLines h.Old ∧ okLines h.New) → (body t a hs hi).length ≤ 30000 * hs.length + 10000
  | [], a, hi, _ => by
    have h1 := (tl_len 32 (sl t a hi) (sl_ok ht)).1
    have h2 : (sl t a hi).length ≤ 120 := by have := ht.1; unfold sl; simp only [List.length_drop, List.length_take]; omega
    show (tl 32 (sl t a hi)).length ≤ _
    simp only [List.length_nil]; omega
  | h :: hs, a, hi, hk => by
    have h1 := (tl_len 32 (sl t a h.At) (sl_ok ht)).1
    have h2 : (sl t a h.At).length ≤ 120 := by have := ht.1; unfold sl; simp only [List.length_drop, List.length_take]; omega
    obtain ⟨q1, q2⟩ := hk h (by simp)
    have h3 := (tl_len 45 h.Old q1.2).1
    have h4 := (tl_len 43 h.New q2.2).1
    have h5 := body_len ht hs (hend h) hi fun y hy => hk y (List.mem_cons_of_mem _ hy)
    have := q1.1; have := q2.1
    simp only [body, List.length_append, List.length_cons]
    omega
theorem head_eq {n : Nat} (hn : 5000 < n) (t : List (List UInt8)) (ht : okLines t) {c : Int} (hc : 0 ≤ c ∧ c ≤ 120) (x4 : Int) (lp1 : List Int → Int → Int → Option ((List UInt8) × SCodeIndex)) (x7 e : Int) (h : SAtOldNew) (us : List SAtOldNew) (w3 : List Int) (hl : us.length < 130) (hok : okHunks e (h :: us)) (hst : ∀ y ∈ h :: us, standsAt t y)
    (hw : w3.length ≤ 100000000) (hg : 0 ≤ lo c h + x4) (hg2 : hiG t c (lastEnd (hend h) us) + x4 + gr (h :: us) ≤ 120) : ∀ (m i : Nat) (x17 : Int), i ≤ us.length + 1 → us.length + 1 - i < m → x17 + gr ((h :: us).drop i) = gr (h :: us) →
    unified_Format_l2 n t w3 x4 lp1 x7 (h :: us) (h.At - c) (lastEnd (hend h) us + c) m x17 (i : Int) = lp1 (w3 ++ bts (gtext t c x4 h us)) (x4 + gr (h :: us)) x7 := by
  have hmem : ∀ y ∈ h :: us, y.Old.length ≤ 120 ∧ y.New.length ≤ 120 := fun y hy => by
    obtain ⟨e', o⟩ := okHunks_mem hok y hy
    exact ⟨o.2.2.1.1, o.2.2.2.1.1⟩
  have hgb := gr_bd (h :: us) hmem
  intro m
  induction m with
  | zero => intro i _ _ hm; omega
  | succ m ih =>
    intro i x17 hi hm hx
    rw [unified_Format_l2, ifdec]
    by_cases hlt : i < (h :: us).length
    · have hb := gr_bd ((h :: us).drop (i + 1)) fun y hy => hmem y (List.mem_of_mem_drop hy)
      have hy := hmem _ (List.getElem_mem hlt)
      have hdl : ((h :: us).drop (i + 1)).length ≤ us.length + 1 := by rw [List.length_drop, List.length_cons]; omega
      rw [List.drop_eq_getElem_cons hlt, gr_cons] at hx
      simp only [List.length_cons] at hgb hlt
      rw [if_pos (by simp only [List.length_cons]; omega), gidx_nat, getElem?_lt (by simp only [List.length_cons]; omega), bsome, growth_eq _ hy.1 hy.2, bsome, gaddI (by omega), bsome, gadd_one (by omega), bsome, ih (i + 1) _ (by omega) (by omega) (by omega)]
    · have hx : x17 = gr (h :: us) := by
        rw [List.drop_eq_nil_of_le (by omega), gr_nil] at hx; omega
      subst hx
      rw [if_neg (by omega)]
      -- places
      obtain ⟨e1, e2⟩ := ends_le hok.2
      have hh := hok.1
      have hLt : lastEnd (hend h) us ≤ t.length := lastEnd_mem (hst h (by simp)).1 fun y hy => (hst y (List.mem_cons_of_mem _ hy)).1
      have htl := ht.1
      have hhe : hend h = h.At + h.Old.length := rfl
      have hlo : 0 ≤ lo c h ∧ lo c h ≤ h.At ∧ h.At - c ≤ lo c h := by have := hh.1; unfold lo; omega
      have hlo2 : max (h.At - c) 0 = lo c h := rfl
      have hhi2 : min (lastEnd (hend h) us + c) (t.length : Int) = hiG t c (lastEnd (hend h) us) := rfl
      have hhi : lastEnd (hend h) us ≤ hiG t c (lastEnd (hend h) us) ∧ hiG t c (lastEnd (hend h) us) ≤ t.length := by unfold hiG; omega
      have hends : ∀ y ∈ h :: us, hend y ≤ hiG t c (lastEnd (hend h) us) := by
        intro y hy
        rcases List.mem_cons.1 hy with rfl | hy
        · omega
        · have := e2 y hy; omega
      have hhd1 : ∀ y, (h :: us).head? = some y → lo c h ≤ y.At := by
        intro y hy
        simp only [List.head?_cons, Option.some.injEq] at hy
        subst hy; omega
      have hnn := nr_nonneg (h :: us) e (lo c h) (hiG t c (lastEnd (hend h) us)) hok hhd1 hends (by omega)
      have hnr := nr_gr (h :: us) (lo c h) (hiG t c (lastEnd (hend h) us))
      unfold gtext
      rw [hlo2, hhi2]
      have hx16 : ∀ y ∈ h :: us, hend y ≤ lastEnd (hend h) us + c := by
        intro y hy
        rcases List.mem_cons.1 hy with rfl | hy
        · omega
        · have := e2 y hy; omega
      generalize hiG t c (lastEnd (hend h) us) = hi at *
      generalize hD : hi - lo c h + gr (h :: us) = D at *
      generalize hB : hi - lo c h = B at *
      have pA : 0 ≤ pl (lo c h) B ∧ pl (lo c h) B ≤ 121 := by unfold pl; split <;> omega
      have pC : 0 ≤ pl (lo c h + x4) D ∧ pl (lo c h + x4) D ≤ 121 := by unfold pl; split <;> omega
      have pB : 0 ≤ B ∧ B ≤ 121 := by omega
      have pD : 0 ≤ D ∧ D ≤ 121 := by omega
      obtain ⟨a1, _, _, _, _, a2⟩ := dg_of pA
      obtain ⟨b1, _, _, _, _, b2⟩ := dg_of pB
      obtain ⟨c1, _, _, _, _, c2⟩ := dg_of pC
      obtain ⟨d1, _, _, _, _, d2⟩ := dg_of pD
      have j5 : ∀ w, w.length ≤ 200000000 → unified_Format_j5 n t x4 lp1 x7 (h :: us) (h.At - c) (lastEnd (hend h) us + c) (gr (h :: us)) w = lp1 (w ++ bts ([32, 64, 64, 10] ++ body t (lo c h) (h :: us) hi)) (x4 + gr (h :: us)) x7 := by
        intro w hw
        unfold unified_Format_j5
        have := l3_eq hn t ht x4 lp1 x7 (h :: us) (lastEnd (hend h) us + c) (gr (h :: us)) (by simp only [List.length_cons]; omega) hst n 0 (w ++ bts [32, 64, 64, 10]) (lo c h) e (by omega) (by simp only [List.length_cons]; omega) hok hhd1 hlo.1 (by omega) hx16 (by simp only [List.length_append, List.length_cons, bts_len, List.length_nil]; omega)
        rw [gapp_big (by simp only [bts_len, List.length_cons, List.length_nil]; omega), bsome, hlo2]
        rw [show ((0 : Nat) : Int) = 0 from rfl] at this
        rw [this]
        unfold unified_Format_j9 unified_Format_j3
        rw [gaddI (by omega), bsome, hhi2]
        congr 1
        rw [bts_app, List.append_assoc]
        rfl
      have j10 : ∀ w, w.length ≤ 150000000 → unified_Format_j10 n t x4 lp1 x7 (h :: us) (h.At - c) (lastEnd (hend h) us + c) (gr (h :: us)) w D (pl (lo c h + x4) D) = lp1 (w ++ bts (dg (pl (lo c h + x4) D) ++ [44] ++ dg D ++ ([32, 64, 64, 10] ++ body t (lo c h) (h :: us) hi))) (x4 + gr (h :: us)) x7 := by
        intro w hw
        unfold unified_Format_j10 strconv_Itoa
        rw [c1, bsome, gcat_ok (by simp; omega), bsome, d1, bsome, gcat_ok (by simp; omega), bsome, gapp_big (by simp only [bts_len, List.length_append, List.length_cons, List.length_nil]; omega), bsome,
          j5 _ (by simp only [bts_len, List.length_append, List.length_cons, List.length_nil]; omega)]
        simp only [bts_app, List.append_assoc]
      have j4 : ∀ w, w.length ≤ 140000000 → unified_Format_j4 n t x4 lp1 x7 (h :: us) (h.At - c) (lastEnd (hend h) us + c) (gr (h :: us)) w = lp1 (w ++ bts ([32, 43] ++ (dg (pl (lo c h + x4) D) ++ [44] ++ dg D ++ ([32, 64, 64, 10] ++ body t (lo c h) (h :: us) hi)))) (x4 + gr (h :: us)) x7 := by
        intro w hw
        unfold unified_Format_j4
        rw [gapp_big (by simp only [bts_len, List.length_cons, List.length_nil]; omega), bsome, hlo2, hhi2, gaddI (by omega), bsome, gsubI (by omega), bsome, hB, gaddI (by omega), bsome, hD, ifdec]
        have := j10 (w ++ bts [32, 43]) (by simp only [bts_len, List.length_append, List.length_cons, List.length_nil]; omega)
        unfold pl at this
        by_cases h0 : 0 < D
        · rw [if_pos h0, gaddI (by omega), bsome]
          rw [if_pos h0] at this
          rw [this]
          unfold pl
          rw [if_pos h0]
          simp only [bts_app, List.append_assoc]
        · rw [if_neg h0]
          rw [if_neg h0] at this
          rw [this]
          unfold pl
          rw [if_neg h0]
          simp only [bts_app, List.append_assoc]
      have j11 : ∀ w, w.length ≤ 130000000 → unified_Format_j11 n t x4 lp1 x7 (h :: us) (h.At - c) (lastEnd (hend h) us + c) (gr (h :: us)) w B (pl (lo c h) B) = lp1 (w ++ bts (dg (pl (lo c h) B) ++ [44] ++ dg B ++ ([32, 43] ++ (dg (pl (lo c h + x4) D) ++ [44] ++ dg D ++ ([32, 64, 64, 10] ++ body t (lo c h) (h :: us) hi))))) (x4 + gr (h :: us)) x7 := by
        intro w hw
        unfold unified_Format_j11 strconv_Itoa
        rw [a1, bsome, gcat_ok (by simp; omega), bsome, b1, bsome, gcat_ok (by simp; omega), bsome, gapp_big (by simp only [bts_len, List.length_append, List.length_cons, List.length_nil]; omega), bsome,
          j4 _ (by simp only [bts_len, List.length_append, List.length_cons, List.length_nil]; omega)]
        simp only [bts_app, List.append_assoc]
      have fin := j11 (w3 ++ bts [64, 64, 32, 45]) (by simp only [bts_len, List.length_append, List.length_cons, List.length_nil]; omega)
      rw [gapp_big (by simp only [bts_len, List.length_cons, List.length_nil]; omega), bsome, gsubI (by omega), bsome, hB, ifdec]
      have ht : hdr (pl (lo c h) B) B (pl (lo c h + x4) D) D ++ 10 :: body t (lo c h) (h :: us) hi = [64, 64, 32, 45] ++ (dg (pl (lo c h) B) ++ [44] ++ dg B ++ ([32, 43] ++ (dg (pl (lo c h + x4) D) ++ [44] ++ dg D ++ ([32, 64, 64, 10] ++ body t (lo c h) (h :: us) hi)))) := by
        unfold hdr
        simp only [List.append_assoc, List.cons_append, List.nil_append, List.append_nil]
      rw [ht]
      by_cases h0 : 0 < B
      · rw [if_pos h0, gaddI (by omega), bsome]
        have e3 : pl (lo c h) B = lo c h + 1 := by unfold pl; rw [if_pos h0]
        rw [← e3, fin]
        simp only [bts_app, List.append_assoc]
      · rw [if_neg h0]
        have e3 : pl (lo c h) B = lo c h := by unfold pl; rw [if_neg h0]
        have fin2 := fin
        rw [e3] at fin2 ⊢
        rw [fin2]
        simp only [bts_app, List.append_assoc]
end Go.Proofs.YtjmmlddioeehbaaGreatDoor
set_option linter.unusedVariables false
namespace Go.Proofs.YtjmmlddioeehbaaGreatDoor
open Go.PW Go
theorem j2_eq {n : Nat} (hn : 5000 < n) (t : List (List UInt8)) (ht : okLines t) {c : Int} (hc : 0 ≤ c ∧ c ≤ 120) (p : SHunks) (x4 : Int) (lp1 : List Int → Int → Int → Option ((List UInt8) × SCodeIndex)) (i to e : Int) (h : SAtOldNew) (us : List SAtOldNew) (w3 : List Int) (hl : us.length < 130) (hok : okHunks e (h :: us)) (hst : ∀ y ∈ h :: us, standsAt t y)
    (hw : w3.length ≤ 100000000) (hg : 0 ≤ lo c h + x4) (hg2 : hiG t c (lastEnd (hend h) us) + x4 + gr (h :: us) ≤ 120) (hcut : gcut p.Hunks i to = some (h :: us)) :
    unified_Format_j2 n t p c w3 x4 i lp1 to = lp1 (w3 ++ bts (gtext t c x4 h us)) (x4 + gr (h :: us)) to := by
  obtain ⟨y, hy, hy2⟩ := last_get us h
  obtain ⟨e', o⟩ := okHunks_mem hok y (List.mem_of_getElem? hy)
  have hh := hok.1
  unfold unified_Format_j2
  have hle : lastEnd (hend h) us ≤ 120 := by rw [hy2]; exact o.2.2.2.2.2.2
  have h0 := hh.1; have h1 := hh.2.1
  have hle0 : 0 ≤ hend y := by unfold hend; have := o.1; omega
  rw [hcut, bsome, gidx_zero, bsome, gsubI (by omega), bsome, show (((h :: us).length : Nat) : Int) = ((us.length + 1 : Nat) : Int) from rfl, gsubI (by omega), bsome,
    show ((us.length + 1 : Nat) : Int) - 1 = ((us.length : Nat) : Int) by omega, gidx_nat, hy, bsome, end_eq _ ⟨o.1, o.2.1⟩ o.2.2.1.1, bsome, gaddI (by omega), bsome, ← hy2]
  exact head_eq hn t ht hc x4 lp1 to e h us w3 hl hok hst hw hg hg2 n 0 0 (by omega) (by omega) (by simp)
theorem l8_eq {n : Nat} (t : List (List UInt8)) {c : Int} (hc : 0 ≤ c ∧ c ≤ 120) (p : SHunks) (hp : okPatch p) (w3 : List Int) (x4 x5 : Int) (lp1 : List Int → Int → Int → Option ((List UInt8) × SCodeIndex)) : ∀ (m j : Nat) (z : SAtOldNew), 1 ≤ j → j ≤ p.Hunks.length → p.Hunks.length - j < m → p.Hunks[j - 1]? = some z →
    unified_Format_l8 n t p c w3 x4 x5 lp1 m (j : Int) = unified_Format_j2 n t p c w3 x4 x5 lp1 ((j + (takeG c (hend z) (p.Hunks.drop j)).1.length : Nat) : Int) := by
  intro m
  induction m with
  | zero => intro j z _ _ h; omega
  | succ m ih =>
    intro j z h1 hj hm hz
    have hp1 := hp.1
    rw [unified_Format_l8, ifdec]
    by_cases hlt : j < p.Hunks.length
    · obtain ⟨e', o⟩ := okHunks_mem hp.2 _ (List.getElem_mem hlt)
      obtain ⟨e2, o2⟩ := okHunks_mem hp.2 z (List.mem_of_getElem? hz)
      have hz0 : 0 ≤ hend z ∧ hend z ≤ 120 := ⟨by unfold hend; have := o2.1; omega, o2.2.2.2.2.2.2⟩
      have ha := o.1; have hb := o.2.1
      rw [if_pos (by omega), gidx_nat, getElem?_lt hlt, bsome, gsubI (by omega), bsome, show (j : Int) - 1 = ((j - 1 : Nat) : Int) by omega, gidx_nat, hz, bsome, end_eq _ ⟨o2.1, o2.2.1⟩ o2.2.2.1.1, bsome, gsubI (by omega), bsome, gmulI (by omega), bsome, List.drop_eq_getElem_cons hlt]
      unfold unified_Format_j12 takeG
      rw [ifdec]
      by_cases hd : p.Hunks[j].At - hend z ≤ 2 * c
      · rw [if_pos hd, if_pos hd, gadd_one (by omega), bsome, ih (j + 1) p.Hunks[j] (by omega) (by omega) (by omega) (by simp [hlt])]
        congr 1
        simp only [List.length_cons]
        omega
      · rw [if_neg hd, if_neg hd]
        rfl
    · rw [if_neg (by omega), List.drop_eq_nil_of_le (by omega)]
      unfold unified_Format_j12
      rw [if_neg (by decide)]
      rfl
def ffin (w : List Int) : Option ((List UInt8) × SCodeIndex) := if (decide (4096 < (w.length : Int))) = true then some (([] : List UInt8), (⟨10, (-1)⟩ : SCodeIndex)) else (libBString w).bind fun s => some (s, (⟨0, 0⟩ : SCodeIndex))
theorem hdr_len2 {A B C D : Int} (hA : 0 ≤ A ∧ A ≤ 121) (hB : 0 ≤ B ∧ B ≤ 121) (hC : 0 ≤ C ∧ C ≤ 121) (hD : 0 ≤ D ∧ D ≤ 121) : (hdr A B C D).length ≤ 100 := (hdr_len hA hB hC hD).1
theorem l1_eq {n : Nat} (hn : 5000 < n) (t : List (List UInt8)) (ht : okLines t) {c : Int} (hc : 0 ≤ c ∧ c ≤ 120) (p : SHunks) (hp : okPatch p) (hst : ∀ y ∈ p.Hunks, standsAt t y) : ∀ (m i k : Nat) (w : List Int) (g a e : Int), i ≤ p.Hunks.length → p.Hunks.length - i < m → p.Hunks.length - i ≤ k →
    okHunks e (p.Hunks.drop i) → 0 ≤ a → (∀ h, (p.Hunks.drop i).head? = some h → a ≤ lo c h) → 0 ≤ g + a → (t.length : Int) + g + gr (p.Hunks.drop i) ≤ 120 → w.length ≤ 200000 * i →
    unified_Format_l1 n t p c m w g (i : Int) = ffin (w ++ bts (ftext t c k g (p.Hunks.drop i))) := by
  intro m
  induction m with
  | zero => intro i _ _ _ _ _ _ h; omega
  | succ m ih =>
    intro i k w g a e hi hm hk hok ha hhd hga hgr hw
    have hp1 := hp.1
    rw [unified_Format_l1, ifdec]
    by_cases hlt : i < p.Hunks.length
    · obtain ⟨k, rfl⟩ : ∃ k', k = k' + 1 := ⟨k - 1, by omega⟩
      have hzi : p.Hunks[i + 1 - 1]? = some p.Hunks[i] := by simp [hlt]
      have hdrop := List.drop_eq_getElem_cons hlt
      rw [if_pos (by omega), gadd_one (by omega), bsome, l8_eq t hc p hp w g i _ n (i + 1) p.Hunks[i] (by omega) (by omega) (by omega) hzi]
      rw [hdrop] at hok hhd hgr ⊢
      generalize hr : p.Hunks.drop (i + 1) = r at *
      generalize hh : p.Hunks[i] = h at *
      obtain ⟨us, rest, hG⟩ : ∃ us rest, takeG c (hend h) r = (us, rest) := ⟨_, _, rfl⟩
      have hap := takeG_app c r (hend h)
      have hfar := takeG_far c r (hend h)
      simp only [ftext, hG] at hap hfar ⊢
      subst hap
      have hok1 : okHunks e ((h :: us) ++ rest) := hok
      obtain ⟨hoa, hor⟩ := okHunks_app hok1
      have hor : okHunks (lastEnd (hend h) us) rest := hor
      obtain ⟨e1, e2⟩ := ends_le hoa.2
      have hho := hoa.1
      have hrl : us.length + rest.length = p.Hunks.length - (i + 1) := by
        have := congrArg List.length hr
        simp only [List.length_drop, List.length_append] at this
        omega
      have hsub : ∀ y ∈ h :: (us ++ rest), y ∈ p.Hunks := fun y hy => by
        rw [← hdrop] at hy
        exact List.mem_of_mem_drop hy
      have hst1 : ∀ y ∈ h :: us, standsAt t y := fun y hy => hst y (hsub y (by
        rcases List.mem_cons.1 hy with rfl | hy
        · simp
        · simp [hy]))
      have hst2 : ∀ y ∈ rest, standsAt t y := fun y hy => hst y (hsub y (by simp [hy]))
      have hLt : lastEnd (hend h) us ≤ t.length := lastEnd_mem (hst1 h (by simp)).1 fun y hy => (hst1 y (List.mem_cons_of_mem _ hy)).1
      have htl := ht.1
      have hlo : 0 ≤ lo c h ∧ lo c h ≤ h.At := by have := hho.1; unfold lo; omega
      have hal := hhd h rfl
      have hhe : hend h = h.At + h.Old.length := rfl
      have hhi : lastEnd (hend h) us ≤ hiG t c (lastEnd (hend h) us) ∧ hiG t c (lastEnd (hend h) us) ≤ t.length ∧ hiG t c (lastEnd (hend h) us) ≤ lastEnd (hend h) us + c := by unfold hiG; omega
      have hends : ∀ y ∈ h :: us, hend y ≤ hiG t c (lastEnd (hend h) us) := by
        intro y hy
        rcases List.mem_cons.1 hy with rfl | hy
        · omega
        · have := e2 y hy; omega
      have hhd1 : ∀ y, (h :: us).head? = some y → lo c h ≤ y.At := by
        intro y hy
        simp only [List.head?_cons, Option.some.injEq] at hy
        subst hy; omega
      have hnn := nr_nonneg (h :: us) e (lo c h) (hiG t c (lastEnd (hend h) us)) hoa hhd1 hends (by omega)
      have hnr := nr_gr (h :: us) (lo c h) (hiG t c (lastEnd (hend h) us))
      have hrr : 0 ≤ nr (hiG t c (lastEnd (hend h) us)) rest t.length := by
        refine nr_nonneg rest (lastEnd (hend h) us) _ t.length hor (fun y hy => ?_) (fun y hy => (hst2 y hy).1) hhi.2.1
        have := hfar y hy
        omega
      have hrg := nr_gr rest (hiG t c (lastEnd (hend h) us)) t.length
      rw [show h :: (us ++ rest) = (h :: us) ++ rest from rfl, gr_app] at hgr
      have hcut : gcut p.Hunks (i : Int) ((i + 1 + us.length : Nat) : Int) = some (h :: us) := by
        unfold gcut
        rw [if_pos ⟨by omega, by omega, by omega⟩, Int.toNat_natCast, Int.toNat_natCast, List.drop_take, hdrop]
        congr 1
        rw [show i + 1 + us.length - i = us.length + 1 by omega, List.take_succ_cons]
        simp
      have hgl : (gtext t c g h us).length ≤ 200000 * (1 + us.length) := by
        have hb := body_len ht (h :: us) (lo c h) (hiG t c (lastEnd (hend h) us)) fun y hy => by
          obtain ⟨e', o⟩ := okHunks_mem hoa y hy
          exact ⟨o.2.2.1, o.2.2.2.1⟩
        unfold gtext
        generalize hiG t c (lastEnd (hend h) us) = hi at *
        have pB : 0 ≤ hi - lo c h ∧ hi - lo c h ≤ 121 := by omega
        have pD : 0 ≤ hi - lo c h + gr (h :: us) ∧ hi - lo c h + gr (h :: us) ≤ 121 := by omega
        have pA : 0 ≤ pl (lo c h) (hi - lo c h) ∧ pl (lo c h) (hi - lo c h) ≤ 121 := by unfold pl; split <;> omega
        have pC : 0 ≤ pl (lo c h + g) (hi - lo c h + gr (h :: us)) ∧ pl (lo c h + g) (hi - lo c h + gr (h :: us)) ≤ 121 := by unfold pl; split <;> omega
        have hh := hdr_len2 pA pB pC pD
        simp only [List.length_append, List.length_cons] at hb ⊢
        omega
      rw [j2_eq hn t ht hc p g _ i _ e h us w (by omega) hoa hst1 (by omega) (by omega) (by omega) hcut]
      have hdr2 : p.Hunks.drop (i + 1 + us.length) = rest := by
        rw [← List.drop_drop, hr]; simp
      have := ih (i + 1 + us.length) k (w ++ bts (gtext t c g h us)) (g + gr (h :: us)) (hiG t c (lastEnd (hend h) us)) (lastEnd (hend h) us) (by omega) (by omega) (by omega) (by rw [hdr2]; exact hor) (by omega)
        (by
          rw [hdr2]
          intro y hy
          have := hfar y hy
          unfold lo; omega) (by omega) (by rw [hdr2]; omega) (by rw [List.length_append, bts_len]; omega)
      rw [this, hdr2]
      congr 1
      rw [bts_app, List.append_assoc]
    · rw [if_neg (by omega), List.drop_eq_nil_of_le (by omega)]
      have : ftext t c k g [] = [] := by cases k <;> rfl
      rw [this]
      unfold ffin
      simp [bts]
theorem format_eq {n : Nat} (hn : 5000 < n) (t : List (List UInt8)) (p : SHunks) (c : Int) : ∃ r, unified_Format n t p c = some r ∧ (r.2.Code ≠ 0 ∨ (r.2 = ⟨0, 0⟩ ∧ Applies p t ∧ (0 ≤ c ∧ c ≤ 120) ∧ r.1 = ftext t c 130 0 p.Hunks ∧ r.1.length ≤ 4096 ∧ ∃ q, textpatch_Apply n p t = some (q, ⟨0, 0⟩) ∧ q.length ≤ 120)) := by
  obtain ⟨r1, h1, h2⟩ := apply_eq hn p t
  unfold unified_Format
  rw [h1, bsome]
  rcases h2 with ⟨ha, hb, hA⟩ | h2
  case inr => rw [if_pos (fault_ne h2)]; exact ⟨_, rfl, .inl h2⟩
  obtain ⟨q, r12⟩ := r1
  simp only at ha hb
  subst ha
  rw [if_neg fault_none, ifdec]
  by_cases c0 : c < 0
  · rw [if_pos c0]
    unfold unified_Format_j1
    rw [if_pos rfl]
    exact ⟨_, rfl, .inl (by decide)⟩
  rw [if_neg c0]
  unfold unified_Format_j1
  rw [ifdec]
  by_cases c1 : 120 < c
  · rw [if_pos c1]; exact ⟨_, rfl, .inl (by decide)⟩
  rw [if_neg c1]
  have hc : 0 ≤ c ∧ c ≤ 120 := by omega
  have hp1 := hA.patch.1
  have hgr := hA.grown
  have := l1_eq hn t hA.text hc p hA.patch hA.stands n 0 130 [] 0 0 (-1) (by omega) (by omega) (by omega) (by rw [List.drop_zero]; exact hA.patch.2) (by omega) (fun h _ => by unfold lo; omega) (by omega) (by rw [List.drop_zero]; omega) (by simp)
  rw [show ((0 : Nat) : Int) = 0 from rfl] at this
  rw [this, List.drop_zero, List.nil_append]
  unfold ffin
  rw [ifdec, bts_len]
  by_cases hl : (4096 : Int) < (ftext t c 130 0 p.Hunks).length
  · rw [if_pos hl]; exact ⟨_, rfl, .inl (by decide)⟩
  · rw [if_neg hl, libBString_bts, bsome]
    exact ⟨_, rfl, .inr ⟨rfl, hA, hc, rfl, by show (ftext t c 130 0 p.Hunks).length ≤ 4096; omega, q, rfl, hb⟩⟩
theorem sl_len2 {t : List (List UInt8)} {i j : Int} (h0 : 0 ≤ i) (h2 : j ≤ t.length) : (sl t i j).length = (j - i).toNat := by
  unfold sl
  rw [List.length_drop, List.length_take]
  omega
theorem cnt_le {t : List (List UInt8)} (ht : okLines t) : ∀ (hs : List SAtOldNew) (a hi : Int), 0 ≤ a → hi ≤ t.length → (∀ h ∈ hs, 0 ≤ h.At ∧ hend h ≤ t.length ∧ okLines h.Old ∧ okLines h.New) → cnt a hs hi ≤ (body t a hs hi).length
  | [], a, hi, ha, hh, _ => by
    have h1 := (tl_len 32 (sl t a hi) (sl_ok ht)).2
    have h2 := sl_len2 (t := t) ha hh
    show (hi - a).toNat ≤ (tl 32 (sl t a hi)).length
    omega
  | h :: hs, a, hi, ha, hh, hk => by
    obtain ⟨k1, k2, k3, k4⟩ := hk h (by simp)
    have hee : hend h = h.At + h.Old.length := rfl
    have h1 := (tl_len 32 (sl t a h.At) (sl_ok ht)).2
    have h2 := sl_len2 (t := t) (j := h.At) ha (by omega)
    have h3 := (tl_len 45 h.Old k3.2).2
    have h4 := (tl_len 43 h.New k4.2).2
    have h5 := cnt_le ht hs (hend h) hi (by omega) hh fun y hy => hk y (List.mem_cons_of_mem _ hy)
    simp only [cnt, body, List.length_append]
    omega
theorem fcnt_le {t : List (List UInt8)} (ht : okLines t) (c : Int) : ∀ (k : Nat) (g : Int) (hs : List SAtOldNew), (∀ h ∈ hs, 0 ≤ h.At ∧ hend h ≤ t.length ∧ okLines h.Old ∧ okLines h.New) → fcnt t c k hs ≤ (ftext t c k g hs).length
  | 0, _, _, _ => Nat.zero_le _
  | k + 1, _, [], _ => Nat.zero_le _
  | k + 1, g, h :: r, hk => by
    have hap := takeG_app c r (hend h)
    have hm1 : ∀ y ∈ h :: (takeG c (hend h) r).1, y ∈ h :: r := fun y hy => by
      rcases List.mem_cons.1 hy with rfl | hy
      · simp
      · rw [← hap]; simp [hy]
    have h1 := cnt_le ht (h :: (takeG c (hend h) r).1) (lo c h) (hiG t c (lastEnd (hend h) (takeG c (hend h) r).1)) (by unfold lo; omega) (by unfold hiG; omega) fun y hy => hk y (hm1 y hy)
    have h2 := fcnt_le ht c k (g + gr (h :: (takeG c (hend h) r).1)) (takeG c (hend h) r).2 fun y hy => hk y (by rw [← hap]; simp [hy])
    simp only [fcnt, ftext, gtext, List.length_append, List.length_cons]
    omega
theorem parse_eq {n : Nat} (hn : 5000 < n) (t : List (List UInt8)) (p : SHunks) (c : Int) (hc : 0 ≤ c ∧ c ≤ 120) (hA : Applies p t) (hv : textpatch_Validate n p = some ⟨0, 0⟩) (hl : (ftext t c 130 0 p.Hunks).length ≤ 4096) : unified_Parse n (ftext t c 130 0 p.Hunks) = some (p, ⟨0, 0⟩) := by
  have hf := fcnt_le hA.text c 130 0 p.Hunks fun h hm => by
    obtain ⟨e', o⟩ := okHunks_mem hA.patch.2 h hm
    exact ⟨o.1, (hA.stands h hm).1, o.2.2.1, o.2.2.2.1⟩
  have hp1 := hA.patch.1
  have hgr := hA.grown
  unfold unified_Parse
  rw [ifdec, if_neg (by omega)]
  have := textL hn t hA.text hc 130 p.Hunks (n - 1 - fcnt t c 130 p.Hunks) 0 none [] false 0 0 (-1) hp1 hA.patch.2 hA.stands (by omega) (by omega) (fun h _ => .inl ⟨rfl, rfl, by unfold lo; omega⟩) (by omega) (by omega) (by simp [mdl]; omega) (by show _ ≤ _; omega) (by omega) (by omega) ⟨by omega, by omega⟩ (by simpa [mdl] using hv)
  rw [show n - 1 - fcnt t c 130 p.Hunks + 1 + fcnt t c 130 p.Hunks = n by omega] at this
  simpa [mdl] using this
end Go.Proofs.YtjmmlddioeehbaaGreatDoor
set_option linter.unusedVariables false
namespace Go.Proofs.YtjmmlddioeehbaaGreatDoor
open Go.PW Go
theorem apply_valid {n : Nat} (hn : 5000 < n) {p : SHunks} {t q : List (List UInt8)} (h : textpatch_Apply n p t = some (q, ⟨0, 0⟩)) : textpatch_Validate n p = some ⟨0, 0⟩ := by
  obtain ⟨r, h1, h2⟩ := pval hn p
  rcases h2 with ⟨rfl, _⟩ | h2
  · exact h1
  · unfold textpatch_Apply at h
    rw [h1, bsome, if_pos (fault_ne h2)] at h
    injection h with h
    injection h with _ h
    rw [h] at h2
    exact absurd rfl h2
theorem strings_l (n : Nat) (a : List (List UInt8)) (hl : a.length ≤ 1000) : ∀ (m i : Nat), i ≤ a.length → a.length - i < m → equal_Strings_l1 n a a m (i : Int) = some true := by
  intro m
  induction m with
  | zero => intro i _ h; omega
  | succ m ih =>
    intro i hi h
    rw [equal_Strings_l1, ifdec]
    by_cases hlt : i < a.length
    · rw [if_pos (by omega), gidx_nat, getElem?_lt hlt, bsome, bsome, ifdec, if_neg (by simp), gadd_one (by omega), bsome, ih (i + 1) (by omega) (by omega)]
    · rw [if_neg (by omega)]
theorem strings_eq {n : Nat} (hn : 5000 < n) (a : List (List UInt8)) (hl : a.length ≤ 1000) : equal_Strings n a a = some true := by
  unfold equal_Strings
  rw [ifdec, if_neg (by simp)]
  exact strings_l n a hl n 0 (by omega) (by omega)
theorem patch_l {n : Nat} (hn : 5000 < n) (p : SHunks) (hp : okPatch p) : ∀ (m i : Nat), i ≤ p.Hunks.length → p.Hunks.length - i < m → equal_Patch_l1 n p p m (i : Int) = some true := by
  intro m
  induction m with
  | zero => intro i _ h; omega
  | succ m ih =>
    intro i hi h
    have hp1 := hp.1
    rw [equal_Patch_l1, ifdec]
    by_cases hlt : i < p.Hunks.length
    · obtain ⟨e', o⟩ := okHunks_mem hp.2 _ (List.getElem_mem hlt)
      have o1 := o.2.2.1.1; have o2 := o.2.2.2.1.1
      rw [if_pos (by omega), gidx_nat, getElem?_lt hlt, bsome, bsome, ifdec, if_neg (by simp), strings_eq hn _ (by omega), bsome, if_neg (by decide), strings_eq hn _ (by omega), bsome]
      unfold equal_Patch_j1
      rw [if_neg (by decide), gadd_one (by omega), bsome, ih (i + 1) (by omega) (by omega)]
    · rw [if_neg (by omega)]
theorem patch_eq {n : Nat} (hn : 5000 < n) (p : SHunks) (hp : okPatch p) : equal_Patch n p p = some true := by
  have hp1 := hp.1
  unfold equal_Patch
  rw [ifdec, if_neg (by simp)]
  exact patch_l hn p hp n 0 (by omega) (by omega)
theorem patches_l {n : Nat} (hn : 5000 < n) (l : List SHunks) (hl : l.length ≤ 4611686018427387903) (hk : ∀ p ∈ l, okPatch p) : ∀ (m i : Nat), i ≤ l.length → l.length - i < m → equal_Patches_l1 n l l m (i : Int) = some true := by
  intro m
  induction m with
  | zero => intro i _ h; omega
  | succ m ih =>
    intro i hi h
    rw [equal_Patches_l1, ifdec]
    by_cases hlt : i < l.length
    · rw [if_pos (by omega), gidx_nat, getElem?_lt hlt, bsome, bsome, patch_eq hn _ (hk _ (List.getElem_mem hlt)), bsome, if_neg (by decide), gadd_one (by omega), bsome, ih (i + 1) (by omega) (by omega)]
    · rw [if_neg (by omega)]
theorem patches_eq {n : Nat} (hn : 5000 < n) (l : List SHunks) (hl : l.length ≤ 4611686018427387903) (hk : ∀ p ∈ l, okPatch p) : equal_Patches n l l = some true := by
  unfold equal_Patches
  rw [ifdec, if_neg (by simp)]
  exact patches_l hn l hl hk (n + l.length) 0 (by omega) (by omega)
theorem check_l {n : Nat} (hn : 5000 < n) (l : List SHunks) (hl : l.length ≤ 12) (hk : ∀ p ∈ l, textpatch_Validate n p = some ⟨0, 0⟩) : ∀ (m i : Nat), i ≤ l.length → l.length - i < m → stack_check_l1 n l m (i : Int) = some ⟨0, 0⟩ := by
  intro m
  induction m with
  | zero => intro i _ h; omega
  | succ m ih =>
    intro i hi h
    rw [stack_check_l1, ifdec]
    by_cases hlt : i < l.length
    · have e : textpatch_Second n l[i] (i : Int) = some ⟨0, 0⟩ := by
        unfold textpatch_Second
        rw [hk _ (List.getElem_mem hlt), bsome, if_neg fault_none]
      rw [if_pos (by omega), gidx_nat, getElem?_lt hlt, bsome, e, bsome, if_neg fault_none, gadd_one (by omega), bsome, ih (i + 1) (by omega) (by omega)]
    · rw [if_neg (by omega)]
inductive Chain (n : Nat) : List (List UInt8) → List SHunks → List (List UInt8) → Prop
  | nil (t : List (List UInt8)) : Chain n t [] t
  | cons {t q z : List (List UInt8)} {p : SHunks} {l : List SHunks} (h : textpatch_Apply n p t = some (q, ⟨0, 0⟩)) (hA : Applies p t) (hq : q.length ≤ 120) (r : Chain n q l z) : Chain n t (p :: l) z
theorem Chain.snoc {n : Nat} {t q z : List (List UInt8)} {l : List SHunks} {p : SHunks} (c : Chain n t l q) (h : textpatch_Apply n p q = some (z, ⟨0, 0⟩)) (hA : Applies p q) (hz : z.length ≤ 120) : Chain n t (l ++ [p]) z := by
  induction c with
  | nil => exact .cons h hA hz (.nil _)
  | cons h1 h2 h3 _ ih => exact .cons h1 h2 h3 (ih h hA)
theorem Chain.mem {n : Nat} (hn : 5000 < n) {t z : List (List UInt8)} {l : List SHunks} (c : Chain n t l z) : ∀ p ∈ l, okPatch p ∧ textpatch_Validate n p = some ⟨0, 0⟩ := by
  induction c with
  | nil => intro p hp; cases hp
  | cons h1 h2 h3 _ ih =>
    intro p hp
    rcases List.mem_cons.1 hp with rfl | hp
    · exact ⟨h2.patch, apply_valid hn h1⟩
    · exact ih p hp
theorem Chain.len {n : Nat} {t z : List (List UInt8)} {l : List SHunks} (c : Chain n t l z) : l = [] ∧ z = t ∨ z.length ≤ 120 ∧ okLines t := by
  induction c with
  | nil => exact .inl ⟨rfl, rfl⟩
  | cons h1 h2 h3 _ ih =>
    refine .inr ⟨?_, h2.text⟩
    rcases ih with ⟨_, rfl⟩ | ⟨ih, _⟩
    · exact h3
    · exact ih
theorem stackl {n : Nat} (l : List SHunks) (hl : l.length ≤ 12) {z : List (List UInt8)} : ∀ (m i : Nat) (t : List (List UInt8)), i ≤ l.length → l.length - i < m → Chain n t (l.drop i) z → stack_Apply_l1 n l m t (i : Int) = some (z, ⟨0, 0⟩) := by
  intro m
  induction m with
  | zero => intro i _ _ h; omega
  | succ m ih =>
    intro i t hi h c
    rw [stack_Apply_l1, ifdec]
    by_cases hlt : i < l.length
    · rw [List.drop_eq_getElem_cons hlt] at c
      cases c with
      | cons h1 h2 h3 c =>
        rw [if_pos (by omega), gidx_nat, getElem?_lt hlt, bsome, h1, bsome, if_neg fault_none, gadd_one (by omega), bsome]
        exact ih (i + 1) _ (by omega) (by omega) c
    · rw [if_neg (by omega)]
      rw [List.drop_eq_nil_of_le (by omega)] at c
      cases c
      rfl
theorem stack_eq {n : Nat} (hn : 5000 < n) {t z : List (List UInt8)} {l : List SHunks} (c : Chain n t l z) : ∃ r, stack_Apply n t l = some r ∧ r.1.length ≤ 1000 ∧ (r.2.Code = 0 → r.1 = z) := by
  unfold stack_Apply stack_check
  rw [ifdec]
  by_cases hl : (12 : Int) < l.length
  · rw [if_pos hl, bsome, if_pos (by decide)]
    exact ⟨_, rfl, by simp, fun h => absurd h (by decide)⟩
  rw [if_neg hl]
  have hk := check_l hn l (by omega) (fun p hp => (c.mem hn p hp).2) n 0 (by omega) (by omega)
  rw [show ((0 : Nat) : Int) = 0 from rfl] at hk
  rw [hk, bsome, if_neg fault_none]
  obtain ⟨r2, h2, q2⟩ := lsecond hn t (-2)
  rw [h2, bsome]
  rcases q2 with ⟨rfl, q2⟩ | q2
  case inr =>
    rw [if_pos (fault_ne q2)]
    exact ⟨_, rfl, by simp, fun h => absurd h q2⟩
  have q1 := q2.1
  rw [if_neg fault_none, gapp_big (by simp; omega), bsome, List.nil_append]
  have hs := stackl l (by omega) n 0 t (by omega) (by omega) (by rw [List.drop_zero]; exact c)
  rw [show ((0 : Nat) : Int) = 0 from rfl] at hs
  refine ⟨_, hs, ?_, fun _ => rfl⟩
  show z.length ≤ 1000
  rcases c.len with ⟨_, rfl⟩ | ⟨h, _⟩ <;> omega
theorem law_l {n : Nat} (hn : 5000 < n) (hw : top_h11Works n = some true) (a0 : List (List UInt8)) (a1 : List SHunks) (a2 : Int) (hl : a1.length * 24 ≤ 140737488355328) : ∀ (m i : Nat) (t : List (List UInt8)), i ≤ a1.length → a1.length - i < m → Chain n a0 (a1.take i) t →
    top_TopStacksSurviveTransport_l1 n a0 a1 a2 m t (a1.take i) (i : Int) = some true := by
  intro m
  induction m with
  | zero => intro i _ _ h; omega
  | succ m ih =>
    intro i t hi hm c
    rw [top_TopStacksSurviveTransport_l1, ifdec]
    by_cases hlt : i < a1.length
    · obtain ⟨r, h1, h2⟩ := format_eq hn t a1[i] a2
      rw [if_pos (by omega), gidx_nat, getElem?_lt hlt, bsome, h1, bsome, ifdec]
      rcases h2 with h2 | ⟨h2, hA, hc, h3, h4, q, h5, h6⟩
      · rw [if_pos h2, hw, bsome]
      · rw [h2, if_neg (by decide), h3, parse_eq hn t a1[i] a2 hc hA (apply_valid hn h5) (by rw [← h3]; exact h4), bsome, ifdec, if_neg (by simp)]
        have hlen : (a1.take i).length = i := by rw [List.length_take]; omega
        rw [gapp_big (by rw [hlen]; simp; omega), bsome]
        show ((textpatch_Apply n a1[i] t).bind _) = _
        rw [h5, bsome, ifdec, if_neg (by simp), gadd_one (by omega), bsome]
        have e : a1.take i ++ [(⟨a1[i].Hunks⟩ : SHunks)] = a1.take (i + 1) := by rw [List.take_succ_eq_append_getElem hlt]
        rw [e]
        refine ih (i + 1) q (by omega) (by omega) ?_
        rw [List.take_succ_eq_append_getElem hlt]
        exact c.snoc h5 hA h6
    · have hia : i = a1.length := by omega
      rw [List.take_of_length_le (by omega)] at c ⊢
      obtain ⟨r, h1, h2, h3⟩ := stack_eq hn c
      rw [if_neg (by omega), h1, bsome, bsome, patches_eq hn a1 (by omega) (fun p hp => (c.mem hn p hp).1), bsome, if_pos rfl, if_pos (by simp), strings_eq hn _ h2, bsome, if_pos rfl, ifdec]
      unfold top_TopStacksSurviveTransport_j1
      by_cases h4 : r.2.Code ≠ 0
      · rw [if_pos h4, hw, bsome]
      · rw [if_neg h4]
        have h5 : r.1 = t := h3 (Classical.not_not.1 h4)
        rw [← h5, strings_eq hn _ h2, bsome, if_pos rfl, hw, bsome]
theorem law_stacks (a0 : List (List UInt8)) (a1 : List SHunks) (a2 : Int) (hl : a1.length * 24 ≤ 140737488355328) : top_TopStacksSurviveTransport 6000 a0 a1 a2 = some true := by
  unfold top_TopStacksSurviveTransport
  have := law_l (n := 6000) (by omega) works_eq a0 a1 a2 hl (6000 + a1.length) 0 a0 (by omega) (by omega) (by rw [List.take_zero]; exact .nil _)
  simpa using this
theorem law_stacks2 (a0 : List (List UInt8)) (a1 : List SHunks) (a2 : Int) {A B C : Prop} (hq : A ∧ (a1.length * 24 ≤ reachBytes ∧ B) ∧ C) : top_TopStacksSurviveTransport 6000 a0 a1 a2 = some true :=
  law_stacks a0 a1 a2 (by have := hq.2.1.1; unfold reachBytes at this; omega)
end Go.Proofs.YtjmmlddioeehbaaGreatDoor
