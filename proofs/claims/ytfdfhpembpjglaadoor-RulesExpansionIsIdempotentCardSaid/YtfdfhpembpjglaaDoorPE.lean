/- Rules: the document's leaves: which rules the marks reach. -/
import Derived.Test.YtfdfhpembpjglaaDoorD
import Derived.Test.YtfdfhpembpjglaaDoorPwPlain
import Derived.Test.YtfdfhpembpjglaaDoorPwU3
set_option linter.unusedVariables false
set_option linter.unusedSimpArgs false
namespace Go.Proofs.YtfdfhpembpjglaaDoor
open Go.PW Go
abbrev Kd : SKindInputs → Int := SKindInputs.Kind
abbrev In : SKindInputs → List Int := SKindInputs.Inputs
section
variable {rs : List SKindInputs}
def Inr (rs : List SKindInputs) : Prop := ∀ (i : Nat) (r : SKindInputs), rs[i]? = some r → ∀ n ∈ r.Inputs, 0 ≤ n ∧ n < (rs.length : Int)
theorem Inr.of (hb : Backward In rs) : Inr rs := fun i r hr n hn => by
  have := hb i r hr n hn
  have := (List.getElem?_eq_some_iff.1 hr).1
  omega
theorem sf_l2 (n : Nat) (lp : List Bool → Int → Option (List Bool)) {t : Nat} {r : SKindInputs} (hr : rs[t]? = some r) (hi : ∀ x ∈ r.Inputs, 0 ≤ x ∧ x < (rs.length : Int)) (h8 : r.Inputs.length ≤ 100) :
    ∀ (m q : Nat) (f : Nat → Bool), q ≤ r.Inputs.length → r.Inputs.length - q < m →
      ref6_StandsFor_l2 n rs t lp m (tab rs.length f) q = ref6_StandsFor_j1 n t lp (tab rs.length fun j => f j || (r.Inputs.drop q).contains (j : Int)) := by
  intro m
  induction m with
  | zero => intro q f _ h; omega
  | succ m ih =>
    intro q f hq hm
    rw [ref6_StandsFor_l2, gidx_nat, hr, bsome]
    by_cases h : q < r.Inputs.length
    · simp only [decide_eq_true_eq]
      rw [if_pos (by omega), gidx_nat, getElem?_lt h, bsome]
      obtain ⟨h0, h1⟩ := hi r.Inputs[q] (List.getElem_mem h)
      obtain ⟨x, hx⟩ := natOf h0
      rw [hx, gidx_tab _ (by omega), bsome, gadd_nat (by omega), bsome, gset_tab, ih (q + 1) _ (by omega) (by omega)]
      congr 1
      apply tab_congr
      intro j hj
      rw [List.drop_eq_getElem_cons h, List.contains_cons, hx]
      by_cases e : j = x
      · subst e; simp
      · have e2 : ((j : Int) == (x : Int)) = false := by simp; omega
        rw [if_neg e, e2]; simp
    · simp only [decide_eq_true_eq]
      rw [if_neg (by omega)]
      congr 1
      apply tab_congr
      intro j hj
      rw [List.drop_eq_nil_of_le (by omega)]; simp
theorem sf_l3 (n : Nat) : ∀ (m q : Nat) (f : Nat → Bool), rs.length ≤ 1000 → q ≤ rs.length → rs.length - q < m →
      ref6_StandsFor_l3 n rs m (tab rs.length f) q = some (tab rs.length fun j => if q ≤ j then f j && decide ((rs.map Kd).getD j 6 ≠ 6) else f j) := by
  intro m
  induction m with
  | zero => intro q f _ _ h; omega
  | succ m ih =>
    intro q f hl hq hm
    rw [ref6_StandsFor_l3]
    by_cases h : q < rs.length
    · simp only [decide_eq_true_eq]
      rw [if_pos (by omega), gidx_tab _ h, bsome]
      have step : ∀ b : Bool, b = (f q && decide ((rs.map Kd).getD q 6 ≠ 6)) → ref6_StandsFor_j4 n q (ref6_StandsFor_l3 n rs m) (gset (tab rs.length f) q b) = some (tab rs.length fun j => if q ≤ j then f j && decide ((rs.map Kd).getD j 6 ≠ 6) else f j) := by
        intro b hb
        unfold ref6_StandsFor_j4
        rw [gadd_nat (by omega), bsome, gset_tab, ih (q + 1) _ hl (by omega) (by omega)]
        congr 1
        apply tab_congr
        intro j hj
        by_cases e : j = q
        · subst e; rw [if_neg (by omega), if_pos rfl, if_pos (Nat.le_refl _), hb]
        · by_cases e2 : q ≤ j
          · rw [if_pos (by omega), if_neg e, if_pos e2]
          · rw [if_neg (by omega), if_neg e, if_neg e2]
      cases hf : f q with
      | true =>
        rw [if_pos rfl, gidx_nat, getElem?_lt h, bsome]
        refine step _ ?_
        rw [hf]
        simp [List.getD, h, Kd]
      | false =>
        rw [if_neg (by simp)]
        refine step _ ?_
        rw [hf]; rfl
    · simp only [decide_eq_true_eq]
      rw [if_neg (by omega)]
      congr 1
      apply tab_congr
      intro j hj
      rw [if_neg (by omega)]
def Rch (rs : List SKindInputs) (mk : Nat → Bool) (j : Nat) : Prop := ∃ k : Nat, mk k = true ∧ PW.Reach Kd In rs k j
def Mid (rs : List SKindInputs) (mk : Nat → Bool) (t : Nat) (f : Nat → Bool) : Prop :=
  ∀ j, j < rs.length → (f j = true ↔ if t ≤ j then Rch rs mk j else ∃ (m : Nat) (r : SKindInputs), t ≤ m ∧ rs[m]? = some r ∧ Rch rs mk m ∧ r.Kind = 6 ∧ (j : Int) ∈ r.Inputs)
theorem Mid.step (hb : Backward In rs) {mk f f' f2 : Nat → Bool} {t : Nat} {r : SKindInputs} (hr : rs[t]? = some r) (h : Mid rs mk (t + 1) f)
    (h1 : ∀ j, j < rs.length → f' j = if j = t then (f t || mk t) else f j) (h2 : ∀ j, j < rs.length → f2 j = if f' t = true ∧ r.Kind = 6 then f' j || r.Inputs.contains (j : Int) else f' j) : Mid rs mk t f2 := by
  have ht := (List.getElem?_eq_some_iff.1 hr).1
  have hft : f' t = true ↔ Rch rs mk t := by
    rw [h1 t ht, if_pos rfl, Bool.or_eq_true, h t ht, if_neg (by omega)]
    constructor
    · rintro (⟨m, r', _, b, ⟨k, c1, c2⟩, d, e⟩ | a)
      · exact ⟨k, c1, c2.snoc b d e⟩
      · exact ⟨t, a, .refl _⟩
    · rintro ⟨k, a, b⟩
      rcases b.last with rfl | ⟨m, r', c1, c2, c3, c4⟩
      · exact .inr a
      · refine .inl ⟨m, r', ?_, c2, ⟨k, a, c1⟩, c3, c4⟩
        have := (hb m r' c2 _ c4).2
        omega
  intro j hj
  rw [h2 j hj]
  by_cases hjt : t ≤ j
  · rw [if_pos hjt]
    by_cases e : j = t
    · subst e
      have hno : r.Inputs.contains (j : Int) = false := by
        rw [Bool.eq_false_iff]
        intro hc
        have := (hb j r hr (j : Int) (by simpa using hc)).2
        omega
      rw [← hft, hno]
      split <;> simp
    · have hno : r.Inputs.contains (j : Int) = false := by
        rw [Bool.eq_false_iff]
        intro hc
        have := (hb t r hr (j : Int) (by simpa using hc)).2
        omega
      have := h j hj
      rw [if_pos (by omega)] at this
      rw [hno, ← this, h1 j hj, if_neg e]
      split <;> simp
  · rw [if_neg hjt]
    have hfj : f' j = f j := by rw [h1 j hj, if_neg (by omega)]
    have hj' := h j hj
    rw [if_neg (by omega)] at hj'
    rw [hfj]
    constructor
    · intro hx
      split at hx
      · rename_i hc
        rw [Bool.or_eq_true] at hx
        rcases hx with hx | hx
        · obtain ⟨m, r', a, b⟩ := hj'.1 hx
          exact ⟨m, r', by omega, b⟩
        · exact ⟨t, r, Nat.le_refl _, hr, hft.1 hc.1, hc.2, by simpa using hx⟩
      · obtain ⟨m, r', a, b⟩ := hj'.1 hx
        exact ⟨m, r', by omega, b⟩
    · rintro ⟨m, r', a, b, c, d, e⟩
      by_cases hm : m = t
      · subst hm
        rw [hr] at b; injection b with b; subst b
        rw [if_pos ⟨hft.2 c, d⟩, Bool.or_eq_true]
        exact .inr (by simpa using e)
      · have := hj'.2 ⟨m, r', by omega, b, c, d, e⟩
        split
        · rw [this]; rfl
        · exact this
theorem sf_l1 (n : Nat) (hb : Backward In rs) (hl : rs.length ≤ 1000) (h8 : ∀ r ∈ rs, r.Inputs.length ≤ 100) (hn : 2000 < n) (mk : Nat → Bool) :
    ∀ (m t : Nat) (f : Nat → Bool), t ≤ rs.length → t < m → Mid rs mk t f →
      ∃ g, ref6_StandsFor_l1 n rs (tab rs.length mk) m (tab rs.length f) ((t : Int) - 1) = some (tab rs.length g) ∧ ∀ j, j < rs.length → (g j = true ↔ Rch rs mk j ∧ (rs.map Kd).getD j 6 ≠ 6) := by
  intro m
  induction m with
  | zero => intro t f _ h; omega
  | succ m ih =>
    intro t f ht hm hM
    rw [ref6_StandsFor_l1]
    cases t with
    | zero =>
      simp only [decide_eq_true_eq]
      rw [if_neg (by omega)]
      have := sf_l3 (rs := rs) n n 0 f hl (by omega) (by omega)
      refine ⟨_, this, fun j hj => ?_⟩
      rw [if_pos (Nat.zero_le _), Bool.and_eq_true, hM j hj, if_pos (Nat.zero_le _), decide_eq_true_eq]
    | succ t =>
      have e0 : ((t + 1 : Nat) : Int) - 1 = (t : Int) := by omega
      have hr := getElem?_lt (show t < rs.length by omega)
      simp only [decide_eq_true_eq, e0]
      rw [if_pos (by omega), gidx_tab _ (by omega), bsome]
      have hsub : (gsub (t : Int) 1) = some ((t : Int) - 1) := gsubI (by omega)
      have rest : ∀ f' : Nat → Bool, (∀ j, j < rs.length → f' j = if j = t then (f t || mk t) else f j) →
          ∃ g, ref6_StandsFor_j2 n rs t (ref6_StandsFor_l1 n rs (tab rs.length mk) m) (tab rs.length f') = some (tab rs.length g) ∧ ∀ j, j < rs.length → (g j = true ↔ Rch rs mk j ∧ (rs.map Kd).getD j 6 ≠ 6) := by
        intro f' hf'
        have done : ∀ f2 : Nat → Bool, (∀ j, j < rs.length → f2 j = if f' t = true ∧ rs[t].Kind = 6 then f' j || rs[t].Inputs.contains (j : Int) else f' j) →
            ∃ g, ref6_StandsFor_j1 n t (ref6_StandsFor_l1 n rs (tab rs.length mk) m) (tab rs.length f2) = some (tab rs.length g) ∧ ∀ j, j < rs.length → (g j = true ↔ Rch rs mk j ∧ (rs.map Kd).getD j 6 ≠ 6) := by
          intro f2 hf2
          unfold ref6_StandsFor_j1
          rw [hsub, bsome]
          exact ih t f2 (by omega) (by omega) (Mid.step hb hr hM hf' hf2)
        unfold ref6_StandsFor_j2
        rw [gidx_tab _ (by omega), bsome]
        cases hft : f' t with
        | true =>
          rw [if_pos rfl, gidx_nat, hr, bsome]
          unfold ref6_StandsFor_j3
          by_cases h6 : rs[t].Kind = 6
          · rw [if_pos (by simpa using h6), show (0 : Int) = ((0 : Nat) : Int) from rfl, sf_l2 n _ hr (Inr.of hb t _ hr) (h8 _ (List.getElem_mem _)) n 0 f' (by omega) (by have := h8 _ (List.getElem_mem (show t < rs.length by omega)); omega)]
            refine done _ fun j hj => ?_
            rw [hft, if_pos ⟨rfl, h6⟩]; rfl
          · rw [if_neg (by simpa using h6)]
            refine done _ fun j hj => ?_
            rw [if_neg (fun h => h6 h.2)]
        | false =>
          rw [if_neg (by simp)]
          unfold ref6_StandsFor_j3
          rw [if_neg (by simp)]
          refine done _ fun j hj => ?_
          rw [hft, if_neg (by simp)]
      cases hft : f t with
      | true =>
        rw [if_pos rfl, gset_tab]
        refine rest _ fun j hj => ?_
        by_cases e : j = t
        · subst e; simp [hft]
        · simp [e]
      | false =>
        rw [if_neg (by simp), gidx_tab _ (by omega), bsome, gset_tab]
        refine rest _ fun j hj => ?_
        by_cases e : j = t
        · subst e; simp [hft]
        · simp [e]
theorem sf_eq {n : Nat} (hn : 2000 < n) (hb : Backward In rs) (hl : rs.length ≤ 1000) (h8 : ∀ r ∈ rs, r.Inputs.length ≤ 100) (mk : Nat → Bool) :
    ∃ g, ref6_StandsFor n rs (tab rs.length mk) = some (tab rs.length g) ∧ ∀ j, j < rs.length → (g j = true ↔ Rch rs mk j ∧ (rs.map Kd).getD j 6 ≠ 6) := by
  unfold ref6_StandsFor
  rw [gmake_nat _ (by omega), bsome, gsubI (by omega), bsome, tab_const]
  refine sf_l1 n hb hl h8 hn mk n rs.length _ (Nat.le_refl _) (by omega) fun j hj => ?_
  rw [if_neg (by omega)]
  constructor
  · intro h; cases h
  · rintro ⟨m, r, h1, h2, _⟩
    have := (List.getElem?_eq_some_iff.1 h2).1
    omega
theorem rl_l2 (n : Nat) (g : Nat → Bool) (hl : rs.length ≤ 1000) : ∀ (m q : Nat), q ≤ rs.length → rs.length - q < m →
      ref6_RuleLeaves_l2 n rs (tab rs.length g) m (((List.range q).filter g).map (fun k : Nat => (k : Int))) q = some (((List.range rs.length).filter g).map (fun k : Nat => (k : Int))) := by
  intro m
  induction m with
  | zero => intro q _ h; omega
  | succ m ih =>
    intro q hq hm
    rw [ref6_RuleLeaves_l2]
    by_cases h : q < rs.length
    · simp only [decide_eq_true_eq]
      rw [if_pos (by omega), gidx_tab _ h, bsome]
      have e := ih (q + 1) (by omega) (by omega)
      rw [List.range_succ, List.filter_append] at e
      have hlen : (((List.range q).filter g).map (fun k : Nat => (k : Int))).length ≤ q := by
        rw [List.length_map]; exact Nat.le_trans (List.length_filter_le _ _) (by simp)
      cases hg : g q with
      | true =>
        rw [if_pos rfl, gapp_ok (by simp only [List.length_singleton]; omega), bsome]
        unfold ref6_RuleLeaves_j1
        rw [gadd_nat (by omega), bsome]
        simp only [List.filter_cons, hg, if_true, List.filter_nil, List.map_append, List.map_cons, List.map_nil] at e
        exact e
      | false =>
        rw [if_neg (by simp)]
        unfold ref6_RuleLeaves_j1
        rw [gadd_nat (by omega), bsome]
        simp only [List.filter_cons, hg, List.filter_nil, Bool.false_eq_true, if_false, List.append_nil] at e
        exact e
    · simp only [decide_eq_true_eq]
      rw [if_neg (by omega)]
      have : q = rs.length := by omega
      subst this; rfl
theorem rl_l1 (n : Nat) {i : Nat} {r : SKindInputs} (hr : rs[i]? = some r) (hi : ∀ x ∈ r.Inputs, 0 ≤ x ∧ x < (rs.length : Int)) (h8 : r.Inputs.length ≤ 100) : ∀ (m q : Nat) (f : Nat → Bool), q ≤ r.Inputs.length → r.Inputs.length - q < m →
      ref6_RuleLeaves_l1 n rs i m (tab rs.length f) q = (ref6_StandsFor n rs (tab rs.length fun j => f j || (r.Inputs.drop q).contains (j : Int))).bind fun r8 => ref6_RuleLeaves_l2 n rs r8 n ([] : List Int) 0 := by
  intro m
  induction m with
  | zero => intro q f _ h; omega
  | succ m ih =>
    intro q f hq hm
    rw [ref6_RuleLeaves_l1, gidx_nat, hr, bsome]
    by_cases h : q < r.Inputs.length
    · simp only [decide_eq_true_eq]
      rw [if_pos (by omega), gidx_nat, getElem?_lt h, bsome]
      obtain ⟨h0, h1⟩ := hi r.Inputs[q] (List.getElem_mem h)
      obtain ⟨x, hx⟩ := natOf h0
      rw [hx, gidx_tab _ (by omega), bsome, gadd_nat (by omega), bsome, gset_tab, ih (q + 1) _ (by omega) (by omega)]
      congr 2
      apply tab_congr
      intro j hj
      rw [List.drop_eq_getElem_cons h, List.contains_cons, hx]
      by_cases e : j = x
      · subst e; simp
      · have e2 : ((j : Int) == (x : Int)) = false := by simp; omega
        rw [if_neg e, e2]; simp
    · simp only [decide_eq_true_eq]
      rw [if_neg (by omega)]
      congr 2
      apply tab_congr
      intro j hj
      rw [List.drop_eq_nil_of_le (by omega)]; simp
theorem kd_at {j : Nat} {r : SKindInputs} (h : rs[j]? = some r) : (rs.map Kd).getD j 6 = r.Kind := by simp [List.getD, h, Kd]
theorem rl_eq {n : Nat} (hn : 2000 < n) (hb : Backward In rs) (hl : rs.length ≤ 1000) (h8 : ∀ r ∈ rs, r.Inputs.length ≤ 100) {i : Nat} {r : SKindInputs} (hr : rs[i]? = some r) :
    ∃ l, ref6_RuleLeaves n rs i = some l ∧ ShowsIn Kd In rs r l := by
  have hi := Inr.of hb i r hr
  have h8r := h8 r (List.mem_of_getElem? hr)
  unfold ref6_RuleLeaves
  rw [gmake_nat _ (by omega), bsome, tab_const]
  have h1 := rl_l1 n hr hi h8r n 0 (fun _ => false) (by omega) (by omega)
  simp only [List.drop_zero, Bool.false_or] at h1
  obtain ⟨g, h2, h3⟩ := sf_eq (rs := rs) hn hb hl h8 fun j => r.Inputs.contains (j : Int)
  rw [h2, bsome] at h1
  have h4 := rl_l2 (rs := rs) n g hl n 0 (by omega) (by omega)
  refine ⟨_, h1.trans h4, rising_range _ _, fun x => ?_⟩
  rw [List.mem_map]
  constructor
  · rintro ⟨j, hj, rfl⟩
    rw [List.mem_filter, List.mem_range] at hj
    obtain ⟨⟨k, a, b⟩, c⟩ := (h3 j hj.1).1 hj.2
    have hrj := getElem?_lt hj.1
    rw [kd_at hrj] at c
    exact ⟨k, j, by simpa using a, rfl, leaf_iff_reach.2 ⟨b, _, hrj, c⟩⟩
  · rintro ⟨k, j, a, rfl, b⟩
    obtain ⟨b1, r', b2, b3⟩ := leaf_iff_reach.1 b
    have hjl := (List.getElem?_eq_some_iff.1 b2).1
    refine ⟨j, List.mem_filter.2 ⟨List.mem_range.2 hjl, (h3 j hjl).2 ⟨⟨k, by simpa using a, b1⟩, ?_⟩⟩, rfl⟩
    rw [kd_at b2]; exact b3
end
end Go.Proofs.YtfdfhpembpjglaaDoor
namespace Go.Proofs.YtfdfhpembpjglaaDoor
open Go.PW Go
theorem ref_in (n : Nat) (a b c : Int) : ref6_in n a b c = some (decide (b ≤ a ∧ a ≤ c)) := by
  unfold ref6_in ref6_in_j1
  by_cases h : b ≤ a <;> simp [h]
theorem law_in (n : Nat) (a b c : Int) : law6_in n a b c = some (decide (b ≤ a ∧ a ≤ c)) := by
  unfold law6_in law6_in_j1
  by_cases h : b ≤ a <;> simp [h]
theorem Has_l1 (n : Nat) (l : List Int) (x : Int) (hl : l.length ≤ 100) : ∀ (m i : Nat), i ≤ l.length → l.length - i < m → ref5_Has_l1 n l x m i = some (decide (x ∈ l.drop i)) := by
  intro m
  induction m with
  | zero => intro i _ h; omega
  | succ m ih =>
    intro i hi hm
    rw [ref5_Has_l1]
    by_cases h : i < l.length
    · rw [List.drop_eq_getElem_cons h]
      simp only [decide_eq_true_eq]
      rw [if_pos (by omega), gidx_nat, getElem?_lt h, bsome]
      by_cases q : l[i] = x
      · rw [if_pos q, q]; simp
      · rw [if_neg q, gadd_nat (by omega), bsome, ih (i + 1) (by omega) (by omega)]
        congr 1
        rw [decide_eq_decide, List.mem_cons]
        exact ⟨.inr, fun h => h.resolve_left (Ne.symm q)⟩
    · rw [List.drop_eq_nil_of_le (by omega)]
      simp only [decide_eq_true_eq]
      rw [if_neg (by omega)]; simp
theorem Has_eq {n : Nat} (hn : 5000 < n) {l : List Int} (hl : l.length ≤ 100) (x : Int) : ref5_Has n l x = some (decide (x ∈ l)) := by
  unfold ref5_Has
  have := Has_l1 n l x hl n 0 (by omega) (by omega)
  simpa using this
theorem Ints_l1 (n : Nat) (l : List Int) (hl : l.length ≤ 100) : ∀ (m i : Nat), i ≤ l.length → l.length - i < m → ref5_Ints_l1 n l l m i = some true := by
  intro m
  induction m with
  | zero => intro i _ h; omega
  | succ m ih =>
    intro i hi hm
    rw [ref5_Ints_l1]
    by_cases h : i < l.length
    · simp only [decide_eq_true_eq]
      rw [if_pos (by omega), gidx_nat, getElem?_lt h, bsome, bsome, if_neg (by simp), gadd_nat (by omega), bsome]
      exact ih (i + 1) (by omega) (by omega)
    · simp only [decide_eq_true_eq]
      rw [if_neg (by omega)]
theorem Ints_refl {n : Nat} (hn : 5000 < n) {l : List Int} (hl : l.length ≤ 100) : ref5_Ints n l l = some true := by
  unfold ref5_Ints
  rw [if_neg (by simp)]
  have := Ints_l1 n l hl n 0 (by omega) (by omega)
  simpa using this
theorem Index_l1 (n : Nat) (l : List Int) (x : Int) (hl : l.length ≤ 100) : ∀ (m i : Nat), i ≤ l.length → l.length - i < m → ∃ r, slices_Index_int_l1 n l x m i = some r ∧ (0 ≤ r ↔ x ∈ l.drop i) := by
  intro m
  induction m with
  | zero => intro i _ h; omega
  | succ m ih =>
    intro i hi hm
    rw [slices_Index_int_l1]
    by_cases h : i < l.length
    · rw [List.drop_eq_getElem_cons h]
      simp only [decide_eq_true_eq]
      rw [if_pos (by omega), gidx_nat, getElem?_lt h, bsome]
      by_cases q : x = l[i]
      · rw [if_pos q]; exact ⟨_, rfl, iff_of_true (by omega) (by rw [q]; exact List.mem_cons_self)⟩
      · rw [if_neg q, gadd_nat (by omega), bsome]
        obtain ⟨r, h1, h2⟩ := ih (i + 1) (by omega) (by omega)
        exact ⟨r, h1, by rw [h2, List.mem_cons]; exact ⟨.inr, fun h => h.resolve_left q⟩⟩
    · rw [List.drop_eq_nil_of_le (by omega)]
      simp only [decide_eq_true_eq]
      rw [if_neg (by omega)]; exact ⟨_, rfl, by simp⟩
theorem Contains_eq {n : Nat} (hn : 5000 < n) {l : List Int} (hl : l.length ≤ 100) (x : Int) : slices_Contains_int n l x = some (decide (x ∈ l)) := by
  unfold slices_Contains_int slices_Index_int
  obtain ⟨r, h1, h2⟩ := Index_l1 n l x hl n 0 (by omega) (by omega)
  rw [show (0 : Int) = ((0 : Nat) : Int) from rfl, h1, bsome]
  simp only [List.drop_zero] at h2
  congr 1
  simp only [decide_eq_decide]
  exact h2
theorem rising_len : ∀ {l : List Int} {p N : Int}, Rising l → (∀ x ∈ l, p < x ∧ x < N) → p < N → (l.length : Int) + p < N
  | [], _, _, _, _, h => by simpa using h
  | x :: r, p, N, h, hp, hN => by
    have h1 := List.pairwise_cons.1 h
    have h2 := hp x (by simp)
    have := rising_len (l := r) (p := x) (N := N) h1.2 (fun y hy => ⟨h1.1 y hy, (hp y (by simp [hy])).2⟩) h2.2
    simp only [List.length_cons]; omega
def lvs (I : List Int) (out : List (List Int)) : List Int := dedup (I.flatMap fun k => out.getD k.toNat [])
def stand (r : SKindInputs) (i : Nat) (out : List (List Int)) : List Int := if r.Kind ≠ 6 then [(i : Int)] else lvs r.Inputs out
def rows (rs : List SKindInputs) : Nat → List (List Int)
  | 0 => []
  | i + 1 => rows rs i ++ [match rs[i]? with | some r => stand r i (rows rs i) | none => []]
theorem rows_length (rs : List SKindInputs) : ∀ i, (rows rs i).length = i
  | 0 => rfl
  | i + 1 => by simp [rows, rows_length rs i]
def kof (rs : List SKindInputs) (x : Int) : Int := (rs.map Kd).getD x.toNat 6
theorem leaves_l1 (n : Nat) (r : SKindInputs) (out : List (List Int)) (hi : ∀ x ∈ r.Inputs, 0 ≤ x ∧ x < (out.length : Int)) (h8 : r.Inputs.length ≤ 8) (ho : ∀ l ∈ out, l.length ≤ 100) :
    ∀ (m q : Nat) (w : List Int), q ≤ r.Inputs.length → r.Inputs.length - q < m → w.length ≤ 100 * q →
      rules_leaves_l1 n r out m w q = some (dedup (w ++ (r.Inputs.drop q).flatMap fun k => out.getD k.toNat [])) := by
  intro m
  induction m with
  | zero => intro q w _ h; omega
  | succ m ih =>
    intro q w hq hm hw
    rw [rules_leaves_l1]
    by_cases h : q < r.Inputs.length
    · simp only [decide_eq_true_eq]
      rw [if_pos (by omega), gidx_nat, getElem?_lt h, bsome]
      obtain ⟨h0, h1⟩ := hi r.Inputs[q] (List.getElem_mem h)
      obtain ⟨x, hx⟩ := natOf h0
      rw [hx] at h1
      have hxl : x < out.length := by omega
      rw [hx, gidx_nat, getElem?_lt hxl, bsome]
      have hlen := ho _ (List.getElem_mem hxl)
      rw [gapp_ok (by omega), bsome, gadd_nat (by omega), bsome, ih (q + 1) _ (by omega) (by omega) (by simp only [List.length_append]; omega)]
      rw [List.drop_eq_getElem_cons h, List.flatMap_cons, hx, List.append_assoc]
      congr 3
      simp [hxl]
    · simp only [decide_eq_true_eq]
      rw [if_neg (by omega), List.drop_eq_nil_of_le (by omega)]
      simp only [List.flatMap_nil, List.append_nil]
      rfl
theorem leaves_eq {n : Nat} (hn : 5000 < n) {r : SKindInputs} {out : List (List Int)} (hi : ∀ x ∈ r.Inputs, 0 ≤ x ∧ x < (out.length : Int)) (h8 : r.Inputs.length ≤ 8) (ho : ∀ l ∈ out, l.length ≤ 100) :
    rules_leaves n r out = some (lvs r.Inputs out) := by
  unfold rules_leaves
  have := leaves_l1 n r out hi h8 ho n 0 [] (by omega) (by omega) (by simp)
  simpa [lvs] using this
theorem leavesM_l1 (n : Nat) (I : List Int) (out : List (List Int)) (hi : ∀ x ∈ I, 0 ≤ x ∧ x < (out.length : Int)) (h8 : I.length ≤ 8) (ho : ∀ l ∈ out, l.length ≤ 100) :
    ∀ (m q : Nat) (w : List Int), q ≤ I.length → I.length - q < m → w.length ≤ 100 * q →
      rules_leaves_m1_l1 n I out m w q = some (dedup (w ++ (I.drop q).flatMap fun k => out.getD k.toNat [])) := by
  intro m
  induction m with
  | zero => intro q w _ h; omega
  | succ m ih =>
    intro q w hq hm hw
    rw [rules_leaves_m1_l1]
    by_cases h : q < I.length
    · simp only [decide_eq_true_eq]
      rw [if_pos (by omega), gidx_nat, getElem?_lt h, bsome]
      obtain ⟨h0, h1⟩ := hi I[q] (List.getElem_mem h)
      obtain ⟨x, hx⟩ := natOf h0
      rw [hx] at h1
      have hxl : x < out.length := by omega
      rw [hx, gidx_nat, getElem?_lt hxl, bsome]
      have hlen := ho _ (List.getElem_mem hxl)
      rw [gapp_ok (by omega), bsome, gadd_nat (by omega), bsome, ih (q + 1) _ (by omega) (by omega) (by simp only [List.length_append]; omega)]
      rw [List.drop_eq_getElem_cons h, List.flatMap_cons, hx, List.append_assoc]
      congr 3
      simp [hxl]
    · simp only [decide_eq_true_eq]
      rw [if_neg (by omega), List.drop_eq_nil_of_le (by omega)]
      simp only [List.flatMap_nil, List.append_nil]
      rfl
theorem stands_eq {n : Nat} (hn : 5000 < n) {r : SKindInputs} {out : List (List Int)} (i : Nat) (hi : ∀ x ∈ r.Inputs, 0 ≤ x ∧ x < (out.length : Int)) (h8 : r.Inputs.length ≤ 8) (ho : ∀ l ∈ out, l.length ≤ 100) :
    rules_stands_m1 n r.Kind r.Inputs i out = some (stand r i out) := by
  unfold rules_stands_m1 stand
  simp only [decide_eq_true_eq]
  by_cases h : r.Kind ≠ 6
  · rw [if_pos h, if_pos h]
  · rw [if_neg h, if_neg h]
    unfold rules_leaves_m1
    have := leavesM_l1 n r.Inputs out hi h8 ho n 0 [] (by omega) (by omega) (by simp)
    simp only [List.drop_zero, List.nil_append] at this
    rw [show (0 : Int) = ((0 : Nat) : Int) from rfl, this, bsome]
    rfl
def lcode (N : Nat) : Int → List Int → Int
  | _, [] => 0
  | p, x :: r => if ¬ (0 ≤ x ∧ x < N) then 3 else if x ≤ p then 5 else lcode N x r
theorem lcode_zero {N : Nat} : ∀ {l : List Int} {p : Int}, lcode N p l = 0 → (∀ x ∈ l, 0 ≤ x ∧ x < N) ∧ Rising l ∧ ∀ x ∈ l, p < x
  | [], _, _ => ⟨by simp, .nil, by simp⟩
  | x :: r, p, h => by
    rw [lcode] at h
    split at h
    · cases h
    · rename_i k
      split at h
      · cases h
      · obtain ⟨h1, h2, h3⟩ := lcode_zero h
        refine ⟨?_, List.pairwise_cons.2 ⟨h3, h2⟩, ?_⟩
        · intro y hy
          rcases List.mem_cons.1 hy with rfl | hy
          · exact Classical.not_not.1 k
          · exact h1 y hy
        · intro y hy
          rcases List.mem_cons.1 hy with rfl | hy
          · omega
          · have := h3 y hy; omega
theorem lcode_ok {N : Nat} : ∀ {l : List Int} {p : Int}, (∀ x ∈ l, 0 ≤ x ∧ x < N) → Rising l → (∀ x ∈ l, p < x) → lcode N p l = 0
  | [], _, _, _, _ => rfl
  | x :: r, p, h, hs, hp => by
    rw [lcode, if_neg (Classical.not_not.2 (h x (by simp))), if_neg (by have := hp x (by simp); omega)]
    have hs' := List.pairwise_cons.1 hs
    exact lcode_ok (fun y hy => h y (by simp [hy])) hs'.2 hs'.1
def pT (K : Int) : List Int := if K = 0 then [] else if K = 1 then [] else if K = 2 then [1, 3] else if K = 3 then [2] else if K = 4 then [2, 3] else if K = 5 then [4] else [1, 2, 3, 4, 5]
def rT (K : Int) : Int := if K = 0 then 0 else if K = 1 then 0 else if K = 2 then 1 else if K = 3 then 2 else if K = 4 then 2 else if K = 5 then 4 else 0
def code (K : Int) (ks : List Int) (nin : Nat) : Int :=
  if K = 6 then (if nin = 0 then 9 else 0)
  else if ks.any fun k => !decide (k ∈ pT K) then 8
  else if (K ≠ 1 ∧ ks.countP (fun k => decide (k = rT K)) = 0) ∨ (K = 5 ∧ ks.length ≠ 1) then 9 else 0
def codeAt (rs : List SKindInputs) (i : Nat) : Int :=
  match rs[i]? with
  | none => 0
  | some r => if r.Kind < 1 ∨ 6 < r.Kind then 4 else if 8 < r.Inputs.length then 2 else if lcode i (-1) r.Inputs ≠ 0 then lcode i (-1) r.Inputs
    else code r.Kind ((lvs r.Inputs (rows rs i)).map (kof rs)) r.Inputs.length
theorem pT_len (K : Int) : (pT K).length ≤ 100 := by
  unfold pT
  repeat' split
  all_goals simp
def pend (K : Int) (len many nin : Nat) : Int := if (rT K ≠ 0 ∧ many = 0) ∨ (K = 5 ∧ len ≠ 1) ∨ (K = 6 ∧ nin = 0) then 9 else 0
theorem check_end (n : Nat) (e : SKindInputs) (own : List Int) (many : Nat) :
    (if (decide (rT e.Kind ≠ 0)) = true then
        if (decide ((many : Int) = 0)) = true then
          rules_check_j5 n true
        else
          if (decide (e.Kind = 5)) = true then
            if (decide ((own.length : Int) ≠ 1)) = true then
              rules_check_j5 n true
            else
              if (decide (e.Kind = 6)) = true then
                rules_check_j5 n (decide ((e.Inputs.length : Int) = 0))
              else
                rules_check_j5 n false
          else
            if (decide (e.Kind = 6)) = true then
              rules_check_j5 n (decide ((e.Inputs.length : Int) = 0))
            else
              rules_check_j5 n false
      else
        if (decide (e.Kind = 5)) = true then
          if (decide ((own.length : Int) ≠ 1)) = true then
            rules_check_j5 n true
          else
            if (decide (e.Kind = 6)) = true then
              rules_check_j5 n (decide ((e.Inputs.length : Int) = 0))
            else
              rules_check_j5 n false
        else
          if (decide (e.Kind = 6)) = true then
            rules_check_j5 n (decide ((e.Inputs.length : Int) = 0))
          else
            rules_check_j5 n false) = some (pend e.Kind own.length many e.Inputs.length) := by
  unfold pend rules_check_j5
  simp only [decide_eq_true_eq, if_true, Bool.false_eq_true, if_false]
  have e1 : ((own.length : Int) ≠ 1) ↔ own.length ≠ 1 := by omega
  have e2 : ((many : Int) = 0) ↔ many = 0 := by omega
  have e3 : ((e.Inputs.length : Int) = 0) ↔ e.Inputs.length = 0 := by omega
  by_cases h1 : rT e.Kind = 0 <;> by_cases h2 : many = 0 <;> by_cases h3 : e.Kind = 5 <;> by_cases h4 : own.length = 1 <;> by_cases h5 : e.Kind = 6 <;> by_cases h6 : e.Inputs.length = 0 <;> simp_all <;> omega
section
variable {rs : List SKindInputs}
theorem check_l2 (n : Nat) (hn : 5000 < n) (e : SKindInputs) (hk : 1 ≤ e.Kind ∧ e.Kind ≤ 6) (own : List Int) (ho : ∀ x ∈ own, 0 ≤ x ∧ x < (rs.length : Int)) (hl : own.length ≤ 1000) :
    ∀ (m q many : Nat), q ≤ own.length → own.length - q < m → many ≤ q →
      rules_check_l2 n rs e own m many q = some (if ((own.drop q).map (kof rs)).any fun k => !decide (k ∈ pT e.Kind) then 8 else
        pend e.Kind own.length (many + ((own.drop q).map (kof rs)).countP (fun k => decide (k = rT e.Kind))) e.Inputs.length) := by
  intro m
  induction m with
  | zero => intro q many _ h; omega
  | succ m ih =>
    intro q many hq hm hmq
    have hg : garr 7 e.Kind = some e.Kind := by unfold garr; rw [if_pos (by omega)]
    rw [rules_check_l2]
    by_cases h : q < own.length
    · rw [if_pos (by rw [decide_eq_true_eq]; omega), gidx_nat, getElem?_lt h, bsome, hg, bsome]
      obtain ⟨h0, h1⟩ := ho own[q] (List.getElem_mem h)
      obtain ⟨x, hx⟩ := natOf h0
      rw [hx] at h1
      have hxl : x < rs.length := by omega
      have hkx : kof rs own[q] = rs[x].Kind := by rw [hx]; simp [kof, hxl, Kd]
      rw [hx, gidx_nat, getElem?_lt hxl, bsome]
      change ((slices_Contains_int n (pT e.Kind) rs[x].Kind).bind _) = _
      rw [Contains_eq hn (pT_len _), bsome, List.drop_eq_getElem_cons h, List.map_cons, List.any_cons, hkx]
      by_cases hp : rs[x].Kind ∈ pT e.Kind
      · rw [if_neg (by simp [hp]), bsome]
        simp only [hp, decide_true, Bool.not_true, Bool.false_or, List.countP_cons]
        change (if decide (rs[x].Kind = rT e.Kind) = true then _ else _) = _
        unfold rules_check_j4
        by_cases hr : rs[x].Kind = rT e.Kind
        · rw [if_pos (by simpa using hr), gadd_nat (by omega), bsome, gadd_nat (by omega), bsome, ih (q + 1) (many + 1) (by omega) (by omega) (by omega)]
          simp only [hr, decide_true, if_true]
          rw [show many + 1 + ((own.drop (q + 1)).map (kof rs)).countP (fun k => decide (k = rT e.Kind)) = many + (((own.drop (q + 1)).map (kof rs)).countP (fun k => decide (k = rT e.Kind)) + 1) by omega]
        · rw [if_neg (by simpa using hr), gadd_nat (by omega), bsome, ih (q + 1) many (by omega) (by omega) (by omega)]
          simp only [hr, decide_false, Bool.false_eq_true, if_false, Nat.add_zero]
      · rw [if_pos (by simp [hp])]
        simp [hp]
    · rw [if_neg (by rw [decide_eq_true_eq]; omega), hg, bsome, List.drop_eq_nil_of_le (by omega)]
      have := check_end n e own many
      simp only [List.map_nil, List.any_nil, Bool.false_eq_true, if_false, List.countP_nil, Nat.add_zero]
      exact this
theorem check_l1 (n : Nat) (i : Nat) (hi : i ≤ 1000) (out : List (List Int)) (e : SKindInputs) (h8 : e.Inputs.length ≤ 8) :
    ∀ (m q : Nat) (p : Int), q ≤ e.Inputs.length → (q = 0 ∧ p = -1 ∨ 0 < q ∧ e.Inputs[q - 1]? = some p) → e.Inputs.length - q < m →
      rules_check_l1 n rs (i : Int) out e m q = if lcode i p (e.Inputs.drop q) ≠ 0 then some (lcode i p (e.Inputs.drop q)) else (rules_leaves n e out).bind fun r10 => rules_check_l2 n rs e r10 n 0 0 := by
  intro m
  induction m with
  | zero => intro q p _ _ h; omega
  | succ m ih =>
    intro q p hq hp hm
    rw [rules_check_l1]
    by_cases h : q < e.Inputs.length
    · rw [if_pos (by rw [decide_eq_true_eq]; omega), gidx_nat, getElem?_lt h, bsome, List.drop_eq_getElem_cons h, lcode]
      by_cases k : 0 ≤ e.Inputs[q] ∧ e.Inputs[q] < i
      · have fin : rules_check_j3 n (q : Int) (rules_check_l1 n rs (i : Int) out e m) (decide (e.Inputs[q] ≤ p)) = if (if e.Inputs[q] ≤ p then 5 else lcode i e.Inputs[q] (e.Inputs.drop (q + 1))) ≠ 0 then some (if e.Inputs[q] ≤ p then 5 else lcode i e.Inputs[q] (e.Inputs.drop (q + 1))) else (rules_leaves n e out).bind fun r10 => rules_check_l2 n rs e r10 n 0 0 := by
          unfold rules_check_j3
          by_cases c : e.Inputs[q] ≤ p
          · simp [c]
          · simp only [c, decide_false, Bool.false_eq_true, if_false]
            rw [gadd_nat (by omega), bsome]
            refine ih (q + 1) e.Inputs[q] (by omega) (.inr ⟨by omega, ?_⟩) (by omega)
            rw [Nat.add_sub_cancel]; exact getElem?_lt h
        rw [if_neg (by rw [decide_eq_true_eq]; omega), if_neg (show ¬ ¬ (0 ≤ e.Inputs[q] ∧ e.Inputs[q] < i) from fun q => q k)]
        unfold rules_check_j2
        rw [if_neg (by rw [decide_eq_true_eq]; omega)]
        rcases hp with ⟨e1, e2⟩ | ⟨e1, e2⟩
        · subst e1 e2
          rw [if_neg (by simp), show (false : Bool) = decide (e.Inputs[0] ≤ (-1 : Int)) by simp; omega]
          exact fin
        · rw [if_pos (by rw [decide_eq_true_eq]; omega), gsubI (by omega), bsome, show ((q : Int) - 1) = ((q - 1 : Nat) : Int) by omega, gidx_nat, e2, bsome]
          exact fin
      · rw [if_pos (show ¬ (0 ≤ e.Inputs[q] ∧ e.Inputs[q] < i) from k)]
        refine Eq.trans ?_ (if_pos (show (3 : Int) ≠ 0 by decide)).symm
        unfold rules_check_j2
        by_cases c : e.Inputs[q] < 0
        · rw [if_pos (by rw [decide_eq_true_eq]; exact c), if_pos rfl]
        · rw [if_neg (by rw [decide_eq_true_eq]; exact c), if_pos (by rw [decide_eq_true_eq]; omega)]
    · rw [if_neg (by rw [decide_eq_true_eq]; omega), List.drop_eq_nil_of_le (by omega), lcode, if_neg (by simp)]
structure Rok (rs : List SKindInputs) (i : Nat) (out : List (List Int)) : Prop where
  len : out.length = i
  row : ∀ l ∈ out, Rising l ∧ ∀ x ∈ l, 0 ≤ x ∧ x < (i : Int) ∧ 1 ≤ kof rs x ∧ kof rs x ≤ 5
theorem Rok.lens {i : Nat} {out : List (List Int)} (h : Rok rs i out) (hi : i ≤ 30) : ∀ l ∈ out, l.length ≤ 100 := fun l hl => by
  obtain ⟨h1, h2⟩ := h.row l hl
  have := rising_len (p := -1) (N := i) h1 (fun x hx => ⟨by have := (h2 x hx).1; omega, (h2 x hx).2.1⟩) (by omega)
  omega
theorem Rok.lvs {i : Nat} {out : List (List Int)} (h : Rok rs i out) {I : List Int} (hI : ∀ x ∈ I, 0 ≤ x ∧ x < (i : Int)) : Rising (lvs I out) ∧ ∀ x ∈ YtfdfhpembpjglaaDoor.lvs I out, 0 ≤ x ∧ x < (i : Int) ∧ 1 ≤ kof rs x ∧ kof rs x ≤ 5 := by
  refine ⟨dedup_rising _, fun x hx => ?_⟩
  unfold YtfdfhpembpjglaaDoor.lvs at hx
  rw [mem_dedup, List.mem_flatMap] at hx
  obtain ⟨k, hk, hx⟩ := hx
  obtain ⟨k0, k1⟩ := hI k hk
  have hkl : k.toNat < out.length := by rw [h.len]; omega
  have he : out.getD k.toNat [] = out[k.toNat] := by simp [hkl]
  rw [he] at hx
  exact (h.row _ (List.getElem_mem hkl)).2 x hx
theorem check_eq {n : Nat} (hn : 5000 < n) {i : Nat} (hi : i < rs.length) (h30 : i ≤ 30) (R : Rok rs i (rows rs i)) : rules_check n rs (i : Int) (rows rs i) = some (codeAt rs i) := by
  unfold rules_check codeAt
  have hr := getElem?_lt hi
  rw [gidx_nat, hr, bsome]
  simp only
  have j1 : ∀ b : Bool, b = decide (rs[i].Kind < 1 ∨ 6 < rs[i].Kind) → rules_check_j1 n rs (i : Int) (rows rs i) rs[i] b = some (if rs[i].Kind < 1 ∨ 6 < rs[i].Kind then 4 else if 8 < rs[i].Inputs.length then 2 else if lcode i (-1) rs[i].Inputs ≠ 0 then lcode i (-1) rs[i].Inputs
      else code rs[i].Kind ((lvs rs[i].Inputs (rows rs i)).map (kof rs)) rs[i].Inputs.length) := by
    intro b hb
    unfold rules_check_j1
    by_cases hk : rs[i].Kind < 1 ∨ 6 < rs[i].Kind
    · rw [hb, if_pos (by simpa using hk), if_pos hk]
    · rw [hb, if_neg (by simpa using hk), if_neg hk]
      by_cases h8 : 8 < rs[i].Inputs.length
      · rw [if_pos (by rw [decide_eq_true_eq]; omega), if_pos h8]
      · rw [if_neg (by rw [decide_eq_true_eq]; omega), if_neg h8]
        have h1 := check_l1 (rs := rs) n i (by omega) (rows rs i) rs[i] (by omega) n 0 (-1) (by omega) (.inl ⟨rfl, rfl⟩) (by omega)
        simp only [List.drop_zero] at h1
        refine Eq.trans h1 ?_
        by_cases hc : lcode i (-1) rs[i].Inputs ≠ 0
        · rw [if_pos hc, if_pos hc]
        · rw [if_neg hc, if_neg hc]
          have hc0 : lcode i (-1) rs[i].Inputs = 0 := Classical.not_not.1 hc
          obtain ⟨c1, c2, c3⟩ := lcode_zero hc0
          have hin : ∀ x ∈ rs[i].Inputs, 0 ≤ x ∧ x < ((rows rs i).length : Int) := by rw [rows_length]; exact c1
          rw [leaves_eq hn hin (by omega) (R.lens h30), bsome]
          obtain ⟨v1, v2⟩ := R.lvs c1
          have hlen := rising_len (p := -1) (N := i) v1 (fun x hx => ⟨by have := (v2 x hx).1; omega, (v2 x hx).2.1⟩) (by omega)
          have hk' : 1 ≤ rs[i].Kind ∧ rs[i].Kind ≤ 6 := by omega
          have h2 := check_l2 (rs := rs) n hn rs[i] hk' (lvs rs[i].Inputs (rows rs i)) (fun x hx => ⟨(v2 x hx).1, by have := (v2 x hx).2.1; omega⟩) (by omega) n 0 0 (by omega) (by omega) (by omega)
          simp only [List.drop_zero, Nat.zero_add] at h2
          refine h2.trans (congrArg some ?_)
          unfold code pend
          by_cases h6 : rs[i].Kind = 6
          · rw [if_pos h6, h6]
            have : ((lvs rs[i].Inputs (rows rs i)).map (kof rs)).any (fun k => !decide (k ∈ pT 6)) = false := by
              rw [List.any_eq_false]
              intro k hk
              rw [List.mem_map] at hk
              obtain ⟨x, hx, rfl⟩ := hk
              have := (v2 x hx).2.2
              have : kof rs x ∈ pT 6 := by
                have e : kof rs x = 1 ∨ kof rs x = 2 ∨ kof rs x = 3 ∨ kof rs x = 4 ∨ kof rs x = 5 := by omega
                rcases e with e | e | e | e | e <;> rw [e] <;> decide
              simp [this]
            rw [this]
            simp [rT]
          · rw [if_neg h6]
            simp only [List.length_map]
            split
            · rfl
            · have e : (rT rs[i].Kind ≠ 0) ↔ rs[i].Kind ≠ 1 := by
                have e : rs[i].Kind = 1 ∨ rs[i].Kind = 2 ∨ rs[i].Kind = 3 ∨ rs[i].Kind = 4 ∨ rs[i].Kind = 5 := by omega
                rcases e with e | e | e | e | e <;> rw [e] <;> decide
              simp only [e, h6, false_and, or_false]
  by_cases hk : rs[i].Kind < 1
  · rw [if_pos (by simpa using hk)]
    exact j1 true (by simp [hk])
  · rw [if_neg (by simpa using hk)]
    exact j1 _ (by simp [hk])
end
end Go.Proofs.YtfdfhpembpjglaaDoor
namespace Go.Proofs.YtfdfhpembpjglaaDoor
open Go.PW Go
theorem fault_eq (x y : SCodeIndex) : (x.Code == y.Code && (x.Index == y.Index && true)) = decide (x = y) := by
  cases x; cases y
  simp only [SCodeIndex.mk.injEq, Bool.and_true, Bool.decide_and]
  rfl
theorem fault_zero (x : SCodeIndex) : (x.Code == 0 && (x.Index == 0 && true)) = decide (x = ⟨0, 0⟩) := fault_eq x ⟨0, 0⟩
section
variable {rs : List SKindInputs}
def Fine (rs : List SKindInputs) (i : Nat) : Prop := ∀ j, j < i → codeAt rs j = 0
theorem code0 {j : Nat} {r : SKindInputs} (hr : rs[j]? = some r) (h : codeAt rs j = 0) : (1 ≤ r.Kind ∧ r.Kind ≤ 6) ∧ r.Inputs.length ≤ 8 ∧ (∀ x ∈ r.Inputs, 0 ≤ x ∧ x < (j : Int)) ∧ Rising r.Inputs ∧
    code r.Kind ((lvs r.Inputs (rows rs j)).map (kof rs)) r.Inputs.length = 0 := by
  unfold codeAt at h
  rw [hr] at h
  simp only at h
  split at h
  · cases h
  · split at h
    · cases h
    · split at h
      · rename_i h3; exact absurd h h3
      · rename_i h1 h2 h3
        obtain ⟨a, b, _⟩ := lcode_zero (Classical.not_not.1 h3)
        exact ⟨by omega, by omega, a, b, h⟩
theorem rows_succ {i : Nat} {r : SKindInputs} (hr : rs[i]? = some r) : rows rs (i + 1) = rows rs i ++ [stand r i (rows rs i)] := by
  rw [rows, hr]
theorem kof_nat {j : Nat} {r : SKindInputs} (h : rs[j]? = some r) : kof rs (j : Int) = r.Kind := by
  simp [kof, List.getD, h, Kd]
theorem Fine.rok : ∀ {i : Nat}, Fine rs i → i ≤ rs.length → Rok rs i (rows rs i)
  | 0, _, _ => ⟨rfl, fun l hl => by simp [rows] at hl⟩
  | i + 1, hf, hi => by
    have R := Fine.rok (i := i) (fun j hj => hf j (by omega)) (by omega)
    have hr := getElem?_lt (show i < rs.length by omega)
    obtain ⟨k, k8, kin, _, _⟩ := code0 hr (hf i (by omega))
    rw [rows_succ hr]
    refine ⟨by simp [R.len], fun l hl => ?_⟩
    rw [List.mem_append, List.mem_singleton] at hl
    rcases hl with hl | rfl
    · obtain ⟨a, b⟩ := R.row l hl
      exact ⟨a, fun x hx => ⟨(b x hx).1, by have := (b x hx).2.1; omega, (b x hx).2.2⟩⟩
    · unfold stand
      by_cases h6 : rs[i].Kind ≠ 6
      · rw [if_pos h6]
        refine ⟨by simp [Rising], fun x hx => ?_⟩
        rw [List.mem_singleton] at hx
        subst hx
        rw [kof_nat hr]
        exact ⟨by omega, by omega, by omega, by omega⟩
      · rw [if_neg h6]
        obtain ⟨a, b⟩ := R.lvs kin
        exact ⟨a, fun x hx => ⟨(b x hx).1, by have := (b x hx).2.1; omega, (b x hx).2.2⟩⟩
theorem Fine.shows : ∀ {i : Nat}, Fine rs i → i ≤ rs.length → ∀ (j : Nat) (l : List Int), (rows rs i)[j]? = some l → Shows Kd In rs j l
  | 0, _, _, j, l, h => by simp [rows] at h
  | i + 1, hf, hi, j, l, h => by
    have hr := getElem?_lt (show i < rs.length by omega)
    have ih := Fine.shows (i := i) (fun j hj => hf j (by omega)) (by omega)
    rw [rows_succ hr] at h
    by_cases hj : j < i
    · rw [List.getElem?_append_left (by rw [rows_length]; exact hj)] at h
      exact ih j l h
    · rw [List.getElem?_append_right (by rw [rows_length]; omega), rows_length] at h
      have hji : j = i := by
        have := (List.getElem?_eq_some_iff.1 h).1
        simp at this; omega
      subst hji
      rw [Nat.sub_self] at h
      injection h with h
      subst h
      unfold stand
      by_cases h6 : rs[j].Kind ≠ 6
      · rw [if_pos h6]; exact shows_self hr h6
      · rw [if_neg h6]
        obtain ⟨_, _, kin, _, _⟩ := code0 hr (hf j (by omega))
        exact shows_sub hr (Classical.not_not.1 h6) (showsIn_dedup (r := rs[j]) (by rw [rows_length]; exact kin) ih)
theorem Fine.showsIn {i : Nat} (hf : Fine rs i) (hi : i ≤ rs.length) {I : List Int} {r : SKindInputs} (hr : In r = I) (hI : ∀ x ∈ I, 0 ≤ x ∧ x < (i : Int)) : ShowsIn Kd In rs r (lvs I (rows rs i)) := by
  subst hr
  exact showsIn_dedup (r := r) (by rw [rows_length]; exact hI) (hf.shows hi)
theorem Fine.backward (hf : Fine rs rs.length) : Backward In rs := fun i r hr => (code0 hr (hf i (List.getElem?_eq_some_iff.1 hr).1)).2.2.1
def fscan (rs : List SKindInputs) : Nat → Nat → SCodeIndex
  | _, 0 => ⟨0, 0⟩
  | i, k + 1 => if codeAt rs i ≠ 0 then ⟨codeAt rs i, i⟩ else fscan rs (i + 1) k
def rf (rs : List SKindInputs) : SCodeIndex := if 30 < rs.length then ⟨2, -1⟩ else fscan rs 0 rs.length
theorem fscan_zero : ∀ {k i : Nat}, (fscan rs i k).Code = 0 → fscan rs i k = ⟨0, 0⟩ ∧ ∀ j, i ≤ j → j < i + k → codeAt rs j = 0
  | 0, i, _ => ⟨rfl, fun j h1 h2 => by omega⟩
  | k + 1, i, h => by
    rw [fscan] at h ⊢
    split at h
    · rename_i h1; exact absurd h h1
    · rename_i h1
      rw [if_neg h1]
      obtain ⟨a, b⟩ := fscan_zero h
      refine ⟨a, fun j h2 h3 => ?_⟩
      by_cases e : j = i
      · subst e; exact Classical.not_not.1 h1
      · exact b j (by omega) (by omega)
theorem fscan_ok : ∀ {k i : Nat}, (∀ j, i ≤ j → j < i + k → codeAt rs j = 0) → fscan rs i k = ⟨0, 0⟩
  | 0, i, _ => rfl
  | k + 1, i, h => by
    rw [fscan, if_neg (Classical.not_not.2 (h i (by omega) (by omega)))]
    exact fscan_ok fun j h1 h2 => h j (by omega) (by omega)
theorem rf_zero (h : (rf rs).Code = 0) : rf rs = ⟨0, 0⟩ ∧ rs.length ≤ 30 ∧ Fine rs rs.length := by
  unfold rf at h ⊢
  split at h
  · cases h
  · rename_i h1
    rw [if_neg h1]
    obtain ⟨a, b⟩ := fscan_zero h
    exact ⟨a, by omega, fun j hj => b j (by omega) (by omega)⟩
theorem rf_ok (h1 : rs.length ≤ 30) (h2 : Fine rs rs.length) : rf rs = ⟨0, 0⟩ := by
  unfold rf
  rw [if_neg (by omega)]
  exact fscan_ok fun j _ h => h2 j (by omega)
theorem open_l1 (n : Nat) (hn : 5000 < n) (h30 : rs.length ≤ 30) : ∀ (m i : Nat), i ≤ rs.length → rs.length - i < m → Fine rs i →
    rules_open_l1 n rs m (rows rs i) i = some (if (fscan rs i (rs.length - i)).Code = 0 then rows rs rs.length else [], fscan rs i (rs.length - i)) := by
  intro m
  induction m with
  | zero => intro i _ h; omega
  | succ m ih =>
    intro i hi hm hf
    rw [rules_open_l1]
    by_cases h : i < rs.length
    · rw [if_pos (by rw [decide_eq_true_eq]; omega), gidx_nat, getElem?_lt h, bsome, check_eq hn h (by omega) (hf.rok hi), bsome]
      rw [show rs.length - i = (rs.length - (i + 1)) + 1 by omega, fscan]
      by_cases hc : codeAt rs i ≠ 0
      · rw [if_pos (by simpa using hc), if_pos hc, if_neg hc]
      · rw [if_neg (by simpa using hc), if_neg hc]
        have hr := getElem?_lt h
        obtain ⟨_, k8, kin, _, _⟩ := code0 hr (Classical.not_not.1 hc)
        rw [stands_eq hn i (by rw [rows_length]; exact kin) k8 ((hf.rok hi).lens (by omega)), bsome, gapp_ok (by rw [rows_length]; simp; omega), bsome, gadd_nat (by omega), bsome, ← rows_succ hr]
        refine ih (i + 1) (by omega) (by omega) fun j hj => ?_
        by_cases e : j = i
        · subst e; exact Classical.not_not.1 hc
        · exact hf j (by omega)
    · have : i = rs.length := by omega
      subst this
      rw [if_neg (by rw [decide_eq_true_eq]; omega), Nat.sub_self]
      rfl
theorem open_eq {n : Nat} (hn : 5000 < n) : rules_open n rs = some (if (rf rs).Code = 0 then rows rs rs.length else [], rf rs) := by
  unfold rules_open rf
  by_cases h : 30 < rs.length
  · rw [if_pos (by rw [decide_eq_true_eq]; omega), if_pos h]; rfl
  · rw [if_neg (by rw [decide_eq_true_eq]; omega), if_neg h]
    exact open_l1 n hn (by omega) n 0 (by omega) (by omega) fun j hj => by omega
theorem Validate_eq {n : Nat} (hn : 5000 < n) : rules_Validate n rs = some (rf rs) := by
  unfold rules_Validate
  rw [open_eq hn, bsome]
theorem perm_eq (n : Nat) {K : Int} (hk : 1 ≤ K ∧ K ≤ 5) (k : Int) : ref6_permitted n K k = some (decide (k ∈ pT K)) := by
  have e : K = 1 ∨ K = 2 ∨ K = 3 ∨ K = 4 ∨ K = 5 := by omega
  unfold ref6_permitted ref6_permitted_j1 ref6_permitted_j2
  rcases e with rfl | rfl | rfl | rfl | rfl <;> simp [pT]
  · by_cases h : k = 1 <;> simp [h]
  · by_cases h : k = 2 <;> simp [h]
theorem req_eq (n : Nat) {K : Int} (hk : 1 ≤ K ∧ K ≤ 5) : ref6_required n K = some (rT K) := by
  have e : K = 1 ∨ K = 2 ∨ K = 3 ∨ K = 4 ∨ K = 5 := by omega
  unfold ref6_required
  rcases e with rfl | rfl | rfl | rfl | rfl <;> simp [rT]
def rend (K : Int) (len many : Nat) : Int := if (K ≠ 1 ∧ many = 0) ∨ (K = 5 ∧ len ≠ 1) then 9 else 0
theorem rc_end (n : Nat) (e : SKindInputs) (own : List Int) (many : Nat) :
    (if (decide (e.Kind ≠ 1)) = true then
        if (decide ((many : Int) = 0)) = true then
          ref6_ruleCode_j3 n true
        else
          if (decide (e.Kind = 5)) = true then
            ref6_ruleCode_j3 n (decide ((own.length : Int) ≠ 1))
          else
            ref6_ruleCode_j3 n false
      else
        if (decide (e.Kind = 5)) = true then
          ref6_ruleCode_j3 n (decide ((own.length : Int) ≠ 1))
        else
          ref6_ruleCode_j3 n false) = some (rend e.Kind own.length many) := by
  unfold rend ref6_ruleCode_j3
  simp only [decide_eq_true_eq, if_true, Bool.false_eq_true, if_false]
  have e1 : ((own.length : Int) ≠ 1) ↔ own.length ≠ 1 := by omega
  have e2 : ((many : Int) = 0) ↔ many = 0 := by omega
  by_cases h1 : e.Kind = 1 <;> by_cases h2 : many = 0 <;> by_cases h3 : e.Kind = 5 <;> by_cases h4 : own.length = 1 <;> simp_all
theorem rc_l2 (n : Nat) (e : SKindInputs) (hk : 1 ≤ e.Kind ∧ e.Kind ≤ 5) (own : List Int) (ho : ∀ x ∈ own, 0 ≤ x ∧ x < (rs.length : Int)) (hl : own.length ≤ 1000) :
    ∀ (m q many : Nat), q ≤ own.length → own.length - q < m → many ≤ q →
      ref6_ruleCode_l2 n rs e own m many q = some (if ((own.drop q).map (kof rs)).any fun k => !decide (k ∈ pT e.Kind) then 8 else
        rend e.Kind own.length (many + ((own.drop q).map (kof rs)).countP (fun k => decide (k = rT e.Kind)))) := by
  intro m
  induction m with
  | zero => intro q many _ h; omega
  | succ m ih =>
    intro q many hq hm hmq
    rw [ref6_ruleCode_l2]
    by_cases h : q < own.length
    · rw [if_pos (by rw [decide_eq_true_eq]; omega), gidx_nat, getElem?_lt h, bsome]
      obtain ⟨h0, h1⟩ := ho own[q] (List.getElem_mem h)
      obtain ⟨x, hx⟩ := natOf h0
      rw [hx] at h1
      have hxl : x < rs.length := by omega
      have hkx : kof rs own[q] = rs[x].Kind := by rw [hx]; simp [kof, hxl, Kd]
      rw [hx, gidx_nat, getElem?_lt hxl, bsome, perm_eq n hk, bsome, List.drop_eq_getElem_cons h, List.map_cons, List.any_cons, hkx]
      by_cases hp : rs[x].Kind ∈ pT e.Kind
      · rw [if_neg (by simp [hp]), req_eq n hk, bsome]
        simp only [hp, decide_true, Bool.not_true, Bool.false_or, List.countP_cons]
        unfold ref6_ruleCode_j2
        by_cases hr : rs[x].Kind = rT e.Kind
        · rw [if_pos (by simpa using hr), gadd_nat (by omega), bsome, gadd_nat (by omega), bsome, ih (q + 1) (many + 1) (by omega) (by omega) (by omega)]
          simp only [hr, decide_true, if_true]
          rw [show many + 1 + ((own.drop (q + 1)).map (kof rs)).countP (fun k => decide (k = rT e.Kind)) = many + (((own.drop (q + 1)).map (kof rs)).countP (fun k => decide (k = rT e.Kind)) + 1) by omega]
        · rw [if_neg (by simpa using hr), gadd_nat (by omega), bsome, ih (q + 1) many (by omega) (by omega) (by omega)]
          simp only [hr, decide_false, Bool.false_eq_true, if_false, Nat.add_zero]
      · rw [if_pos (by simp [hp])]
        simp [hp]
    · rw [if_neg (by rw [decide_eq_true_eq]; omega), List.drop_eq_nil_of_le (by omega)]
      have := rc_end n e own many
      simp only [List.map_nil, List.any_nil, Bool.false_eq_true, if_false, List.countP_nil, Nat.add_zero]
      exact this
theorem rc_l1 (n : Nat) (i : Nat) (hi : i ≤ 1000) (e : SKindInputs) (h8 : e.Inputs.length ≤ 8) :
    ∀ (m q : Nat) (p : Int), q ≤ e.Inputs.length → (q = 0 ∧ p = -1 ∨ 0 < q ∧ e.Inputs[q - 1]? = some p) → e.Inputs.length - q < m →
      ref6_ruleCode_l1 n rs (i : Int) e m q = if lcode i p (e.Inputs.drop q) ≠ 0 then some (lcode i p (e.Inputs.drop q)) else if e.Kind = 6 then some (if e.Inputs.length = 0 then 9 else 0) else
        (gcut rs 0 ((i + 1 : Nat) : Int)).bind fun s12 => (ref6_RuleLeaves n s12 i).bind fun r13 => ref6_ruleCode_l2 n rs e r13 n 0 0 := by
  intro m
  induction m with
  | zero => intro q p _ _ h; omega
  | succ m ih =>
    intro q p hq hp hm
    rw [ref6_ruleCode_l1]
    by_cases h : q < e.Inputs.length
    · rw [if_pos (by rw [decide_eq_true_eq]; omega), gidx_nat, getElem?_lt h, bsome, List.drop_eq_getElem_cons h, lcode, gsubI (by omega), bsome, ref_in, bsome]
      by_cases k : 0 ≤ e.Inputs[q] ∧ e.Inputs[q] < i
      · have fin : ref6_ruleCode_j1 n (q : Int) (ref6_ruleCode_l1 n rs (i : Int) e m) (decide (e.Inputs[q] ≤ p)) = if (if e.Inputs[q] ≤ p then 5 else lcode i e.Inputs[q] (e.Inputs.drop (q + 1))) ≠ 0 then some (if e.Inputs[q] ≤ p then 5 else lcode i e.Inputs[q] (e.Inputs.drop (q + 1))) else if e.Kind = 6 then some (if e.Inputs.length = 0 then 9 else 0) else
            (gcut rs 0 ((i + 1 : Nat) : Int)).bind fun s12 => (ref6_RuleLeaves n s12 i).bind fun r13 => ref6_ruleCode_l2 n rs e r13 n 0 0 := by
          unfold ref6_ruleCode_j1
          by_cases c : e.Inputs[q] ≤ p
          · simp [c]
          · simp only [c, decide_false, Bool.false_eq_true, if_false]
            rw [gadd_nat (by omega), bsome]
            refine ih (q + 1) e.Inputs[q] (by omega) (.inr ⟨by omega, ?_⟩) (by omega)
            rw [Nat.add_sub_cancel]; exact getElem?_lt h
        have k' : 0 ≤ e.Inputs[q] ∧ e.Inputs[q] ≤ (i : Int) - 1 := by omega
        rw [if_neg (by simp [k']), if_neg (show ¬ ¬ (0 ≤ e.Inputs[q] ∧ e.Inputs[q] < i) from fun q => q k)]
        rcases hp with ⟨e1, e2⟩ | ⟨e1, e2⟩
        · subst e1 e2
          rw [if_neg (by simp), show (false : Bool) = decide (e.Inputs[0] ≤ (-1 : Int)) by simp; omega]
          exact fin
        · rw [if_pos (by rw [decide_eq_true_eq]; omega), gsubI (by omega), bsome, show ((q : Int) - 1) = ((q - 1 : Nat) : Int) by omega, gidx_nat, e2, bsome]
          exact fin
      · rw [if_pos (show ¬ (0 ≤ e.Inputs[q] ∧ e.Inputs[q] < i) from k)]
        refine Eq.trans ?_ (if_pos (show (3 : Int) ≠ 0 by decide)).symm
        have k' : ¬ (0 ≤ e.Inputs[q] ∧ e.Inputs[q] ≤ (i : Int) - 1) := by omega
        rw [decide_eq_false k']
        rfl
    · rw [if_neg (by rw [decide_eq_true_eq]; omega), List.drop_eq_nil_of_le (by omega), lcode]
      refine Eq.trans ?_ (if_neg (show ¬ (0 : Int) ≠ 0 by decide)).symm
      by_cases h6 : e.Kind = 6
      · rw [if_pos (by simpa using h6), if_pos h6]
        by_cases h0 : e.Inputs.length = 0
        · rw [if_pos (by rw [decide_eq_true_eq]; omega), if_pos h0]
        · rw [if_neg (by rw [decide_eq_true_eq]; omega), if_neg h0]
      · rw [if_neg (by simpa using h6), if_neg h6, gadd_nat (by omega), bsome]
theorem take_get {i j : Nat} (h : j < i) : (rs.take i)[j]? = rs[j]? := by rw [List.getElem?_take, if_pos h]
theorem ruleCode_eq {n : Nat} (hn : 5000 < n) {i : Nat} (hi : i < rs.length) (h30 : rs.length ≤ 30) (hf : Fine rs i) : ref6_ruleCode n rs (i : Int) = some (codeAt rs i) := by
  unfold ref6_ruleCode codeAt
  have hr := getElem?_lt hi
  rw [gidx_nat, hr, bsome, ref_in, bsome]
  simp only
  by_cases hk : rs[i].Kind < 1 ∨ 6 < rs[i].Kind
  · have hk' : ¬ (1 ≤ rs[i].Kind ∧ rs[i].Kind ≤ 6) := by omega
    rw [if_pos hk, decide_eq_false hk']; rfl
  · have hk' : 1 ≤ rs[i].Kind ∧ rs[i].Kind ≤ 6 := by omega
    rw [if_neg hk, decide_eq_true hk', if_neg (by simp)]
    by_cases h8 : 8 < rs[i].Inputs.length
    · rw [if_pos (by rw [decide_eq_true_eq]; omega), if_pos h8]
    · rw [if_neg (by rw [decide_eq_true_eq]; omega), if_neg h8]
      have h1 := rc_l1 (rs := rs) n i (by omega) rs[i] (by omega) n 0 (-1) (by omega) (.inl ⟨rfl, rfl⟩) (by omega)
      simp only [List.drop_zero] at h1
      refine Eq.trans h1 ?_
      by_cases hc : lcode i (-1) rs[i].Inputs ≠ 0
      · rw [if_pos hc, if_pos hc]
      · rw [if_neg hc, if_neg hc]
        obtain ⟨c1, c2, c3⟩ := lcode_zero (Classical.not_not.1 hc)
        unfold code
        by_cases h6 : rs[i].Kind = 6
        · rw [if_pos h6, if_pos h6]
        · rw [if_neg h6, if_neg h6, gcut_take (by omega), bsome]
          -- the leaves
          have hT : ∀ (j : Nat) (r : SKindInputs), (rs.take (i + 1))[j]? = some r → rs[j]? = some r ∧ j ≤ i := by
            intro j r h
            have hj := (List.getElem?_eq_some_iff.1 h).1
            rw [List.length_take] at hj
            rw [take_get (by omega)] at h
            exact ⟨h, by omega⟩
          have hb : Backward In (rs.take (i + 1)) := by
            intro j r h x hx
            obtain ⟨g1, g2⟩ := hT j r h
            by_cases e : j = i
            · subst e
              rw [hr] at g1; injection g1 with g1; subst g1
              exact c1 x hx
            · exact (code0 g1 (hf j (by omega))).2.2.1 x hx
          have h8' : ∀ r ∈ rs.take (i + 1), r.Inputs.length ≤ 100 := by
            intro r hrm
            obtain ⟨j, hj⟩ := List.mem_iff_getElem?.1 hrm
            obtain ⟨g1, g2⟩ := hT j r hj
            by_cases e : j = i
            · subst e
              rw [hr] at g1; injection g1 with g1; subst g1
              omega
            · have := (code0 g1 (hf j (by omega))).2.1
              omega
          obtain ⟨l, l1, l2⟩ := rl_eq (rs := rs.take (i + 1)) (n := n) (by omega) hb (by rw [List.length_take]; omega) h8' (i := i) (r := rs[i]) (by rw [take_get (by omega)]; exact hr)
          have hl : l = lvs rs[i].Inputs (rows rs i) := by
            refine ShowsIn.unique (kind := Kd) (ins := In) (rs := rs) (r := rs[i]) ⟨l2.1, fun x => ?_⟩ (hf.showsIn (by omega) rfl c1)
            rw [l2.2 x]
            constructor
            · rintro ⟨k, j, a, b, c⟩
              exact ⟨k, j, a, b, (Leaf.take hb (fun j r h => (hT j r h).1) (by rw [List.length_take]; have := (c1 _ a).2; omega)).2 c⟩
            · rintro ⟨k, j, a, b, c⟩
              exact ⟨k, j, a, b, (Leaf.take hb (fun j r h => (hT j r h).1) (by rw [List.length_take]; have := (c1 _ a).2; omega)).1 c⟩
          rw [l1, bsome, hl]
          obtain ⟨v1, v2⟩ := (hf.rok (by omega)).lvs c1
          have hlen := rising_len (p := -1) (N := i) v1 (fun x hx => ⟨by have := (v2 x hx).1; omega, (v2 x hx).2.1⟩) (by omega)
          have h2 := rc_l2 (rs := rs) n rs[i] (by omega) (lvs rs[i].Inputs (rows rs i)) (fun x hx => ⟨(v2 x hx).1, by have := (v2 x hx).2.1; omega⟩) (by omega) n 0 0 (by omega) (by omega) (by omega)
          simp only [List.drop_zero, Nat.zero_add] at h2
          refine h2.trans (congrArg some ?_)
          unfold rend
          simp only [List.length_map]
theorem rulesFault_l1 (n : Nat) (hn : 5000 < n) (h30 : rs.length ≤ 30) : ∀ (m i : Nat), i ≤ rs.length → rs.length - i < m → Fine rs i → ref6_RulesFault_l1 n rs m i = some (fscan rs i (rs.length - i)) := by
  intro m
  induction m with
  | zero => intro i _ h; omega
  | succ m ih =>
    intro i hi hm hf
    rw [ref6_RulesFault_l1]
    by_cases h : i < rs.length
    · rw [if_pos (by rw [decide_eq_true_eq]; omega), ruleCode_eq hn h h30 hf, bsome, show rs.length - i = (rs.length - (i + 1)) + 1 by omega, fscan]
      by_cases hc : codeAt rs i ≠ 0
      · rw [if_pos (by simpa using hc), if_pos hc]; rfl
      · rw [if_neg (by simpa using hc), if_neg hc, gadd_nat (by omega), bsome]
        refine ih (i + 1) (by omega) (by omega) fun j hj => ?_
        by_cases e : j = i
        · subst e; exact Classical.not_not.1 hc
        · exact hf j (by omega)
    · have : i = rs.length := by omega
      subst this
      rw [if_neg (by rw [decide_eq_true_eq]; omega), Nat.sub_self]
      rfl
theorem rulesFault_eq {n : Nat} (hn : 5000 < n) : ref6_RulesFault n rs = some (rf rs) := by
  unfold ref6_RulesFault rf
  by_cases h : 30 < rs.length
  · rw [if_pos (by rw [decide_eq_true_eq]; omega), if_pos h]; rfl
  · rw [if_neg (by rw [decide_eq_true_eq]; omega), if_neg h]
    exact rulesFault_l1 n hn (by omega) n 0 (by omega) (by omega) fun j hj => by omega
theorem Leaves_eq {n : Nat} (hn : 5000 < n) (i : Int) : rules_Leaves n rs i = some (if rf rs = ⟨0, 0⟩ then (if i < 0 ∨ (rs.length : Int) ≤ i then ([], ⟨3, -2⟩) else ((rows rs rs.length).getD i.toNat [], ⟨0, 0⟩)) else ([], rf rs)) := by
  unfold rules_Leaves
  rw [open_eq hn, bsome]
  simp only [fault_zero]
  by_cases h0 : rf rs = ⟨0, 0⟩
  · have hc : (rf rs).Code = 0 := by rw [h0]
    simp only [hc, if_true]
    rw [if_neg (by simp [h0]), if_pos h0]
    have fin : ∀ b : Bool, b = decide (i < 0 ∨ (rs.length : Int) ≤ i) → rules_Leaves_j1 n i (rows rs rs.length, rf rs) b = some (if i < 0 ∨ (rs.length : Int) ≤ i then ([], ⟨3, -2⟩) else ((rows rs rs.length).getD i.toNat [], ⟨0, 0⟩)) := by
      intro b hb
      unfold rules_Leaves_j1
      by_cases h : i < 0 ∨ (rs.length : Int) ≤ i
      · rw [hb, if_pos (by simpa using h), if_pos h]
      · rw [hb, if_neg (by simpa using h), if_neg h]
        obtain ⟨k, rfl⟩ := natOf (show 0 ≤ i by omega)
        have hk : k < (rows rs rs.length).length := by rw [rows_length]; omega
        rw [gidx_nat, getElem?_lt hk, bsome]
        simp [List.getD, hk]
    by_cases h : i < 0
    · rw [if_pos (by simpa using h)]; exact fin true (by simp [h])
    · rw [if_neg (by simpa using h)]; exact fin _ (by simp [h])
  · rw [if_pos (by simp [h0]), if_neg h0]
end
end Go.Proofs.YtfdfhpembpjglaaDoor
namespace Go.Proofs.YtfdfhpembpjglaaDoor
open Go.PW Go
section
variable {rs : List SKindInputs}
theorem RuleLeaves_eq {n : Nat} (hn : 5000 < n) (h30 : rs.length ≤ 30) (hf : Fine rs rs.length) {i : Nat} {r : SKindInputs} (hr : rs[i]? = some r) : ref6_RuleLeaves n rs i = some (lvs r.Inputs (rows rs i)) := by
  have hi := (List.getElem?_eq_some_iff.1 hr).1
  have h8 : ∀ r ∈ rs, r.Inputs.length ≤ 100 := by
    intro r hrm
    obtain ⟨j, hj⟩ := List.mem_iff_getElem?.1 hrm
    have := (code0 hj (hf j (List.getElem?_eq_some_iff.1 hj).1)).2.1
    omega
  obtain ⟨l, l1, l2⟩ := rl_eq (rs := rs) (n := n) (by omega) hf.backward (by omega) h8 hr
  have hfi : Fine rs i := fun j hj => hf j (by omega)
  rw [l1, ShowsIn.unique l2 (hfi.showsIn (by omega) rfl (code0 hr (hf i hi)).2.2.1)]
theorem rows_get {i : Nat} {r : SKindInputs} (hr : rs[i]? = some r) : ∀ {k : Nat}, i < k → k ≤ rs.length → (rows rs k)[i]? = some (stand r i (rows rs i))
  | 0, h, _ => by omega
  | k + 1, h, hk => by
    have hrk := getElem?_lt (show k < rs.length by omega)
    rw [rows_succ hrk]
    by_cases e : i = k
    · subst e
      rw [hr] at hrk; injection hrk with hrk
      rw [List.getElem?_append_right (by rw [rows_length]; omega), rows_length, Nat.sub_self, hrk]
      rfl
    · rw [List.getElem?_append_left (by rw [rows_length]; omega)]
      exact rows_get (k := k) hr (by omega) (by omega)
theorem lvs_rows {I : List Int} {i k : Nat} (hik : i ≤ k) (hk : k ≤ rs.length) (hI : ∀ x ∈ I, 0 ≤ x ∧ x < (i : Int)) : lvs I (rows rs k) = lvs I (rows rs i) := by
  unfold lvs
  refine congrArg dedup ?_
  rw [List.flatMap_def, List.flatMap_def]
  refine congrArg List.flatten (List.map_congr_left fun x hx => ?_)
  obtain ⟨h0, h1⟩ := hI x hx
  obtain ⟨j, rfl⟩ := natOf h0
  have hr := getElem?_lt (show j < rs.length by omega)
  have a := rows_get hr (k := k) (by omega) hk
  have b := rows_get hr (k := i) (by omega) (by omega)
  simp only [List.getD, Int.toNat_natCast, a, b]
theorem lvs_len {i : Nat} (hf : Fine rs i) (hi : i ≤ rs.length) (h30 : i ≤ 30) {I : List Int} (hI : ∀ x ∈ I, 0 ≤ x ∧ x < (i : Int)) : (lvs I (rows rs i)).length ≤ 30 := by
  obtain ⟨v1, v2⟩ := (hf.rok hi).lvs hI
  have := rising_len (p := -1) (N := i) v1 (fun x hx => ⟨by have := (v2 x hx).1; omega, (v2 x hx).2.1⟩) (by omega)
  omega
end
theorem stand_len {rs : List SKindInputs} {i : Nat} {r : SKindInputs} (hf : Fine rs rs.length) (h30 : rs.length ≤ 30) (hr : rs[i]? = some r) : (stand r i (rows rs i)).length ≤ 30 := by
  have hi := (List.getElem?_eq_some_iff.1 hr).1
  unfold stand
  split
  · simp
  · exact lvs_len (fun j hj => hf j (by omega)) (by omega) (by omega) (code0 hr (hf i hi)).2.2.1
theorem leaves_at {rs : List SKindInputs} {n : Nat} (hn : 5000 < n) (h0 : rf rs = ⟨0, 0⟩) {i : Nat} {r : SKindInputs} (hr : rs[i]? = some r) : rules_Leaves n rs (i : Int) = some (stand r i (rows rs i), ⟨0, 0⟩) := by
  have hi := (List.getElem?_eq_some_iff.1 hr).1
  rw [Leaves_eq hn, if_pos h0, if_neg (by omega)]
  have := rows_get hr (k := rs.length) hi (Nat.le_refl _)
  simp only [List.getD, Int.toNat_natCast, this, Option.getD_some]
end Go.Proofs.YtfdfhpembpjglaaDoor
namespace Go.Proofs.YtfdfhpembpjglaaDoor
open Go.PW Go
def idx (rs : List SKindInputs) : Nat → Nat
  | 0 => 0
  | i + 1 => idx rs i + (match rs[i]? with | some r => if r.Kind = 6 then 0 else 1 | none => 0)
def ix (rs : List SKindInputs) (x : Int) : Int := (idx rs x.toNat : Nat)
def stepOf (rs : List SKindInputs) (i : Nat) (r : SKindInputs) : SRuleKindInputs := ⟨i, r.Kind, (lvs r.Inputs (rows rs i)).map (ix rs)⟩
def steps (rs : List SKindInputs) : Nat → List SRuleKindInputs
  | 0 => []
  | i + 1 => match rs[i]? with | some r => if r.Kind = 6 then steps rs i else steps rs i ++ [stepOf rs i r] | none => steps rs i
section
variable {rs : List SKindInputs}
theorem steps_group {i : Nat} {r : SKindInputs} (hr : rs[i]? = some r) (h6 : r.Kind = 6) : steps rs (i + 1) = steps rs i ∧ idx rs (i + 1) = idx rs i := by
  rw [steps, idx, hr]; simp [h6]
theorem steps_rule {i : Nat} {r : SKindInputs} (hr : rs[i]? = some r) (h6 : r.Kind ≠ 6) : steps rs (i + 1) = steps rs i ++ [stepOf rs i r] ∧ idx rs (i + 1) = idx rs i + 1 := by
  rw [steps, idx, hr]; simp [h6]
theorem steps_length : ∀ i, i ≤ rs.length → (steps rs i).length = idx rs i
  | 0, _ => rfl
  | i + 1, hi => by
    have hr := getElem?_lt (show i < rs.length by omega)
    have ih := steps_length i (by omega)
    by_cases h6 : rs[i].Kind = 6
    · rw [(steps_group hr h6).1, (steps_group hr h6).2, ih]
    · rw [(steps_rule hr h6).1, (steps_rule hr h6).2, List.length_append, ih]; rfl
theorem idx_le : ∀ i, idx rs i ≤ i
  | 0 => Nat.le_refl _
  | i + 1 => by
    have := idx_le i
    rw [idx]
    split
    · split <;> omega
    · omega
theorem idx_mono {i j : Nat} (h : i ≤ j) : idx rs i ≤ idx rs j := by
  induction j with
  | zero => have : i = 0 := by omega
            subst this; exact Nat.le_refl _
  | succ j ih =>
    by_cases e : i = j + 1
    · subst e; exact Nat.le_refl _
    · have := ih (by omega)
      rw [idx.eq_2]; omega
theorem idx_lt {i j : Nat} {r : SKindInputs} (hr : rs[i]? = some r) (h6 : r.Kind ≠ 6) (h : i < j) : idx rs i < idx rs j := by
  have h1 := (steps_rule hr h6).2
  have h2 := idx_mono (rs := rs) (show i + 1 ≤ j by omega)
  omega
theorem steps_of {j : Nat} {r : SKindInputs} (hr : rs[j]? = some r) (h6 : r.Kind ≠ 6) : ∀ {i : Nat}, j < i → i ≤ rs.length → (steps rs i)[idx rs j]? = some (stepOf rs j r)
  | 0, h, _ => by omega
  | i + 1, h, hi => by
    have hri := getElem?_lt (show i < rs.length by omega)
    have hl := steps_length (rs := rs) i (by omega)
    by_cases e : j = i
    · subst e
      rw [(steps_rule hr h6).1, List.getElem?_append_right (by omega), hl, Nat.sub_self]
      rfl
    · have ih := steps_of hr h6 (i := i) (by omega) (by omega)
      by_cases g6 : rs[i].Kind = 6
      · rw [(steps_group hri g6).1]; exact ih
      · rw [(steps_rule hri g6).1, List.getElem?_append_left (by have := idx_lt hr h6 (show j < i by omega); omega)]
        exact ih
theorem steps_at : ∀ {i p : Nat} {s : SRuleKindInputs}, i ≤ rs.length → (steps rs i)[p]? = some s → ∃ (j : Nat) (r : SKindInputs), j < i ∧ rs[j]? = some r ∧ r.Kind ≠ 6 ∧ idx rs j = p ∧ s = stepOf rs j r
  | 0, p, s, _, h => by simp [steps] at h
  | i + 1, p, s, hi, h => by
    have hri := getElem?_lt (show i < rs.length by omega)
    have hl := steps_length (rs := rs) i (by omega)
    by_cases g6 : rs[i].Kind = 6
    · rw [(steps_group hri g6).1] at h
      obtain ⟨j, r, a, b⟩ := steps_at (i := i) (by omega) h
      exact ⟨j, r, by omega, b⟩
    · rw [(steps_rule hri g6).1] at h
      by_cases hp : p < (steps rs i).length
      · rw [List.getElem?_append_left hp] at h
        obtain ⟨j, r, a, b⟩ := steps_at (i := i) (by omega) h
        exact ⟨j, r, by omega, b⟩
      · rw [List.getElem?_append_right (by omega)] at h
        have hp0 : p - (steps rs i).length = 0 := by
          have := (List.getElem?_eq_some_iff.1 h).1
          simp at this; omega
        rw [hp0] at h
        injection h with h
        exact ⟨i, rs[i], by omega, hri, g6, by omega, h.symm⟩
theorem leaf_rule {i : Nat} (hf : Fine rs i) (hi : i ≤ rs.length) {I : List Int} (hI : ∀ x ∈ I, 0 ≤ x ∧ x < (i : Int)) {x : Int} (hx : x ∈ lvs I (rows rs i)) : ∃ (j : Nat) (r : SKindInputs), x = (j : Int) ∧ j < i ∧ rs[j]? = some r ∧ 1 ≤ r.Kind ∧ r.Kind ≤ 5 := by
  obtain ⟨a, b, c, d⟩ := ((hf.rok hi).lvs hI).2 x hx
  obtain ⟨j, rfl⟩ := natOf a
  have hr := getElem?_lt (show j < rs.length by omega)
  rw [kof_nat hr] at c d
  exact ⟨j, rs[j], rfl, by omega, hr, c, d⟩
theorem ex_l2 (n : Nat) (lp : List Int → List SRuleKindInputs → Int → Option (List SRuleKindInputs × SCodeIndex)) (w4 : List SRuleKindInputs) (e : SKindInputs) (own : List Int) (i : Nat) (f : Nat → Int) (g : Nat → Int)
    (hg : ∀ j, j < rs.length → g j = if j = i then (w4.length : Int) else f j) (ho : ∀ x ∈ own, ∃ j : Nat, x = j ∧ j < rs.length ∧ g j = ix rs j) (hl : own.length ≤ 100) (hw : w4.length ≤ 100) :
    ∀ (m q : Nat) (w : List Int), q ≤ own.length → own.length - q < m → w.length ≤ q →
      rules_Expand_l2 n (tab rs.length f) w4 i lp e own m w q = rules_Expand_j1 n i lp (tab rs.length g) (w4 ++ [⟨i, e.Kind, w ++ (own.drop q).map (ix rs)⟩]) := by
  have hgt : gset (tab rs.length f) (i : Int) (w4.length : Int) = tab rs.length g := by
    rw [gset_tab]
    exact tab_congr fun j hj => (hg j hj).symm
  intro m
  induction m with
  | zero => intro q w _ h; omega
  | succ m ih =>
    intro q w hq hm hwl
    rw [rules_Expand_l2]
    by_cases h : q < own.length
    · rw [if_pos (by rw [decide_eq_true_eq]; omega), gidx_nat, getElem?_lt h, bsome, hgt]
      obtain ⟨j, hj, hjl, hgj⟩ := ho own[q] (List.getElem_mem h)
      rw [hj, gidx_tab _ hjl, bsome, gapp_ok (by simp; omega), bsome, gadd_nat (by omega), bsome, ih (q + 1) _ (by omega) (by omega) (by simp; omega)]
      rw [List.drop_eq_getElem_cons h, List.map_cons, hj, hgj, List.append_assoc]
      rfl
    · rw [if_neg (by rw [decide_eq_true_eq]; omega), gapp_ok (by simp; omega), bsome, hgt, List.drop_eq_nil_of_le (by omega), List.map_nil, List.append_nil]
theorem ex_l1 (n : Nat) (hn : 5000 < n) (h30 : rs.length ≤ 30) (hf : Fine rs rs.length) (F : SCodeIndex) : ∀ (m i : Nat) (f : Nat → Int), i ≤ rs.length → rs.length - i < m →
    (∀ (j : Nat) (r : SKindInputs), j < i → rs[j]? = some r → r.Kind ≠ 6 → f j = ix rs j) →
      rules_Expand_l1 n rs (rows rs rs.length, F) m (tab rs.length f) (steps rs i) i = some (steps rs rs.length, ⟨0, 0⟩) := by
  intro m
  induction m with
  | zero => intro i f _ h; omega
  | succ m ih =>
    intro i f hi hm hF
    rw [rules_Expand_l1]
    by_cases h : i < rs.length
    · have hr := getElem?_lt h
      rw [if_pos (by rw [decide_eq_true_eq]; omega), gidx_nat, hr, bsome]
      by_cases h6 : rs[i].Kind = 6
      · rw [if_pos (by simpa using h6)]
        unfold rules_Expand_j1
        rw [gadd_nat (by omega), bsome, ← (steps_group hr h6).1]
        refine ih (i + 1) f (by omega) (by omega) fun j r hj hrj hk => ?_
        by_cases e : j = i
        · subst e
          rw [hr] at hrj; injection hrj with hrj; subst hrj
          exact absurd h6 hk
        · exact hF j r (by omega) hrj hk
      · rw [if_neg (by simpa using h6), gidx_tab _ h, bsome]
        have hfi : Fine rs i := fun j hj => hf j (by omega)
        obtain ⟨_, k8, kin, _, _⟩ := code0 hr (hf i h)
        rw [leaves_eq hn (out := rows rs rs.length) (by rw [rows_length]; intro x hx; have := kin x hx; omega) k8 ((hf.rok (Nat.le_refl _)).lens h30), bsome, lvs_rows (by omega) (Nat.le_refl _) kin]
        have hlen := steps_length (rs := rs) i (by omega)
        have hidx := idx_le (rs := rs) i
        have hown := lvs_len hfi (by omega) (by omega) kin
        have h2 := ex_l2 (rs := rs) n (rules_Expand_l1 n rs (rows rs rs.length, F) m) (steps rs i) rs[i] (lvs rs[i].Inputs (rows rs i)) i f (fun j => if j = i then ((steps rs i).length : Int) else f j) (fun _ _ => rfl)
          (fun x hx => by
            obtain ⟨j, r, e, hj, hrj, k1, k5⟩ := leaf_rule hfi (by omega) kin hx
            refine ⟨j, e, by omega, ?_⟩
            rw [if_neg (by omega)]
            exact hF j r hj hrj (by omega)) (by omega) (by omega) n 0 [] (by omega) (by omega) (by simp)
        simp only [List.drop_zero, List.nil_append] at h2
        refine Eq.trans h2 ?_
        unfold rules_Expand_j1
        rw [gadd_nat (by omega), bsome]
        have hs : steps rs i ++ [⟨(i : Int), rs[i].Kind, (lvs rs[i].Inputs (rows rs i)).map (ix rs)⟩] = steps rs (i + 1) := (steps_rule hr h6).1.symm
        rw [hs]
        refine ih (i + 1) _ (by omega) (by omega) fun j r hj hrj hk => ?_
        by_cases e : j = i
        · subst e
          rw [if_pos rfl, hlen]
          simp [ix]
        · rw [if_neg e]
          exact hF j r (by omega) hrj hk
    · have : i = rs.length := by omega
      subst this
      rw [if_neg (by rw [decide_eq_true_eq]; omega)]
theorem Expand_eq {n : Nat} (hn : 5000 < n) : rules_Expand n rs = some (if rf rs = ⟨0, 0⟩ then (steps rs rs.length, ⟨0, 0⟩) else ([], rf rs)) := by
  unfold rules_Expand
  rw [open_eq hn, bsome]
  simp only [fault_zero]
  by_cases h0 : rf rs = ⟨0, 0⟩
  · have hc : (rf rs).Code = 0 := by rw [h0]
    obtain ⟨_, h30, hf⟩ := rf_zero hc
    simp only [hc, if_true]
    rw [if_neg (by simp [h0]), if_pos h0, gmake_nat _ (by omega), bsome, tab_const]
    exact ex_l1 (rs := rs) n hn h30 hf _ n 0 _ (by omega) (by omega) fun j r hj => by omega
  · rw [if_pos (by simp [h0]), if_neg h0]
theorem xd_l3 (n : Nat) (w1 : List SRuleKindInputs) (own : List Int) (x8 : Nat) (y : Int) (hy : own[x8]? = some y) (hx8 : x8 ≤ 1000) (lp : List Int → Int → Option (List SRuleKindInputs)) (p0 : Nat) (hp0 : p0 < w1.length)
    (hu : ∀ (p : Nat) (s : SRuleKindInputs), w1[p]? = some s → (s.Rule = y ↔ p = p0)) (hl : w1.length ≤ 100) : ∀ (m q : Nat) (w : List Int), q ≤ w1.length → w1.length - q < m → w.length ≤ 1000 →
      ref6_Expanded_l3 n w1 own x8 lp m w q = lp (if q ≤ p0 then w ++ [(p0 : Int)] else w) ((x8 + 1 : Nat) : Int) := by
  intro m
  induction m with
  | zero => intro q w _ h; omega
  | succ m ih =>
    intro q w hq hm hwl
    rw [ref6_Expanded_l3]
    by_cases h : q < w1.length
    · have hr := getElem?_lt h
      rw [if_pos (by rw [decide_eq_true_eq]; omega), gidx_nat, hr, bsome, gidx_nat, hy, bsome]
      unfold ref6_Expanded_j2
      have := hu q _ hr
      by_cases e : q = p0
      · subst e
        rw [if_pos (by simpa using this.2 rfl), gapp_ok (by simp; omega), bsome, gadd_nat (by omega), bsome]
        have h2 : ref6_Expanded_l3 n w1 own x8 lp m (w ++ [(q : Int)]) ((q + 1 : Nat) : Int) = lp (w ++ [(q : Int)]) ((x8 + 1 : Nat) : Int) := by
          clear ih
          -- behind the place nothing is added
          have key : ∀ (m q' : Nat), q < q' → q' ≤ w1.length → w1.length - q' < m → ref6_Expanded_l3 n w1 own x8 lp m (w ++ [(q : Int)]) q' = lp (w ++ [(q : Int)]) ((x8 + 1 : Nat) : Int) := by
            intro m
            induction m with
            | zero => intro q' _ _ h; omega
            | succ m ih =>
              intro q' hq' hq2 hm
              rw [ref6_Expanded_l3]
              by_cases h : q' < w1.length
              · have hr := getElem?_lt h
                rw [if_pos (by rw [decide_eq_true_eq]; omega), gidx_nat, hr, bsome, gidx_nat, hy, bsome]
                have := hu q' _ hr
                rw [if_neg (by rw [decide_eq_true_eq, this]; omega)]
                unfold ref6_Expanded_j2
                rw [gadd_nat (by omega), bsome]
                exact ih (q' + 1) (by omega) (by omega) (by omega)
              · rw [if_neg (by rw [decide_eq_true_eq]; omega), gadd_nat (by omega), bsome]
          exact key m (q + 1) (by omega) (by omega) (by omega)
        rw [h2, if_pos (Nat.le_refl _)]
      · rw [if_neg (by rw [decide_eq_true_eq, this]; exact e), gadd_nat (by omega), bsome, ih (q + 1) w (by omega) (by omega) hwl]
        by_cases hle : q ≤ p0
        · rw [if_pos (by omega), if_pos hle]
        · rw [if_neg (by omega), if_neg hle]
    · rw [if_neg (by rw [decide_eq_true_eq]; omega), gadd_nat (by omega), bsome, if_neg (by omega)]
theorem xd_l2 (n : Nat) (hn : 5000 < n) (w1 : List SRuleKindInputs) (i : Nat) (lp : List SRuleKindInputs → Int → Option (List SRuleKindInputs)) (e : SKindInputs) (own : List Int) (hl : w1.length ≤ 100) (ho : own.length ≤ 100)
    (hu : ∀ x ∈ own, ∃ p0 : Nat, ix rs x = p0 ∧ p0 < w1.length ∧ ∀ (p : Nat) (s : SRuleKindInputs), w1[p]? = some s → (s.Rule = x ↔ p = p0)) : ∀ (m q : Nat) (w : List Int), q ≤ own.length → own.length - q < m → w.length ≤ q →
      ref6_Expanded_l2 n w1 i lp e own m w q = ref6_Expanded_j1 n i lp (w1 ++ [⟨i, e.Kind, w ++ (own.drop q).map (ix rs)⟩]) := by
  intro m
  induction m with
  | zero => intro q w _ h; omega
  | succ m ih =>
    intro q w hq hm hwl
    rw [ref6_Expanded_l2]
    by_cases h : q < own.length
    · have hr := getElem?_lt h
      obtain ⟨p0, a, b, c⟩ := hu own[q] (List.getElem_mem h)
      rw [if_pos (by rw [decide_eq_true_eq]; omega)]
      have h3 := xd_l3 n w1 own q own[q] hr (by omega) (ref6_Expanded_l2 n w1 i lp e own m) p0 b c hl n 0 w (by omega) (by omega) (by omega)
      refine Eq.trans h3 ?_
      rw [if_pos (Nat.zero_le _), ih (q + 1) _ (by omega) (by omega) (by simp; omega), List.drop_eq_getElem_cons h, List.map_cons, a, List.append_assoc]
      rfl
    · rw [if_neg (by rw [decide_eq_true_eq]; omega), gapp_ok (by simp; omega), bsome, List.drop_eq_nil_of_le (by omega), List.map_nil, List.append_nil]
theorem xd_l1 (n : Nat) (hn : 5000 < n) (h30 : rs.length ≤ 30) (hf : Fine rs rs.length) : ∀ (m i : Nat), i ≤ rs.length → rs.length - i < m →
      ref6_Expanded_l1 n rs m (steps rs i) i = some (steps rs rs.length) := by
  intro m
  induction m with
  | zero => intro i _ h; omega
  | succ m ih =>
    intro i hi hm
    rw [ref6_Expanded_l1]
    by_cases h : i < rs.length
    · have hr := getElem?_lt h
      rw [if_pos (by rw [decide_eq_true_eq]; omega), gidx_nat, hr, bsome]
      by_cases h6 : rs[i].Kind = 6
      · rw [if_pos (by simpa using h6)]
        unfold ref6_Expanded_j1
        rw [gadd_nat (by omega), bsome, ← (steps_group hr h6).1]
        exact ih (i + 1) (by omega) (by omega)
      · have hfi : Fine rs i := fun j hj => hf j (by omega)
        obtain ⟨_, k8, kin, _, _⟩ := code0 hr (hf i h)
        have hlen := steps_length (rs := rs) i (by omega)
        have hidx := idx_le (rs := rs) i
        have hown := lvs_len hfi (by omega) (by omega) kin
        rw [if_neg (by simpa using h6), RuleLeaves_eq hn h30 hf hr, bsome]
        have h2 := xd_l2 (rs := rs) n hn (steps rs i) i (ref6_Expanded_l1 n rs m) rs[i] (lvs rs[i].Inputs (rows rs i)) (by omega) (by omega) (fun x hx => by
          obtain ⟨j, r, e, hj, hrj, k1, k5⟩ := leaf_rule hfi (by omega) kin hx
          have hso := steps_of hrj (by omega) hj (by omega)
          refine ⟨idx rs j, by rw [e]; simp [ix], (List.getElem?_eq_some_iff.1 hso).1, fun p s hs => ?_⟩
          obtain ⟨j', r', a, b, c, d, f⟩ := steps_at (by omega) hs
          subst f
          simp only [stepOf, e]
          constructor
          · intro he
            have : j' = j := by omega
            subst this; exact d.symm
          · intro hp
            subst hp
            rw [hso] at hs
            injection hs with hs
            have := congrArg SRuleKindInputs.Rule hs
            simp only [stepOf] at this
            omega) n 0 [] (by omega) (by omega) (by simp)
        simp only [List.drop_zero, List.nil_append] at h2
        refine Eq.trans h2 ?_
        unfold ref6_Expanded_j1
        have hs : steps rs i ++ [⟨(i : Int), rs[i].Kind, (lvs rs[i].Inputs (rows rs i)).map (ix rs)⟩] = steps rs (i + 1) := (steps_rule hr h6).1.symm
        rw [gadd_nat (by omega), bsome, hs]
        exact ih (i + 1) (by omega) (by omega)
    · have : i = rs.length := by omega
      subst this
      rw [if_neg (by rw [decide_eq_true_eq]; omega)]
theorem Expanded_eq {n : Nat} (hn : 5000 < n) (h30 : rs.length ≤ 30) (hf : Fine rs rs.length) : ref6_Expanded n rs = some (steps rs rs.length) := by
  unfold ref6_Expanded
  exact xd_l1 (rs := rs) n hn h30 hf n 0 (by omega) (by omega)
end
end Go.Proofs.YtfdfhpembpjglaaDoor
namespace Go.Proofs.YtfdfhpembpjglaaDoor
open Go.PW Go
theorem dedup_eq {l : List Int} (h : Rising l) : dedup l = l := rising_ext (dedup_rising l) h fun x => mem_dedup
theorem SameSteps_l1 (n : Nat) (hn : 5000 < n) (l : List SRuleKindInputs) (hl : l.length ≤ 100) (hi : ∀ s ∈ l, s.Inputs.length ≤ 100) : ∀ (m i : Nat), i ≤ l.length → l.length - i < m → ref6_SameSteps_l1 n l l m i = some true := by
  intro m
  induction m with
  | zero => intro i _ h; omega
  | succ m ih =>
    intro i hil hm
    rw [ref6_SameSteps_l1]
    by_cases h : i < l.length
    · rw [if_pos (by rw [decide_eq_true_eq]; omega), gidx_nat, getElem?_lt h, bsome, bsome, if_neg (by simp), if_neg (by simp), Ints_refl hn (hi _ (List.getElem_mem h)), bsome]
      unfold ref6_SameSteps_j1
      rw [if_neg (by simp), gadd_nat (by omega), bsome]
      exact ih (i + 1) (by omega) (by omega)
    · rw [if_neg (by rw [decide_eq_true_eq]; omega)]
theorem SameSteps_refl {n : Nat} (hn : 5000 < n) {l : List SRuleKindInputs} (hl : l.length ≤ 100) (hi : ∀ s ∈ l, s.Inputs.length ≤ 100) : ref6_SameSteps n l l = some true := by
  unfold ref6_SameSteps
  rw [if_neg (by simp)]
  exact SameSteps_l1 n hn l hl hi n 0 (by omega) (by omega)
def exP : List SKindInputs := [⟨1, []⟩, ⟨6, [0]⟩, ⟨2, [1]⟩]
def exQ : List SKindInputs := [⟨1, []⟩, ⟨3, [0]⟩]
theorem lvs_nil (out : List (List Int)) : lvs [] out = [] := dedup_eq (l := []) .nil
theorem lvs_one {k : Int} {out : List (List Int)} {l : List Int} (h : out.getD k.toNat [] = l) (hr : Rising l) : lvs [k] out = l := by
  unfold lvs
  rw [List.flatMap_cons, List.flatMap_nil, List.append_nil, h]
  exact dedup_eq hr
theorem rising1 (x : Int) : Rising [x] := by simp [Rising]
theorem exP_r1 : rows exP 1 = [[0]] := by rw [rows, rows]; rfl
theorem exP_r2 : rows exP 2 = [[0], [0]] := by
  rw [rows, exP_r1]
  show [[0]] ++ [stand ⟨6, [0]⟩ 1 [[0]]] = _
  unfold stand
  rw [if_neg (by simp)]
  show [[0]] ++ [lvs [0] [[0]]] = _
  rw [lvs_one (l := [0]) rfl (rising1 0)]; rfl
theorem exP_l2 : lvs [1] (rows exP 2) = [0] := by rw [exP_r2]; exact lvs_one rfl (rising1 0)
theorem exP_fine : Fine exP 3 := by
  intro j hj
  match j, hj with
  | 0, _ =>
    show (if (1 : Int) < 1 ∨ (6 : Int) < 1 then (4 : Int) else if 8 < 0 then 2 else if lcode 0 (-1) [] ≠ 0 then lcode 0 (-1) [] else code 1 ((lvs [] (rows exP 0)).map (kof exP)) 0) = 0
    rw [lvs_nil]; decide
  | 1, _ =>
    show (if (6 : Int) < 1 ∨ (6 : Int) < 6 then (4 : Int) else if 8 < 1 then 2 else if lcode 1 (-1) [0] ≠ 0 then lcode 1 (-1) [0] else code 6 ((lvs [0] (rows exP 1)).map (kof exP)) 1) = 0
    rw [exP_r1, lvs_one (l := [0]) rfl (rising1 0)]; decide
  | 2, _ =>
    show (if (2 : Int) < 1 ∨ (6 : Int) < 2 then (4 : Int) else if 8 < 1 then 2 else if lcode 2 (-1) [1] ≠ 0 then lcode 2 (-1) [1] else code 2 ((lvs [1] (rows exP 2)).map (kof exP)) 1) = 0
    rw [exP_l2]; decide
theorem exP_ok : rf exP = ⟨0, 0⟩ := rf_ok (by decide) exP_fine
theorem exP_steps : steps exP 3 = [⟨0, 1, []⟩, ⟨2, 2, [0]⟩] := by
  have h1 : steps exP 1 = [⟨0, 1, []⟩] := by
    show [] ++ [stepOf exP 0 ⟨1, []⟩] = _
    unfold stepOf
    rw [lvs_nil]; rfl
  show steps exP 1 ++ [stepOf exP 2 ⟨2, [1]⟩] = _
  rw [h1]
  unfold stepOf
  rw [exP_l2]; decide
theorem exQ_bad : rf exQ = ⟨8, 1⟩ := by
  have h0 : codeAt exQ 0 = 0 := by
    show (if (1 : Int) < 1 ∨ (6 : Int) < 1 then (4 : Int) else if 8 < 0 then 2 else if lcode 0 (-1) [] ≠ 0 then lcode 0 (-1) [] else code 1 ((lvs [] (rows exQ 0)).map (kof exQ)) 0) = 0
    rw [lvs_nil]; decide
  have hr : rows exQ 1 = [[0]] := by rw [rows, rows]; rfl
  have h1 : codeAt exQ 1 = 8 := by
    show (if (3 : Int) < 1 ∨ (6 : Int) < 3 then (4 : Int) else if 8 < 1 then 2 else if lcode 1 (-1) [0] ≠ 0 then lcode 1 (-1) [0] else code 3 ((lvs [0] (rows exQ 1)).map (kof exQ)) 1) = 8
    rw [hr, lvs_one (l := [0]) rfl (rising1 0)]; decide
  unfold rf
  rw [if_neg (by decide)]
  show fscan exQ 0 2 = _
  rw [fscan, if_neg (by rw [h0]; simp), fscan, h1]; rfl
theorem expands_eq {n : Nat} (hn : 5000 < n) : law6_expands n = some true := by
  unfold law6_expands
  have hp : law6_project n = some exP := rfl
  have h1 : rules_Leaves n exP 1 = some ([0], ⟨0, 0⟩) := by
    have := leaves_at hn exP_ok (i := 1) (r := ⟨6, [0]⟩) rfl
    rw [show (1 : Int) = ((1 : Nat) : Int) from rfl, this, exP_r1]
    show some (lvs [0] [[0]], _) = _
    rw [lvs_one (l := [0]) rfl (rising1 0)]
  have h2 : rules_Expand n exP = some ([⟨0, 1, []⟩, ⟨2, 2, [0]⟩], ⟨0, 0⟩) := by
    rw [Expand_eq hn, if_pos exP_ok]
    show some (steps exP 3, _) = _
    rw [exP_steps]
  have h3 : rules_Validate n [⟨1, []⟩, ⟨3, [0]⟩] = some ⟨8, 1⟩ := (Validate_eq (rs := exQ) hn).trans (congrArg some exQ_bad)
  have h4 : ref5_Ints n [0] [0] = some true := Ints_refl hn (by decide)
  have h5 : ref6_SameSteps n [⟨0, 1, []⟩, ⟨2, 2, [0]⟩] [⟨0, 1, []⟩, ⟨2, 2, [0]⟩] = some true := SameSteps_refl hn (by decide) (by decide)
  have h6 : law6_fault n 8 1 = some ⟨8, 1⟩ := rfl
  rw [hp, bsome, h1, bsome, bsome, h2, bsome]
  simp only [decide_true, if_true]
  rw [h4, bsome, if_pos rfl, h5, bsome, if_pos rfl, h3, bsome, h6, bsome]
  rfl
section
variable {rs : List SKindInputs}
theorem in_len {i : Int} : (decide (0 ≤ i ∧ i ≤ (rs.length : Int) - 1)) = !decide (i < 0 ∨ (rs.length : Int) ≤ i) := by
  by_cases h : i < 0 ∨ (rs.length : Int) ≤ i
  · rw [decide_eq_true h, decide_eq_false (by omega)]; rfl
  · rw [decide_eq_false h, decide_eq_true (by omega)]; rfl
theorem ms_bad (n : Nat) (i : Int) (F : SCodeIndex) (hF : F.Code ≠ 0) (hl : rules_Leaves n rs i = some ([], F)) : law6_RulesMatchSpec_j2 n rs i F.Code F.Index = some true := by
  unfold law6_RulesMatchSpec_j2 law6_RulesMatchSpec_j3 law6_RulesMatchSpec_j4
  rw [hl, bsome]
  simp [hF]
theorem rulesMatch_eq {n : Nat} (hn : 5000 < n) (rs : List SKindInputs) (i : Int) : law6_RulesMatchSpec n rs i = some true := by
  unfold law6_RulesMatchSpec
  rw [rulesFault_eq hn, bsome, expands_eq hn, bsome, if_neg (by simp), Validate_eq hn, bsome]
  have e1 : ((rf rs).Code == (rf rs).Code && ((rf rs).Index == (rf rs).Index && true)) = true := by simp
  rw [e1]
  unfold law6_RulesMatchSpec_j1
  rw [if_neg (by simp)]
  by_cases hc : (rf rs).Code = 0
  · obtain ⟨h0, h30, hf⟩ := rf_zero hc
    rw [if_pos (by simpa using hc), gsubI (by omega), bsome, law_in, bsome, in_len]
    unfold law6_RulesMatchSpec_j5
    by_cases hi : i < 0 ∨ (rs.length : Int) ≤ i
    · rw [decide_eq_true hi]
      have hl := Leaves_eq (rs := rs) hn i
      rw [if_pos h0, if_pos hi] at hl
      exact ms_bad n i ⟨3, -2⟩ (by decide) hl
    · rw [decide_eq_false hi]
      obtain ⟨k, rfl⟩ := natOf (show 0 ≤ i by omega)
      have hr := getElem?_lt (show k < rs.length by omega)
      rw [if_neg (by simp), h0]
      unfold law6_RulesMatchSpec_j2
      rw [leaves_at hn h0 hr, bsome]
      unfold law6_RulesMatchSpec_j3
      simp only [BEq.rfl, Bool.and_self, bne_self_eq_false, Bool.false_eq_true, if_false, ne_eq, not_true_eq_false, decide_false]
      have hsl := stand_len hf h30 hr
      rw [gidx_nat, hr, bsome]
      by_cases h6 : rs[k].Kind = 6
      · have hs : stand rs[k] k (rows rs k) = lvs rs[k].Inputs (rows rs k) := by unfold stand; rw [if_neg (by simpa using h6)]
        rw [if_neg (by simpa using h6), RuleLeaves_eq hn h30 hf hr, bsome, hs, Ints_refl hn (by rw [← hs]; omega), bsome]
      · have hs : stand rs[k] k (rows rs k) = [(k : Int)] := by unfold stand; rw [if_pos h6]
        rw [if_pos (by simpa using h6), hs, Ints_refl hn (by simp), bsome]
  · rw [if_neg (by simpa using hc)]
    unfold law6_RulesMatchSpec_j5
    rw [if_neg (by simp)]
    refine ms_bad n i (rf rs) hc ?_
    rw [Leaves_eq hn, if_neg (fun h => hc (by rw [h]))]
theorem steps_small (h30 : rs.length ≤ 30) (hf : Fine rs rs.length) : (steps rs rs.length).length ≤ 100 ∧ ∀ s ∈ steps rs rs.length, s.Inputs.length ≤ 100 := by
  refine ⟨by rw [steps_length _ (Nat.le_refl _)]; have := idx_le (rs := rs) rs.length; omega, fun s hs => ?_⟩
  obtain ⟨p, hp⟩ := List.mem_iff_getElem?.1 hs
  obtain ⟨j, r, a, b, c, d, rfl⟩ := steps_at (Nat.le_refl _) hp
  simp only [stepOf, List.length_map]
  have := lvs_len (fun k hk => hf k (by omega)) (by omega) (by omega) (code0 b (hf j a)).2.2.1
  omega
theorem rulesExpand_eq {n : Nat} (hn : 5000 < n) (rs : List SKindInputs) : law6_RulesExpandMatchesSpec n rs = some true := by
  unfold law6_RulesExpandMatchesSpec law6_RulesExpandMatchesSpec_j1
  rw [rulesFault_eq hn, bsome, Expand_eq hn, bsome, expands_eq hn, bsome, if_pos rfl]
  by_cases hc : (rf rs).Code = 0
  · obtain ⟨h0, h30, hf⟩ := rf_zero hc
    obtain ⟨s1, s2⟩ := steps_small h30 hf
    rw [if_pos h0, h0]
    simp only [BEq.rfl, Bool.and_self, ne_eq, not_true_eq_false, decide_false, Bool.false_eq_true, if_false, decide_true, if_true]
    rw [Expanded_eq hn h30 hf, bsome, SameSteps_refl hn s1 s2, bsome]
    rfl
  · have h0 : rf rs ≠ ⟨0, 0⟩ := fun h => hc (by rw [h])
    simp [h0, hc]
end
end Go.Proofs.YtfdfhpembpjglaaDoor
namespace Go.Proofs.YtfdfhpembpjglaaDoor
open Go.PW Go
theorem may_eq (n : Nat) {K : Int} (hk : 1 ≤ K ∧ K ≤ 5) (k : Int) : law6_may n K k = some (decide (k ∈ pT K)) := by
  have e : K = 1 ∨ K = 2 ∨ K = 3 ∨ K = 4 ∨ K = 5 := by omega
  unfold law6_may law6_may_j1 law6_may_j2
  rcases e with rfl | rfl | rfl | rfl | rfl <;> simp [pT]
  · by_cases h : k = 1 <;> simp [h]
  · by_cases h : k = 2 <;> simp [h]
section
variable {rs : List SKindInputs}
theorem code_rule {i : Nat} {r : SKindInputs} (hr : rs[i]? = some r) (hf : Fine rs (i + 1)) (h6 : r.Kind ≠ 6) :
    (∀ x ∈ lvs r.Inputs (rows rs i), kof rs x ∈ pT r.Kind) ∧ (r.Kind ≠ 1 → lvs r.Inputs (rows rs i) ≠ []) ∧ (r.Kind = 5 → (lvs r.Inputs (rows rs i)).length = 1) := by
  have hc := (code0 hr (hf i (by omega))).2.2.2.2
  unfold code at hc
  rw [if_neg h6] at hc
  split at hc
  · cases hc
  · rename_i h1
    split at hc
    · cases hc
    · rename_i h2
      refine ⟨fun x hx => ?_, fun h => ?_, fun h => ?_⟩
      · refine Classical.byContradiction fun hno => h1 ?_
        rw [List.any_eq_true]
        exact ⟨kof rs x, List.mem_map_of_mem hx, by simp [hno]⟩
      · intro he
        exact h2 (.inl ⟨h, by rw [he]; rfl⟩)
      · refine Classical.byContradiction fun hno => h2 (.inr ⟨h, by simpa using hno⟩)
theorem ix_mono {a b : Int} (ha : ∃ (j : Nat) (r : SKindInputs), a = (j : Int) ∧ rs[j]? = some r ∧ r.Kind ≠ 6) (h : a < b) : ix rs a < ix rs b := by
  obtain ⟨j, r, rfl, hr, h6⟩ := ha
  obtain ⟨k, rfl⟩ := natOf (show 0 ≤ b by omega)
  unfold ix
  simp only [Int.toNat_natCast]
  have := idx_lt hr h6 (show j < k by omega)
  omega
theorem step_rising {i : Nat} (hf : Fine rs i) (hi : i ≤ rs.length) {I : List Int} (hI : ∀ x ∈ I, 0 ≤ x ∧ x < (i : Int)) : Rising ((lvs I (rows rs i)).map (ix rs)) := by
  have hr := ((hf.rok hi).lvs hI).1
  unfold Rising at hr ⊢
  rw [List.pairwise_map]
  refine List.Pairwise.imp_of_mem (fun {a b} ha hb hab => ?_) hr
  obtain ⟨j, r, e, hj, hrj, k1, k5⟩ := leaf_rule hf hi hI ha
  exact ix_mono ⟨j, r, e, hrj, by omega⟩ hab
structure StepOk (rs : List SKindInputs) (p : Nat) (s : SRuleKindInputs) : Prop where
  kind : 1 ≤ s.Kind ∧ s.Kind ≤ 5
  one : s.Kind = 5 → s.Inputs.length = 1
  src : s.Kind = 1 ↔ s.Inputs = []
  rise : Rising s.Inputs
  inp : ∀ x ∈ s.Inputs, ∃ (q : Nat) (t : SRuleKindInputs), x = (q : Int) ∧ q < p ∧ (steps rs rs.length)[q]? = some t ∧ t.Kind ∈ pT s.Kind
  len : s.Inputs.length ≤ 100
theorem step_ok (h30 : rs.length ≤ 30) (hf : Fine rs rs.length) {p : Nat} {s : SRuleKindInputs} (hs : (steps rs rs.length)[p]? = some s) : StepOk rs p s := by
  have hsm := (steps_small h30 hf).2 s (List.mem_of_getElem? hs)
  obtain ⟨j, r, a, b, c, d, rfl⟩ := steps_at (Nat.le_refl _) hs
  have hfj : Fine rs j := fun k hk => hf k (by omega)
  obtain ⟨k, k8, kin, _, _⟩ := code0 b (hf j a)
  obtain ⟨c1, c2, c3⟩ := code_rule b (fun k hk => hf k (by omega)) c
  refine ⟨⟨k.1, by show r.Kind ≤ 5; omega⟩, fun h => by simpa [stepOf] using c3 h, ⟨fun h => ?_, fun h => ?_⟩, step_rising hfj (by omega) kin, fun x hx => ?_, hsm⟩
  · have h1 : r.Kind = 1 := h
    simp only [stepOf, List.map_eq_nil_iff]
    rw [List.eq_nil_iff_forall_not_mem]
    intro x hx
    have := c1 x hx
    rw [h1] at this
    simp [pT] at this
  · simp only [stepOf, List.map_eq_nil_iff] at h
    refine Classical.byContradiction fun hno => c2 hno h
  · simp only [stepOf, List.mem_map] at hx
    obtain ⟨y, hy, rfl⟩ := hx
    obtain ⟨j', r', e, hj, hrj, k1, k5⟩ := leaf_rule hfj (by omega) kin hy
    refine ⟨idx rs j', stepOf rs j' r', by rw [e]; simp [ix], ?_, steps_of hrj (by omega) (by omega) (Nat.le_refl _), ?_⟩
    · rw [← d]; exact idx_lt hrj (by omega) hj
    · have := c1 y hy
      rw [e, kof_nat hrj] at this
      exact this
theorem ty_l2 (n : Nat) (F : SCodeIndex) (h30 : rs.length ≤ 30) (hf : Fine rs rs.length) {p : Nat} {s : SRuleKindInputs} (hs : (steps rs rs.length)[p]? = some s) (lp : Int → Option Bool) : ∀ (m q : Nat), q ≤ s.Inputs.length → s.Inputs.length - q < m →
      law6_RulesStepsAreTyped_l2 n (steps rs rs.length, F) p lp m q = lp ((p + 1 : Nat) : Int) := by
  have ok := step_ok h30 hf hs
  have hl := ok.len
  have hpl := (List.getElem?_eq_some_iff.1 hs).1
  have hsl := (steps_small h30 hf).1
  intro m
  induction m with
  | zero => intro q _ h; omega
  | succ m ih =>
    intro q hq hm
    rw [law6_RulesStepsAreTyped_l2]
    simp only [gidx_nat, hs]
    rw [bsome]
    by_cases h : q < s.Inputs.length
    · rw [if_pos (by rw [decide_eq_true_eq]; omega), getElem?_lt h, bsome, gsubI (by omega), bsome, law_in, bsome]
      obtain ⟨q', t, e, hq', ht, hk⟩ := ok.inp s.Inputs[q] (List.getElem_mem h)
      have hin : 0 ≤ s.Inputs[q] ∧ s.Inputs[q] ≤ (p : Int) - 1 := by omega
      rw [decide_eq_true hin, if_neg (by simp)]
      simp only [e, gidx_nat, ht]
      rw [bsome, may_eq n ok.kind, bsome, decide_eq_true hk, if_neg (by simp)]
      unfold law6_RulesStepsAreTyped_j3
      by_cases h0 : q = 0
      · subst h0
        rw [if_neg (by simp), if_neg (by simp), gadd_nat (by omega), bsome]
        exact ih 1 (by omega) (by omega)
      · rw [if_pos (by rw [decide_eq_true_eq]; omega), gsubI (by omega), bsome, show ((q : Int) - 1) = ((q - 1 : Nat) : Int) by omega, gidx_nat, getElem?_lt (show q - 1 < s.Inputs.length by omega), bsome]
        have hlt := List.pairwise_iff_getElem.1 ok.rise (q - 1) q (by omega) h (by omega)
        rw [if_neg (by rw [decide_eq_true_eq]; omega), gadd_nat (by omega), bsome]
        exact ih (q + 1) (by omega) (by omega)
    · rw [if_neg (by rw [decide_eq_true_eq]; omega), gadd_nat (by omega), bsome]
theorem ty_l1 (n : Nat) (hn : 5000 < n) (F : SCodeIndex) (h30 : rs.length ≤ 30) (hf : Fine rs rs.length) : ∀ (m p : Nat), p ≤ (steps rs rs.length).length → (steps rs rs.length).length - p < m →
      law6_RulesStepsAreTyped_l1 n (steps rs rs.length, F) m p = some true := by
  have hsl := (steps_small h30 hf).1
  intro m
  induction m with
  | zero => intro p _ h; omega
  | succ m ih =>
    intro p hp hm
    rw [law6_RulesStepsAreTyped_l1]
    simp only []
    by_cases h : p < (steps rs rs.length).length
    · have hs := getElem?_lt h
      have ok := step_ok h30 hf hs
      have hl := ok.len
      rw [if_pos (by rw [decide_eq_true_eq]; omega), gidx_nat, hs, bsome, law_in, bsome, decide_eq_true ok.kind, if_neg (by simp)]
      have e1 : ((decide ((steps rs rs.length)[p].Kind = 1)) != (decide (((steps rs rs.length)[p].Inputs.length : Int) = 0))) = false := by
        have := ok.src
        by_cases h1 : (steps rs rs.length)[p].Kind = 1
        · have h2 := this.1 h1
          rw [decide_eq_true h1, decide_eq_true (by rw [h2]; rfl)]; rfl
        · have h2 : (steps rs rs.length)[p].Inputs ≠ [] := fun h => h1 (this.2 h)
          have h3 : ¬ (((steps rs rs.length)[p].Inputs.length : Int) = 0) := by
            have := List.length_pos_iff.2 h2
            omega
          rw [decide_eq_false h1, decide_eq_false h3]; rfl
      have fin : law6_RulesStepsAreTyped_j2 n (steps rs rs.length, F) p (law6_RulesStepsAreTyped_l1 n (steps rs rs.length, F) m) false = some true := by
        unfold law6_RulesStepsAreTyped_j2
        rw [if_neg (by simp)]
        have := ty_l2 n F h30 hf hs (law6_RulesStepsAreTyped_l1 n (steps rs rs.length, F) m) n 0 (by omega) (by omega)
        refine Eq.trans this ?_
        exact ih (p + 1) (by omega) (by omega)
      rw [e1]
      by_cases h5 : (steps rs rs.length)[p].Kind = 5
      · have := ok.one h5
        rw [if_pos (by simpa using h5), if_neg (by rw [decide_eq_true_eq]; omega)]
        exact fin
      · rw [if_neg (by simpa using h5)]
        exact fin
    · rw [if_neg (by rw [decide_eq_true_eq]; omega)]
theorem rulesTyped_eq {n : Nat} (hn : 5000 < n) (rs : List SKindInputs) : law6_RulesStepsAreTyped n rs = some true := by
  unfold law6_RulesStepsAreTyped
  rw [Expand_eq hn, bsome, expands_eq hn, bsome, if_neg (by simp)]
  by_cases hc : (rf rs).Code = 0
  · obtain ⟨h0, h30, hf⟩ := rf_zero hc
    obtain ⟨s1, s2⟩ := steps_small h30 hf
    rw [if_pos h0]
    simp only [ne_eq, not_true_eq_false, decide_false, Bool.false_eq_true, if_false]
    unfold law6_RulesStepsAreTyped_j1
    rw [if_neg (by simp)]
    exact ty_l1 n hn _ h30 hf n 0 (by omega) (by omega)
  · have h0 : rf rs ≠ ⟨0, 0⟩ := fun h => hc (by rw [h])
    rw [if_neg h0]
    simp only [ne_eq, hc, not_false_eq_true, decide_true, if_true]
    unfold law6_RulesStepsAreTyped_j1
    simp only [List.length_nil]
    rw [if_neg (by simp)]
    -- no steps
    obtain ⟨m, rfl⟩ : ∃ m, n = m + 1 := ⟨n - 1, by omega⟩
    rw [law6_RulesStepsAreTyped_l1]
    rfl
theorem rows_take {k : Nat} (hk : k ≤ rs.length) : ∀ {i : Nat}, i ≤ k → rows (rs.take k) i = rows rs i
  | 0, _ => rfl
  | i + 1, h => by
    rw [rows, rows, rows_take hk (by omega), take_get (by omega)]
theorem kof_take {k : Nat} {x : Int} (h0 : 0 ≤ x) (h : x < (k : Int)) : kof (rs.take k) x = kof rs x := by
  obtain ⟨j, rfl⟩ := natOf h0
  unfold kof
  simp only [Int.toNat_natCast, List.getD, List.getElem?_map]
  rw [take_get (by omega)]
theorem codeAt_take {k : Nat} (hk : k ≤ rs.length) (hf : Fine rs rs.length) {i : Nat} (h : i < k) : codeAt (rs.take k) i = 0 := by
  have h0 := hf i (by omega)
  have hr := getElem?_lt (show i < rs.length by omega)
  obtain ⟨_, _, kin, _, _⟩ := code0 hr h0
  have hfi : Fine rs i := fun j hj => hf j (by omega)
  have hm : (lvs rs[i].Inputs (rows rs i)).map (kof (rs.take k)) = (lvs rs[i].Inputs (rows rs i)).map (kof rs) := by
    refine List.map_congr_left fun x hx => ?_
    obtain ⟨j, r, e, hj, _⟩ := leaf_rule hfi (by omega) kin hx
    exact kof_take (by omega) (by omega)
  unfold codeAt at h0 ⊢
  rw [hr] at h0
  rw [take_get h, hr]
  simp only at h0 ⊢
  rw [rows_take hk (by omega), hm]
  exact h0
theorem idx_take {k : Nat} (hk : k ≤ rs.length) : ∀ {i : Nat}, i ≤ k → idx (rs.take k) i = idx rs i
  | 0, _ => rfl
  | i + 1, h => by
    rw [idx, idx, idx_take hk (by omega), take_get (by omega)]
theorem steps_take {k : Nat} (hk : k ≤ rs.length) (hf : Fine rs rs.length) : ∀ {i : Nat}, i ≤ k → steps (rs.take k) i = steps rs i
  | 0, _ => rfl
  | i + 1, h => by
    have hr := getElem?_lt (show i < rs.length by omega)
    rw [steps, steps, steps_take hk hf (by omega), take_get (by omega), hr]
    simp only
    have hs : stepOf (rs.take k) i rs[i] = stepOf rs i rs[i] := by
      unfold stepOf
      rw [rows_take hk (by omega)]
      congr 1
      have hfi : Fine rs i := fun j hj => hf j (by omega)
      refine List.map_congr_left fun x hx => ?_
      obtain ⟨j, r, e, hj, _⟩ := leaf_rule hfi (by omega) (code0 hr (hf i (by omega))).2.2.1 hx
      subst e
      unfold ix
      simp only [Int.toNat_natCast]
      rw [idx_take hk (by omega)]
    rw [hs]
theorem steps_prefix : ∀ {i k : Nat}, i ≤ k → k ≤ rs.length → (steps rs k).take (steps rs i).length = steps rs i ∧ (steps rs i).length ≤ (steps rs k).length
  | i, 0, h, _ => by
    have : i = 0 := by omega
    subst this; simp
  | i, k + 1, h, hk => by
    by_cases e : i = k + 1
    · subst e; simp
    · obtain ⟨a, b⟩ := steps_prefix (i := i) (k := k) (by omega) (by omega)
      have hr := getElem?_lt (show k < rs.length by omega)
      by_cases g6 : rs[k].Kind = 6
      · rw [(steps_group hr g6).1]; exact ⟨a, b⟩
      · rw [(steps_rule hr g6).1, List.take_append_of_le_length b]
        exact ⟨a, by simp; omega⟩
theorem rulesLater_eq {n : Nat} (hn : 5000 < n) (rs : List SKindInputs) (k : Int) : law6_RulesLaterRulesDoNotMatter n rs k = some true := by
  unfold law6_RulesLaterRulesDoNotMatter
  rw [Expand_eq hn, bsome, expands_eq hn, bsome, if_neg (by simp)]
  by_cases hc : (rf rs).Code = 0
  · obtain ⟨h0, h30, hf⟩ := rf_zero hc
    obtain ⟨s1, s2⟩ := steps_small h30 hf
    rw [if_pos h0]
    simp only [ne_eq, not_true_eq_false, decide_false, Bool.false_eq_true, if_false]
    unfold law6_RulesLaterRulesDoNotMatter_j1
    simp only [ne_eq, not_true_eq_false, decide_false, Bool.false_eq_true, if_false]
    rw [law_in, bsome]
    unfold law6_RulesLaterRulesDoNotMatter_j2
    by_cases hk : 0 ≤ k ∧ k ≤ (rs.length : Int)
    · rw [decide_eq_true hk, if_neg (by simp)]
      obtain ⟨j, rfl⟩ := natOf hk.1
      have hj : j ≤ rs.length := by omega
      have hl : (rs.take j).length = j := by rw [List.length_take]; omega
      have hft : Fine (rs.take j) (rs.take j).length := fun i hi => codeAt_take hj hf (by omega)
      have h0' : rf (rs.take j) = ⟨0, 0⟩ := rf_ok (by omega) hft
      rw [gcut_take hj, bsome, Expand_eq hn, bsome, if_pos h0']
      simp only [decide_true, if_true]
      rw [hl, steps_take hj hf (Nat.le_refl _)]
      obtain ⟨p1, p2⟩ := steps_prefix (rs := rs) hj (Nat.le_refl _)
      rw [if_pos (by rw [decide_eq_true_eq]; omega), gcut_take p2, bsome, p1]
      have hsm : ∀ s ∈ steps rs j, s.Inputs.length ≤ 100 := fun s hs => s2 s (by rw [← p1] at hs; exact List.mem_of_mem_take hs)
      rw [SameSteps_refl hn (by omega) hsm, bsome]
      rfl
    · rw [decide_eq_false hk, if_pos (by simp)]
  · have h0 : rf rs ≠ ⟨0, 0⟩ := fun h => hc (by rw [h])
    rw [if_neg h0]
    simp only [ne_eq, hc, not_false_eq_true, decide_true, if_true, List.length_nil]
    unfold law6_RulesLaterRulesDoNotMatter_j1 law6_RulesLaterRulesDoNotMatter_j2
    simp [hc]
end
end Go.Proofs.YtfdfhpembpjglaaDoor
namespace Go.Proofs.YtfdfhpembpjglaaDoor
open Go.PW Go
section
variable {rs : List SKindInputs}
theorem stand_ne (hf : Fine rs rs.length) : ∀ (i : Nat) (r : SKindInputs), rs[i]? = some r → stand r i (rows rs i) ≠ [] := by
  intro i
  induction i using Nat.strongRecOn with
  | _ i ih =>
    intro r hr
    have hi := (List.getElem?_eq_some_iff.1 hr).1
    obtain ⟨_, _, kin, _, hc⟩ := code0 hr (hf i hi)
    unfold stand
    split
    · simp
    · rename_i h6
      have h6 : r.Kind = 6 := Classical.not_not.1 h6
      unfold code at hc
      rw [if_pos h6] at hc
      have hne : r.Inputs ≠ [] := by
        intro he
        rw [he] at hc
        cases hc
      obtain ⟨k, hk⟩ := List.exists_mem_of_ne_nil _ hne
      obtain ⟨a, b⟩ := kin k hk
      obtain ⟨j, rfl⟩ := natOf a
      have hrj := getElem?_lt (show j < rs.length by omega)
      have := ih j (by omega) _ hrj
      obtain ⟨x, hx⟩ := List.exists_mem_of_ne_nil _ this
      intro he
      have : x ∈ lvs r.Inputs (rows rs i) := by
        unfold lvs
        rw [mem_dedup, List.mem_flatMap]
        refine ⟨_, hk, ?_⟩
        simp only [List.getD, Int.toNat_natCast, rows_get hrj (show j < i by omega) (by omega), Option.getD_some]
        exact hx
      rw [he] at this
      cases this
theorem mem_group (hf : Fine rs rs.length) {i : Nat} {r : SKindInputs} (hr : rs[i]? = some r) {x : Int} : x ∈ lvs r.Inputs (rows rs i) ↔ ∃ (k : Nat) (s : SKindInputs), (k : Int) ∈ r.Inputs ∧ rs[k]? = some s ∧ x ∈ stand s k (rows rs k) := by
  have hi := (List.getElem?_eq_some_iff.1 hr).1
  obtain ⟨_, _, kin, _, _⟩ := code0 hr (hf i hi)
  unfold lvs
  rw [mem_dedup, List.mem_flatMap]
  constructor
  · rintro ⟨k, hk, hx⟩
    obtain ⟨a, b⟩ := kin k hk
    obtain ⟨j, rfl⟩ := natOf a
    have hrj := getElem?_lt (show j < rs.length by omega)
    simp only [List.getD, Int.toNat_natCast, rows_get hrj (show j < i by omega) (by omega), Option.getD_some] at hx
    exact ⟨j, _, hk, hrj, hx⟩
  · rintro ⟨j, s, hk, hrj, hx⟩
    obtain ⟨a, b⟩ := kin _ hk
    refine ⟨_, hk, ?_⟩
    simp only [List.getD, Int.toNat_natCast, rows_get hrj (show j < i by omega) (by omega), Option.getD_some]
    exact hx
theorem gr_l2 (n : Nat) (hn : 5000 < n) (l : List Int) (F G : SCodeIndex) (hl : l.length ≤ 100) (row : List Int) (hr : row.length ≤ 100) (hs : ∀ x ∈ row, x ∈ l) (x7 : Nat) (h7 : x7 ≤ 1000) (lp : Int → Option Bool) : ∀ (m q : Nat), q ≤ row.length → row.length - q < m →
      law6_RulesGroupsAreTransparent_l2 n (l, F) x7 lp (row, G) m q = lp ((x7 + 1 : Nat) : Int) := by
  intro m
  induction m with
  | zero => intro q _ h; omega
  | succ m ih =>
    intro q hq hm
    rw [law6_RulesGroupsAreTransparent_l2]
    simp only []
    by_cases h : q < row.length
    · rw [if_pos (by rw [decide_eq_true_eq]; omega), gidx_nat, getElem?_lt h, bsome, Has_eq hn hl, bsome, decide_eq_true (hs _ (List.getElem_mem h)), if_neg (by simp), gadd_nat (by omega), bsome]
      exact ih (q + 1) (by omega) (by omega)
    · rw [if_neg (by rw [decide_eq_true_eq]; omega), gadd_nat (by omega), bsome]
theorem gr_l4 (n : Nat) (hn : 5000 < n) (h0 : rf rs = ⟨0, 0⟩) (l : List Int) (F : SCodeIndex) {i : Nat} {r : SKindInputs} (hr : rs[i]? = some r) (x15 x16 : Nat) (h15 : x15 ≤ 1000) (h16 : x16 ≤ 1000) {y : Int} (hy : l[x16]? = some y) (lp : Int → Int → Option Bool) :
    ∀ (m q : Nat) (b : Bool), q ≤ r.Inputs.length → r.Inputs.length - q < m → (b = true ∨ ∃ (k : Nat) (s : SKindInputs), (k : Int) ∈ r.Inputs.drop q ∧ rs[k]? = some s ∧ y ∈ stand s k (rows rs k)) →
      law6_RulesGroupsAreTransparent_l4 n rs (l, F) r x15 x16 lp m b q = lp ((x15 + 1 : Nat) : Int) ((x16 + 1 : Nat) : Int) := by
  obtain ⟨_, h30, hf⟩ := rf_zero (rs := rs) (by rw [h0])
  have hi := (List.getElem?_eq_some_iff.1 hr).1
  obtain ⟨_, k8, kin, _, _⟩ := code0 hr (hf i hi)
  intro m
  induction m with
  | zero => intro q b _ h; omega
  | succ m ih =>
    intro q b hq hm hb
    rw [law6_RulesGroupsAreTransparent_l4]
    by_cases h : q < r.Inputs.length
    · obtain ⟨a0, a1⟩ := kin _ (List.getElem_mem h)
      obtain ⟨j, hj⟩ := natOf a0
      have hrj := getElem?_lt (show j < rs.length by omega)
      rw [if_pos (by rw [decide_eq_true_eq]; omega), gidx_nat, getElem?_lt h, bsome, hj, leaves_at hn h0 hrj, bsome]
      unfold law6_RulesGroupsAreTransparent_j3
      cases b with
      | true =>
        rw [if_pos rfl, gadd_nat (by omega), bsome]
        exact ih (q + 1) true (by omega) (by omega) (.inl rfl)
      | false =>
        rw [if_neg (by simp)]
        simp only []
        rw [gidx_nat, hy, bsome, Has_eq hn (by have := stand_len hf h30 hrj; omega), bsome, gadd_nat (by omega), bsome]
        refine ih (q + 1) _ (by omega) (by omega) ?_
        rcases hb with hb | ⟨k, s, b1, b2, b3⟩
        · cases hb
        · rw [List.drop_eq_getElem_cons h, List.mem_cons] at b1
          rcases b1 with b1 | b1
          · have : k = j := by omega
            subst this
            rw [hrj] at b2; injection b2 with b2; subst b2
            exact .inl (by simpa using b3)
          · exact .inr ⟨k, s, b1, b2, b3⟩
    · rw [if_neg (by rw [decide_eq_true_eq]; omega)]
      have hbt : b = true := by
        rcases hb with hb | ⟨k, s, b1, _⟩
        · exact hb
        · rw [List.drop_eq_nil_of_le (by omega)] at b1
          cases b1
      rw [hbt, if_neg (by simp), gadd_nat (by omega), bsome, gadd_nat (by omega), bsome]
theorem gr_l3 (n : Nat) (hn : 5000 < n) (h0 : rf rs = ⟨0, 0⟩) (F : SCodeIndex) {i : Nat} {r : SKindInputs} (hr : rs[i]? = some r) (hne : lvs r.Inputs (rows rs i) ≠ []) (hl : (lvs r.Inputs (rows rs i)).length ≤ 100) :
    ∀ (m q : Nat), q ≤ (lvs r.Inputs (rows rs i)).length → (lvs r.Inputs (rows rs i)).length - q < m →
      law6_RulesGroupsAreTransparent_l3 n rs (lvs r.Inputs (rows rs i), F) r m q q = some true := by
  obtain ⟨_, h30, hf⟩ := rf_zero (rs := rs) (by rw [h0])
  have hi := (List.getElem?_eq_some_iff.1 hr).1
  obtain ⟨_, k8, kin, _, _⟩ := code0 hr (hf i hi)
  intro m
  induction m with
  | zero => intro q _ h; omega
  | succ m ih =>
    intro q hq hm
    rw [law6_RulesGroupsAreTransparent_l3]
    simp only []
    by_cases h : q < (lvs r.Inputs (rows rs i)).length
    · rw [if_pos (by rw [decide_eq_true_eq]; omega)]
      have h4 := gr_l4 n hn h0 (lvs r.Inputs (rows rs i)) F hr q q (by omega) (by omega) (getElem?_lt h) (law6_RulesGroupsAreTransparent_l3 n rs (lvs r.Inputs (rows rs i), F) r m) n 0 false (by omega) (by omega)
        (.inr (by
          obtain ⟨k, s, a, b, c⟩ := (mem_group hf hr).1 (List.getElem_mem h)
          exact ⟨k, s, by simpa using a, b, c⟩))
      refine Eq.trans h4 ?_
      exact ih (q + 1) (by omega) (by omega)
    · rw [if_neg (by rw [decide_eq_true_eq]; omega)]
      have := List.length_pos_iff.2 hne
      rw [decide_eq_true (by omega)]
theorem gr_l1 (n : Nat) (hn : 5000 < n) (h0 : rf rs = ⟨0, 0⟩) (F : SCodeIndex) {i : Nat} {r : SKindInputs} (hr : rs[i]? = some r) (hne : lvs r.Inputs (rows rs i) ≠ []) (hl : (lvs r.Inputs (rows rs i)).length ≤ 100) :
    ∀ (m q : Nat), q ≤ r.Inputs.length → r.Inputs.length - q < m →
      law6_RulesGroupsAreTransparent_l1 n rs (lvs r.Inputs (rows rs i), F) r m q = some true := by
  obtain ⟨_, h30, hf⟩ := rf_zero (rs := rs) (by rw [h0])
  have hi := (List.getElem?_eq_some_iff.1 hr).1
  obtain ⟨_, k8, kin, _, _⟩ := code0 hr (hf i hi)
  intro m
  induction m with
  | zero => intro q _ h; omega
  | succ m ih =>
    intro q hq hm
    rw [law6_RulesGroupsAreTransparent_l1]
    by_cases h : q < r.Inputs.length
    · obtain ⟨a0, a1⟩ := kin _ (List.getElem_mem h)
      obtain ⟨j, hj⟩ := natOf a0
      have hrj := getElem?_lt (show j < rs.length by omega)
      rw [if_pos (by rw [decide_eq_true_eq]; omega), gidx_nat, getElem?_lt h, bsome, hj, leaves_at hn h0 hrj, bsome, if_neg (by simp)]
      have h2 := gr_l2 n hn (lvs r.Inputs (rows rs i)) F ⟨0, 0⟩ hl (stand rs[j] j (rows rs j)) (by have := stand_len hf h30 hrj; omega) (fun x hx => (mem_group hf hr).2 ⟨j, _, by rw [← hj]; exact List.getElem_mem h, hrj, hx⟩) q (by omega)
        (law6_RulesGroupsAreTransparent_l1 n rs (lvs r.Inputs (rows rs i), F) r m) n 0 (by omega) (by have := stand_len hf h30 hrj; omega)
      refine Eq.trans h2 ?_
      exact ih (q + 1) (by omega) (by omega)
    · rw [if_neg (by rw [decide_eq_true_eq]; omega)]
      exact gr_l3 n hn h0 F hr hne hl n 0 (by omega) (by omega)
theorem rulesGroups_eq {n : Nat} (hn : 5000 < n) (rs : List SKindInputs) (i : Int) : law6_RulesGroupsAreTransparent n rs i = some true := by
  unfold law6_RulesGroupsAreTransparent
  have bad : ∀ F : SCodeIndex, F.Code ≠ 0 → rules_Leaves n rs i = some ([], F) → ((rules_Leaves n rs i).bind fun r1 =>
      (law6_expands n).bind fun r27 => if (!r27) = true then law6_RulesGroupsAreTransparent_j1 n rs i r1 true else law6_RulesGroupsAreTransparent_j1 n rs i r1 (decide (r1.2.Code ≠ 0))) = some true := by
    intro F hF hl
    rw [hl, bsome, expands_eq hn, bsome, if_neg (by simp), decide_eq_true hF]
    unfold law6_RulesGroupsAreTransparent_j1
    rw [if_pos rfl, expands_eq hn, bsome]
    rfl
  by_cases h0 : rf rs = ⟨0, 0⟩
  · obtain ⟨_, h30, hf⟩ := rf_zero (rs := rs) (by rw [h0])
    by_cases hi : i < 0 ∨ (rs.length : Int) ≤ i
    · have hl := Leaves_eq (rs := rs) hn i
      rw [if_pos h0, if_pos hi] at hl
      exact bad ⟨3, -2⟩ (by decide) hl
    · obtain ⟨k, rfl⟩ := natOf (show 0 ≤ i by omega)
      have hr := getElem?_lt (show k < rs.length by omega)
      have hsl := stand_len hf h30 hr
      rw [leaves_at hn h0 hr, bsome, expands_eq hn, bsome, if_neg (by simp)]
      simp only [ne_eq, not_true_eq_false, decide_false]
      unfold law6_RulesGroupsAreTransparent_j1
      rw [if_neg (by simp), gidx_nat, hr, bsome]
      by_cases h6 : rs[k].Kind = 6
      · have hs : stand rs[k] k (rows rs k) = lvs rs[k].Inputs (rows rs k) := by unfold stand; rw [if_neg (by simpa using h6)]
        rw [if_neg (by simpa using h6), hs]
        exact gr_l1 n hn h0 _ hr (by rw [← hs]; exact stand_ne hf k _ hr) (by rw [← hs]; omega) n 0 (by omega) (by have := (code0 hr (hf k (by omega))).2.1; omega)
      · have hs : stand rs[k] k (rows rs k) = [(k : Int)] := by unfold stand; rw [if_pos h6]
        rw [if_pos (by simpa using h6), hs, Ints_refl hn (by simp), bsome]
  · have hc : (rf rs).Code ≠ 0 := fun h => h0 (rf_zero h).1
    refine bad (rf rs) hc ?_
    rw [Leaves_eq hn, if_neg h0]
def flat (l : List SRuleKindInputs) : List SKindInputs := l.map fun s => ⟨s.Kind, s.Inputs⟩
theorem flat_get {l : List SRuleKindInputs} {p : Nat} {s : SRuleKindInputs} (h : l[p]? = some s) : (flat l)[p]? = some ⟨s.Kind, s.Inputs⟩ := by simp [flat, h]
theorem flat_at {l : List SRuleKindInputs} {p : Nat} {r : SKindInputs} (h : (flat l)[p]? = some r) : ∃ s, l[p]? = some s ∧ r = ⟨s.Kind, s.Inputs⟩ := by
  simp only [flat, List.getElem?_map, Option.map_eq_some_iff] at h
  obtain ⟨s, a, b⟩ := h
  exact ⟨s, a, b.symm⟩
def NoG (fs : List SKindInputs) : Prop := ∀ (p : Nat) (r : SKindInputs), fs[p]? = some r → r.Kind ≠ 6
theorem rows_noG {fs : List SKindInputs} (hg : NoG fs) : ∀ {p k : Nat}, p ≤ fs.length → k < p → (rows fs p)[k]? = some [(k : Int)]
  | 0, k, _, h => by omega
  | p + 1, k, hp, h => by
    have hr := getElem?_lt (show p < fs.length by omega)
    rw [rows_succ hr]
    by_cases e : k = p
    · subst e
      rw [List.getElem?_append_right (by rw [rows_length]; omega), rows_length, Nat.sub_self]
      unfold stand
      rw [if_pos (hg _ _ hr)]
      rfl
    · rw [List.getElem?_append_left (by rw [rows_length]; omega)]
      exact rows_noG hg (by omega) (by omega)
theorem lvs_noG {fs : List SKindInputs} (hg : NoG fs) {p : Nat} (hp : p ≤ fs.length) {I : List Int} (hI : ∀ x ∈ I, 0 ≤ x ∧ x < (p : Int)) (hr : Rising I) : lvs I (rows fs p) = I := by
  unfold lvs
  have : (I.flatMap fun k => (rows fs p).getD k.toNat []) = I := by
    rw [List.flatMap_def]
    have e : I.map (fun k => (rows fs p).getD k.toNat []) = I.map fun k => [k] := by
      refine List.map_congr_left fun x hx => ?_
      obtain ⟨a, b⟩ := hI x hx
      obtain ⟨k, rfl⟩ := natOf a
      simp only [List.getD, Int.toNat_natCast, rows_noG hg hp (show k < p by omega), Option.getD_some]
    rw [e]
    clear e hI hr
    induction I with
    | nil => rfl
    | cons x I ih => simp [ih]
  rw [this]
  exact dedup_eq hr
theorem idx_noG {fs : List SKindInputs} (hg : NoG fs) : ∀ {p : Nat}, p ≤ fs.length → idx fs p = p
  | 0, _ => rfl
  | p + 1, hp => by
    have hr := getElem?_lt (show p < fs.length by omega)
    rw [(steps_rule hr (hg _ _ hr)).2, idx_noG hg (by omega)]
theorem ix_noG {fs : List SKindInputs} (hg : NoG fs) {I : List Int} (hI : ∀ x ∈ I, 0 ≤ x ∧ x < (fs.length : Int)) : I.map (ix fs) = I := by
  conv => rhs; rw [← List.map_id I]
  refine List.map_congr_left fun x hx => ?_
  obtain ⟨a, b⟩ := hI x hx
  obtain ⟨k, rfl⟩ := natOf a
  unfold ix
  simp only [Int.toNat_natCast, id]
  rw [idx_noG hg (by omega)]
theorem flat_noG (h30 : rs.length ≤ 30) (hf : Fine rs rs.length) : NoG (flat (steps rs rs.length)) := by
  intro p r h
  obtain ⟨s, a, rfl⟩ := flat_at h
  have := (step_ok h30 hf a).kind
  show s.Kind ≠ 6
  omega
theorem flat_fine (h30 : rs.length ≤ 30) (hf : Fine rs rs.length) (h8 : ∀ s ∈ steps rs rs.length, s.Inputs.length ≤ 8) : Fine (flat (steps rs rs.length)) (flat (steps rs rs.length)).length := by
  intro p hp
  have hg := flat_noG h30 hf
  have hpl : p < (steps rs rs.length).length := by simpa [flat] using hp
  have hs := getElem?_lt hpl
  have ok := step_ok h30 hf hs
  have hin : ∀ x ∈ (steps rs rs.length)[p].Inputs, 0 ≤ x ∧ x < (p : Int) := by
    intro x hx
    obtain ⟨q, t, e, hq, _⟩ := ok.inp x hx
    omega
  unfold codeAt
  rw [flat_get hs]
  simp only
  have hk := ok.kind
  rw [if_neg (by omega), if_neg (by have := h8 _ (List.getElem_mem hpl); omega), if_neg (Classical.not_not.2 (lcode_ok hin ok.rise fun x hx => by have := (hin x hx).1; omega)), lvs_noG hg (by omega) hin ok.rise]
  -- the kinds are those of the leaves
  obtain ⟨j, r, a, b, c, d, e⟩ := steps_at (Nat.le_refl _) hs
  have hfj : Fine rs j := fun k hk => hf k (by omega)
  obtain ⟨_, _, kin, _, hc⟩ := code0 b (hf j a)
  rw [e]
  simp only [stepOf]
  have hm : ((lvs r.Inputs (rows rs j)).map (ix rs)).map (kof (flat (steps rs rs.length))) = (lvs r.Inputs (rows rs j)).map (kof rs) := by
    rw [List.map_map]
    refine List.map_congr_left fun x hx => ?_
    obtain ⟨i, s, e', hi, hri, k1, k5⟩ := leaf_rule hfj (by omega) kin hx
    have h1 := flat_get (steps_of hri (by omega) (show i < rs.length by omega) (Nat.le_refl _))
    subst e'
    simp only [Function.comp, ix, Int.toNat_natCast]
    rw [kof_nat h1, kof_nat hri]
    rfl
  rw [hm]
  unfold code at hc ⊢
  rw [if_neg c] at hc ⊢
  exact hc
theorem flat_steps (h30 : rs.length ≤ 30) (hf : Fine rs rs.length) {p : Nat} {s : SRuleKindInputs} (hs : (steps rs rs.length)[p]? = some s) :
    (steps (flat (steps rs rs.length)) (flat (steps rs rs.length)).length)[p]? = some ⟨p, s.Kind, s.Inputs⟩ := by
  have hg := flat_noG h30 hf
  have hpl := (List.getElem?_eq_some_iff.1 hs).1
  have hfl : (flat (steps rs rs.length)).length = (steps rs rs.length).length := by simp [flat]
  have ok := step_ok h30 hf hs
  have hin : ∀ x ∈ s.Inputs, 0 ≤ x ∧ x < (p : Int) := by
    intro x hx
    obtain ⟨q, t, e, hq, _⟩ := ok.inp x hx
    omega
  have hr := flat_get hs
  have := steps_of hr (hg _ _ hr) (show p < (flat (steps rs rs.length)).length by omega) (Nat.le_refl _)
  rw [idx_noG hg (by omega)] at this
  rw [this]
  unfold stepOf
  simp only
  rw [lvs_noG hg (by omega) hin ok.rise, ix_noG hg fun x hx => by have := hin x hx; omega]
theorem flat_len (h30 : rs.length ≤ 30) (hf : Fine rs rs.length) : (steps (flat (steps rs rs.length)) (flat (steps rs rs.length)).length).length = (steps rs rs.length).length := by
  rw [steps_length _ (Nat.le_refl _), idx_noG (flat_noG h30 hf) (Nat.le_refl _)]
  simp [flat]
theorem id_l2 (n : Nat) (hn : 5000 < n) (l t : List SRuleKindInputs) (F G : SCodeIndex) (hl : l.length ≤ 100) (hsm : ∀ s ∈ l, s.Inputs.length ≤ 100) (hlen : t.length = l.length) (ht : ∀ (p : Nat) (s : SRuleKindInputs), l[p]? = some s → t[p]? = some ⟨p, s.Kind, s.Inputs⟩) : ∀ (m q : Nat), q ≤ l.length → l.length - q < m →
      law6_RulesExpansionIsIdempotent_l2 n (l, F) (t, G) m q = some true := by
  intro m
  induction m with
  | zero => intro q _ h; omega
  | succ m ih =>
    intro q hq hm
    rw [law6_RulesExpansionIsIdempotent_l2]
    simp only []
    by_cases h : q < l.length
    · have hs := getElem?_lt h
      rw [if_pos (by rw [decide_eq_true_eq]; omega), gidx_nat, ht q _ hs, bsome, if_neg (by simp), gidx_nat, hs, bsome, if_neg (by simp), Ints_refl hn (hsm _ (List.getElem_mem h)), bsome]
      unfold law6_RulesExpansionIsIdempotent_j3
      rw [if_neg (by simp), gadd_nat (by omega), bsome]
      exact ih (q + 1) (by omega) (by omega)
    · rw [if_neg (by rw [decide_eq_true_eq]; omega)]
theorem id_l1 (n : Nat) (hn : 5000 < n) (F : SCodeIndex) (h30 : rs.length ≤ 30) (hf : Fine rs rs.length) : ∀ (m q : Nat), q ≤ (steps rs rs.length).length → (steps rs rs.length).length - q < m → (∀ s ∈ (steps rs rs.length).take q, s.Inputs.length ≤ 8) →
      law6_RulesExpansionIsIdempotent_l1 n (steps rs rs.length, F) m (flat ((steps rs rs.length).take q)) q = some true := by
  obtain ⟨s1, s2⟩ := steps_small h30 hf
  intro m
  induction m with
  | zero => intro q _ h; omega
  | succ m ih =>
    intro q hq hm h8
    rw [law6_RulesExpansionIsIdempotent_l1]
    simp only []
    by_cases h : q < (steps rs rs.length).length
    · have hs := getElem?_lt h
      rw [if_pos (by rw [decide_eq_true_eq]; omega), gidx_nat, hs, bsome]
      by_cases hb : 8 < (steps rs rs.length)[q].Inputs.length
      · rw [if_pos (by rw [decide_eq_true_eq]; omega)]
      · rw [if_neg (by rw [decide_eq_true_eq]; omega), gapp_ok (by simp [flat]; omega), bsome, gadd_nat (by omega), bsome]
        have e : flat ((steps rs rs.length).take q) ++ [⟨(steps rs rs.length)[q].Kind, (steps rs rs.length)[q].Inputs⟩] = flat ((steps rs rs.length).take (q + 1)) := by
          rw [List.take_succ_eq_append_getElem h]
          unfold flat
          rw [List.map_append]
          rfl
        rw [e]
        refine ih (q + 1) (by omega) (by omega) fun s hs' => ?_
        rw [List.take_succ_eq_append_getElem h, List.mem_append, List.mem_singleton] at hs'
        rcases hs' with hs' | rfl
        · exact h8 s hs'
        · omega
    · have e : q = (steps rs rs.length).length := by omega
      subst e
      rw [List.take_length] at h8 ⊢
      have hff := flat_fine h30 hf h8
      have hfl : (flat (steps rs rs.length)).length = (steps rs rs.length).length := by simp [flat]
      have hidx := idx_le (rs := rs) rs.length
      have hsl := steps_length (rs := rs) rs.length (Nat.le_refl _)
      have h0 : rf (flat (steps rs rs.length)) = ⟨0, 0⟩ := rf_ok (by omega) hff
      rw [if_neg (by rw [decide_eq_true_eq]; omega), Expand_eq hn, bsome, if_pos h0, if_neg (by simp)]
      unfold law6_RulesExpansionIsIdempotent_j2
      rw [if_neg (by simp [flat_len h30 hf])]
      exact id_l2 n hn (steps rs rs.length) _ _ _ s1 s2 (flat_len h30 hf) (fun p s hs => flat_steps h30 hf hs) n 0 (by omega) (by omega)
theorem rulesIdem_eq {n : Nat} (hn : 5000 < n) (rs : List SKindInputs) : law6_RulesExpansionIsIdempotent n rs = some true := by
  unfold law6_RulesExpansionIsIdempotent
  rw [Expand_eq hn, bsome, expands_eq hn, bsome, if_neg (by simp)]
  by_cases hc : (rf rs).Code = 0
  · obtain ⟨h0, h30, hf⟩ := rf_zero hc
    obtain ⟨s1, s2⟩ := steps_small h30 hf
    rw [if_pos h0]
    simp only [ne_eq, not_true_eq_false, decide_false, Bool.false_eq_true, if_false]
    unfold law6_RulesExpansionIsIdempotent_j1
    rw [if_neg (by simp)]
    have := id_l1 (rs := rs) n hn ⟨0, 0⟩ h30 hf n 0 (by omega) (by omega) (by simp)
    simpa [flat] using this
  · have h0 : rf rs ≠ ⟨0, 0⟩ := fun h => hc (by rw [h])
    rw [if_neg h0]
    simp only [ne_eq, hc, not_false_eq_true, decide_true, if_true, List.length_nil]
    unfold law6_RulesExpansionIsIdempotent_j1
    rw [if_neg (by simp)]
    obtain ⟨m, hm⟩ : ∃ m, n = m + 1 := ⟨n - 1, by omega⟩
    have e : rf ([] : List SKindInputs) = ⟨0, 0⟩ := rfl
    have h1 : ∀ k, law6_RulesExpansionIsIdempotent_l1 n ([], rf rs) (k + 1) [] 0 = some true := by
      intro k
      rw [law6_RulesExpansionIsIdempotent_l1]
      simp only [List.length_nil]
      rw [if_neg (by simp), Expand_eq hn, bsome, if_pos e, if_neg (by simp)]
      unfold law6_RulesExpansionIsIdempotent_j2
      rw [if_neg (by simp [steps])]
      rw [hm, law6_RulesExpansionIsIdempotent_l2]
      rfl
    have h2 := h1 m
    rw [← hm] at h2
    exact h2
end
end Go.Proofs.YtfdfhpembpjglaaDoor
namespace Go.Proofs.YtfdfhpembpjglaaDoor
open Go.PW Go
theorem law_match (rs : List SKindInputs) (i : Int) : law6_RulesMatchSpec 6000 rs i = some true := rulesMatch_eq (by decide) rs i
theorem law_expand (rs : List SKindInputs) : law6_RulesExpandMatchesSpec 6000 rs = some true := rulesExpand_eq (by decide) rs
theorem law_typed (rs : List SKindInputs) : law6_RulesStepsAreTyped 6000 rs = some true := rulesTyped_eq (by decide) rs
theorem law_groups (rs : List SKindInputs) (i : Int) : law6_RulesGroupsAreTransparent 6000 rs i = some true := rulesGroups_eq (by decide) rs i
theorem law_later (rs : List SKindInputs) (i : Int) : law6_RulesLaterRulesDoNotMatter 6000 rs i = some true := rulesLater_eq (by decide) rs i
theorem law_idem (rs : List SKindInputs) : law6_RulesExpansionIsIdempotent 6000 rs = some true := rulesIdem_eq (by decide) rs
end Go.Proofs.YtfdfhpembpjglaaDoor
