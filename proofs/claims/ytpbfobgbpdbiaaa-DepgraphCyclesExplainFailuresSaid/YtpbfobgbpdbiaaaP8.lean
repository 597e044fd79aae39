/- Depgraph: the six laws, plainly. -/
import Derived.Test.YtpbfobgbpdbiaaaP7
namespace Go.Proofs.Ytpbfobgbpdbiaaa
open Go.PW Go

variable {a : List (List Int)}
theorem graphs_ok : law6_graphs 40000 = some true := by decide +kernel
theorem hn4 : 30000 < 40000 := by decide

theorem cycR_bad (h : (gf a).Code ≠ 0) : cycR a = ([], false, gf a) := by unfold cycR; rw [if_neg h]
theorem cycR_none (h : (gf a).Code = 0) (e : firstC a = -1) : cycR a = ([], false, ⟨0, 0⟩) := by unfold cycR; rw [if_pos h, e, if_pos (by decide)]
theorem cycR_some {s : Nat} (h : (gf a).Code = 0) (e : firstC a = (s : Int)) : cycR a = (cyc a s, true, ⟨0, 0⟩) := by unfold cycR; rw [if_pos h, e, if_neg (show ¬ (s : Int) < 0 by omega), Int.toNat_natCast]
theorem MatchesSpec_eq (a : List (List Int)) (l : List Int) : law6_DepgraphMatchesSpec 40000 a l = some true := by
  unfold law6_DepgraphMatchesSpec
  rw [GraphFault_eq hn4, bsome, graphs_ok, bsome, if_neg (by decide), Validate_eq hn4, bsome, fault_eq]
  unfold law6_DepgraphMatchesSpec_j1
  rw [if_neg (by simp), Cycle_eq hn4, bsome, fault_eq]
  have tail : law6_DepgraphMatchesSpec_j3 40000 a l = some true := by
    unfold law6_DepgraphMatchesSpec_j3 law6_DepgraphMatchesSpec_j4
    rw [ChangedFault_eq hn4, bsome, Affected_eq hn4, bsome]
    simp only [fault_eq]
    rw [if_pos (by simp)]
    by_cases h : (cf a l).Code = 0
    · obtain ⟨_, g, hl⟩ := cf_code h
      have := okl_len a.length (affB a l)
      have hN := g.len
      rw [if_neg (by simp [h]), if_pos (by simp [h]), rAffected_eq g hn4 hl, bsome, if_pos h, Ints_refl hn4 (by unfold aff; omega), bsome]
    · rw [if_pos (by simp [h]), if_neg h]
      rfl
  by_cases h : (gf a).Code = 0
  · have h0 := gf_code h
    have g := gf_ok h0
    have hN := g.len
    rcases firstC_cases a with ⟨e, _⟩ | ⟨s, e, h1, h2, _⟩
    · rw [cycR_none h e]
      simp only [h0]
      rw [if_neg (by simp), if_neg (by simp)]
      unfold law6_DepgraphMatchesSpec_j2
      rw [if_neg (by decide), if_pos (by decide), First_eq g hn4, bsome, e]
      rw [if_neg (by simp), if_pos (by simp), if_neg (by simp), if_neg (by simp)]
      unfold law6_DepgraphMatchesSpec_j5
      rw [if_neg (by simp)]
      exact tail
    · rw [cycR_some h e]
      simp only [h0]
      rw [if_neg (by simp), if_neg (by simp)]
      unfold law6_DepgraphMatchesSpec_j2
      rw [if_neg (by decide), if_pos (by decide), First_eq g hn4, bsome, e]
      rw [if_neg (by simp), if_neg (by simp), if_pos rfl, Shortest_eq g hn4 h1 h2, bsome]
      have lo := (distances_eq g (n := 40000) (t := s) hn4).2.lo s h1
      have hlen : (cyc a s).length ≤ 100 := by
        obtain ⟨y, _, y1, y2, _⟩ := chain_path g s (dst a s s - 1) s h1 (by omega) (by omega)
        have := (distances_eq g (n := 40000) (t := s) hn4).2.small g h1 h2
        unfold cyc
        rw [y1, tabD_len]; omega
      rw [Ints_refl hn4 hlen, bsome]
      unfold law6_DepgraphMatchesSpec_j5
      rw [if_neg (by simp)]
      exact tail
  · rw [cycR_bad h]
    simp only
    rw [if_neg (by simp), if_pos (by simp [h]), if_neg (by decide)]
    unfold law6_DepgraphMatchesSpec_j2
    rw [if_neg (by simp), if_neg (by simp [h])]
    exact tail

theorem OrderMatchesSpec_eq (a : List (List Int)) : law6_DepgraphOrderMatchesSpec 40000 a = some true := by
  unfold law6_DepgraphOrderMatchesSpec
  rw [GraphFault_eq hn4, bsome]
  have key : law6_DepgraphOrderMatchesSpec_j1 40000 a (of a).Code (of a).Index = some true := by
    unfold law6_DepgraphOrderMatchesSpec_j1
    obtain ⟨v, e, V⟩ := Levels_eq hn4 a
    rw [Order_eq hn4, bsome, e, bsome, graphs_ok, bsome, if_neg (by decide)]
    simp only [beq_self_eq_true, Bool.and_self]
    rw [if_neg (by decide), if_neg (by decide)]
    unfold law6_DepgraphOrderMatchesSpec_j2
    by_cases h : (of a).Code = 0
    · obtain ⟨h0, g, A, _⟩ := of_code h
      have hN := g.len
      obtain ⟨O, hl⟩ := order_ok g A
      simp only [if_pos h]
      rw [if_neg (by simp [h]), Topological_eq g A hn4, bsome, Ints_refl hn4 (by omega), bsome, if_pos rfl, rLevels_eq g hn4 (V h), bsome, Ints_refl hn4 (by rw [tabD_len]; omega), bsome]
      rfl
    · simp only [if_neg h]
      rw [if_pos (by simp [h]), graphs_ok, bsome, if_pos rfl]
      simp only [beq_self_eq_true, Bool.and_self]
      rw [if_pos (by decide), if_pos (by decide), if_pos (by decide)]
      rfl
  by_cases h : (gf a).Code = 0
  · have h0 := gf_code h
    have g := gf_ok h0
    rw [if_pos (by simp [h]), First_eq g hn4, bsome]
    unfold law6_DepgraphOrderMatchesSpec_j5
    have e : of a = if firstC a < 0 then ⟨0, 0⟩ else ⟨20, firstC a⟩ := by unfold of; rw [if_pos h]
    by_cases q : firstC a < 0
    · rw [if_pos q] at e
      rw [if_neg (by simp; omega), h0, ← e]; exact key
    · rw [if_neg q] at e
      rw [if_pos (by simp; omega), First_eq g hn4, bsome]
      unfold law6_fault
      rw [bsome, ← e]; exact key
  · have e : of a = gf a := by unfold of; rw [if_neg h]
    rw [if_neg (by simp [h])]
    unfold law6_DepgraphOrderMatchesSpec_j5
    rw [if_neg (by decide), ← e]; exact key

/-! ### orders -/
theorem pos_of (O : OrdOk a (fun _ => false) (order a)) {i : Nat} (hi : i < a.length) : ∃ j, j < (order a).length ∧ (order a)[j]? = some (i : Int) ∧ posI (i : Int) (order a) 0 = (j : Int) := by
  obtain ⟨j, hj⟩ := List.getElem?_of_mem (O.all i hi rfl)
  refine ⟨j, (List.getElem?_eq_some_iff.1 hj).1, hj, ?_⟩
  rw [posI_at O.nd hj]; omega
theorem Resp_l2 (g : OkG a) (A : Ac a) {v : Nat → Nat} (V : Lv a v) {i : Nat} (hi : i < a.length) (f1 f2 : SCodeIndex) (lp1 : Int → Option Bool) (hlp : lp1 ((i + 1 : Nat) : Int) = some true) : ∀ (m j : Nat) (b : Bool), j ≤ (dep a i).length → (dep a i).length - j < m → (b = true ∨ ∃ x ∈ (dep a i).drop j, v i = v x.toNat + 1) ∨ dep a i = [] →
    law6_DepgraphOrdersRespectDependencies_l2 40000 a (order a, f1) (tabD a.length v, f2) (i : Int) lp1 m b (j : Int) = some true := by
  have hN := g.len
  have hdl := (g.ok i).len
  obtain ⟨O, hl⟩ := order_ok g A
  obtain ⟨pi, hpi, gpi, ppi⟩ := pos_of O hi
  intro m
  induction m with
  | zero => intro j b _ h; omega
  | succ m ih =>
    intro j b hj hm hb
    rw [law6_DepgraphOrdersRespectDependencies_l2, gidx_dep hi, bsome]
    by_cases h : j < (dep a i).length
    · simp only [decide_eq_true_eq, tabD_len]
      have hrg := (g.ok i).rng _ (List.getElem_mem h)
      obtain ⟨x, hx⟩ := natOf hrg.1
      have hxm : (x : Int) ∈ dep a i := by rw [← hx]; exact List.getElem_mem h
      have hxN := E.lt g hxm
      obtain ⟨px, hpx, gpx, ppx⟩ := pos_of O hxN
      have hvx := V.le x hxN
      have hvi := V.le i hi
      have r1 := rk_le a x
      have r2 := rk_le a i
      have h4 := (foldl_mx v (dep a i) 0).2.1 _ hxm
      rw [Int.toNat_natCast] at h4
      have h5 : v i = (dep a i).foldl (mxF v) 0 := V.fix i hi
      have hlt : px < pi := by
        rcases O.before pi i gpi _ hxm with h | h
        · cases h
        · obtain ⟨k, hk⟩ := List.getElem?_of_mem h
          have hkl := (List.getElem?_eq_some_iff.1 hk).1
          rw [List.length_take] at hkl
          rw [List.getElem?_take, if_pos (by omega)] at hk
          have := posI_at (i := 0) O.nd hk
          rw [ppx] at this; omega
      rw [if_pos (by omega), gidx_nat, getElem?_lt h, bsome, hx, gsubI (by omega), bsome, law_in, bsome]
      rw [show (!decide (0 ≤ (x : Int) ∧ (x : Int) ≤ (a.length : Int) - 1)) = false by simp; omega, if_neg (by decide)]
      rw [position_eq hn4 (by omega), bsome, position_eq hn4 (by omega), bsome, ppx, ppi, if_neg (by omega), gidx_tabD _ hxN, bsome, gidx_tabD _ hi, bsome]
      unfold law6_DepgraphOrdersRespectDependencies_j6
      rw [if_neg (by simp; omega)]
      simp only
      rw [gidx_tabD _ hxN, bsome, gidx_tabD _ hi, bsome, gsubI (by omega), bsome]
      unfold law6_DepgraphOrdersRespectDependencies_j5
      rw [gadd_nat (by omega), bsome, bsome]
      cases b with
      | true => rw [if_pos rfl]; exact ih (j + 1) true (by omega) (by omega) (.inl (.inl rfl))
      | false =>
        rw [if_neg (by decide)]
        refine ih (j + 1) _ (by omega) (by omega) ?_
        rcases hb with (hb | ⟨y, hy, hv⟩) | hb
        · cases hb
        · left
          rw [List.drop_eq_getElem_cons h, hx] at hy
          rcases List.mem_cons.1 hy with rfl | hy
          · rw [Int.toNat_natCast] at hv
            left; simp; omega
          · exact .inr ⟨y, hy, hv⟩
        · exact .inr hb
    · simp only [decide_eq_true_eq]
      rw [if_neg (by omega)]
      have fin : law6_DepgraphOrdersRespectDependencies_j7 40000 (i : Int) lp1 false = some true := by
        unfold law6_DepgraphOrdersRespectDependencies_j7
        rw [if_neg (by decide), gadd_nat (by omega), bsome]; exact hlp
      by_cases q : dep a i = []
      · rw [if_neg (by rw [q]; simp)]; exact fin
      · have : 0 < (dep a i).length := List.length_pos_iff.2 q
        rw [if_pos (by omega)]
        rcases hb with (hb | ⟨y, hy, _⟩) | hb
        · rw [hb]; exact fin
        · rw [List.drop_eq_nil_of_le (by omega)] at hy; simp at hy
        · exact absurd hb q
theorem Resp_l1 (g : OkG a) (A : Ac a) {v : Nat → Nat} (V : Lv a v) (f1 f2 : SCodeIndex) : ∀ (m i : Nat), i ≤ a.length → a.length - i < m →
    law6_DepgraphOrdersRespectDependencies_l1 40000 a (order a, f1) (tabD a.length v, f2) m (i : Int) = some true := by
  have hN := g.len
  obtain ⟨O, hl⟩ := order_ok g A
  intro m
  induction m with
  | zero => intro i _ h; omega
  | succ m ih =>
    intro i hi hm
    rw [law6_DepgraphOrdersRespectDependencies_l1]
    by_cases h : i < a.length
    · simp only [decide_eq_true_eq]
      obtain ⟨pi, hpi, gpi, ppi⟩ := pos_of O h
      have hdl := (g.ok i).len
      have h5 : v i = (dep a i).foldl (mxF v) 0 := V.fix i h
      have fin : law6_DepgraphOrdersRespectDependencies_j4 40000 a (order a, f1) (tabD a.length v, f2) (i : Int) (law6_DepgraphOrdersRespectDependencies_l1 40000 a (order a, f1) (tabD a.length v, f2) m) false = some true := by
        unfold law6_DepgraphOrdersRespectDependencies_j4
        rw [if_neg (by decide)]
        refine Resp_l2 g A V h f1 f2 _ (ih (i + 1) (by omega) (by omega)) 40000 0 false (by omega) (by omega) ?_
        by_cases q : dep a i = []
        · exact .inr q
        · left; right
          rcases (foldl_mx v (dep a i) 0).2.2 with e | ⟨x, hx, e⟩
          · exfalso
            obtain ⟨x, hx⟩ := List.exists_mem_of_ne_nil _ q
            have := (foldl_mx v (dep a i) 0).2.1 x hx
            omega
          · exact ⟨x, by simpa using hx, by omega⟩
      rw [if_pos (by omega), position_eq hn4 (by omega), bsome, ppi, if_neg (by omega), gidx_dep h, bsome]
      by_cases q : dep a i = []
      · rw [if_pos (by rw [q]; rfl), gidx_tabD _ h, bsome]
        rw [show decide ((v i : Int) ≠ 0) = false by rw [h5, q]; rfl]
        exact fin
      · have : 0 < (dep a i).length := List.length_pos_iff.2 q
        rw [if_neg (by omega)]; exact fin
    · simp only [decide_eq_true_eq]
      rw [if_neg (by omega)]
theorem Respect_eq (a : List (List Int)) : law6_DepgraphOrdersRespectDependencies 40000 a = some true := by
  unfold law6_DepgraphOrdersRespectDependencies
  obtain ⟨v, e, V⟩ := Levels_eq hn4 a
  rw [Order_eq hn4, bsome, e, bsome, graphs_ok, bsome, if_neg (by decide)]
  simp only [beq_self_eq_true, Bool.and_self]
  unfold law6_DepgraphOrdersRespectDependencies_j1
  rw [if_neg (by decide)]
  by_cases h : (of a).Code = 0
  · obtain ⟨h0, g, A, _⟩ := of_code h
    have hN := g.len
    obtain ⟨O, hl⟩ := order_ok g A
    simp only [if_pos h, tabD_len]
    rw [if_neg (by simp [h]), if_neg (by simp [hl])]
    unfold law6_DepgraphOrdersRespectDependencies_j3
    rw [if_neg (by simp)]
    exact Resp_l1 g A (V h) (of a) (of a) 40000 0 (by omega) (by omega)
  · simp only [if_neg h]
    rw [if_pos (by simp [h]), if_pos (by decide)]
    rfl

/-! ### cycles explain failures -/
theorem Wlk.snoc {i j k n : Nat} (w : Wlk a i j k) (h : E a j n) : Wlk a i n (k + 1) := w.app (.one h)
theorem Expl_l1 (g : OkG a) {s L : Nat} (y : Nat → Nat) (hL : L ≤ 100) (f : SCodeIndex) (hlt : ∀ j < L, y j < a.length) (hinj : ∀ j < L, ∀ k < L, y j = y k → j = k) (h0 : y 0 = s) (hlow : ∀ j < L, s ≤ y j) (hE : ∀ j, j + 1 < L → E a (y j) (y (j + 1))) (hlast : ∀ j, j + 1 = L → E a (y j) s) : ∀ (m i : Nat), i ≤ L → L - i < m →
    law6_DepgraphCyclesExplainFailures_l1 40000 a (tabD L y, true, f) m (i : Int) = some true := by
  have hN := g.len
  have nd : (tabD L y).Nodup := by
    unfold tabD tab
    rw [List.nodup_iff_pairwise_ne, List.pairwise_map]
    refine List.Pairwise.imp_of_mem ?_ (List.nodup_range (n := L))
    intro j k hj hk hne e
    exact hne (hinj j (List.mem_range.1 hj) k (List.mem_range.1 hk) (by omega))
  intro m
  induction m with
  | zero => intro i _ h; omega
  | succ m ih =>
    intro i hi hm
    rw [law6_DepgraphCyclesExplainFailures_l1]
    by_cases h : i < L
    · simp only [decide_eq_true_eq, tabD_len]
      have h1 := hlt i h
      have h2 := hlow i h
      have hdl := (g.ok (y i)).len
      have hget : (tabD L y)[i]? = some (y i : Int) := by rw [← gidx_nat]; exact gidx_tabD y h
      rw [if_pos (by omega), gidx_tabD _ h, bsome, gsubI (by omega), bsome, law_in, bsome]
      rw [show (!decide (0 ≤ (y i : Int) ∧ (y i : Int) ≤ (a.length : Int) - 1)) = false by simp; omega, if_neg (by decide)]
      rw [position_eq hn4 (by simp; omega), bsome, posI_at nd hget, if_neg (by simp)]
      rw [show gidx (tabD L y) 0 = some (y 0 : Int) from gidx_tabD (i := 0) y (by omega), bsome]
      unfold law6_DepgraphCyclesExplainFailures_j5
      rw [if_neg (by simp; omega)]
      simp only [tabD_len]
      rw [gidx_tabD _ h, bsome, gidx_dep h1, bsome, gadd_nat (by omega), bsome]
      have hmod : grem ((i + 1 : Nat) : Int) (L : Int) = some ((if i + 1 = L then 0 else i + 1 : Nat) : Int) := by
        unfold grem
        rw [if_neg (by omega)]
        congr 1
        rw [Int.tmod_eq_emod_of_nonneg (by omega)]
        split
        · rename_i e; rw [e]; simp
        · rw [Int.emod_eq_of_lt (by omega) (by omega)]
      rw [hmod, bsome, gidx_tabD _ (by split <;> omega), bsome, Has_eq hn4 (by omega), bsome]
      have hmem : ((y (if i + 1 = L then 0 else i + 1) : Nat) : Int) ∈ dep a (y i) := by
        split
        · rename_i e; rw [h0]; exact hlast i e
        · exact hE i (by omega)
      rw [if_neg (by simp [hmem]), bsome]
      exact ih (i + 1) (by omega) (by omega)
    · simp only [decide_eq_true_eq, tabD_len]
      rw [if_neg (by omega)]
theorem Explain_eq (a : List (List Int)) : law6_DepgraphCyclesExplainFailures 40000 a = some true := by
  unfold law6_DepgraphCyclesExplainFailures
  rw [Order_eq hn4, bsome, Cycle_eq hn4, bsome, graphs_ok, bsome, if_neg (by decide)]
  unfold law6_DepgraphCyclesExplainFailures_j1
  by_cases h : (gf a).Code = 0
  · have h0 := gf_code h
    have g := gf_ok h0
    have hN := g.len
    have eo : of a = if firstC a < 0 then ⟨0, 0⟩ else ⟨20, firstC a⟩ := by unfold of; rw [if_pos h]
    rcases firstC_cases a with ⟨e, _⟩ | ⟨s, e, h1, h2, h3⟩
    · rw [e, if_pos (by omega)] at eo
      rw [cycR_none h e, eo]
      rfl
    · rw [e, if_neg (by omega)] at eo
      rw [cycR_some h e, eo]
      simp only
      rw [if_neg (by simp), if_neg (by simp)]
      have G := (distances_eq g (n := 40000) (t := s) hn4).2
      have lo := G.lo s h1
      have sm := G.small g h1 h2
      obtain ⟨y, y0, y1, y2, y3⟩ := chain_path g s (dst a s s - 1) s h1 (by omega) (by omega)
      unfold cyc
      rw [y1, if_neg (by simp; omega), show gidx (tabD (dst a s s - 1 + 1) y) 0 = some (y 0 : Int) from gidx_tabD (i := 0) y (by omega), bsome]
      unfold law6_fault
      rw [bsome, y0]
      unfold law6_DepgraphCyclesExplainFailures_j4
      rw [if_neg (by simp)]
      have tos : ∀ j, j ≤ dst a s s - 1 → Wlk a (y j) s (dst a s (y j)) := fun j hj => dst_wlk g (y2 j hj).1 (by have := (y2 j hj).2; omega)
      have froms : ∀ j, j + 1 ≤ dst a s s - 1 → ∃ k, Wlk a s (y (j + 1)) k := by
        intro j
        induction j with
        | zero => intro hj; exact ⟨1, .one (by rw [← y0]; exact y3 0 (by omega))⟩
        | succ j ih => intro hj; obtain ⟨k, w⟩ := ih (by omega); exact ⟨k + 1, w.snoc (y3 (j + 1) (by omega))⟩
      refine Expl_l1 g (s := s) y (by omega) _ (fun j hj => (y2 j (by omega)).1) (fun j hj k hk ejk => ?_) y0 (fun j hj => ?_) (fun j hj => y3 j (by omega)) (fun j hj => ?_) 40000 0 (by omega) (by omega)
      · have a1 := (y2 j (by omega)).2
        have a2 := (y2 k (by omega)).2
        rw [ejk] at a1; omega
      · cases j with
        | zero => omega
        | succ j =>
          obtain ⟨k, w⟩ := froms j (by omega)
          have hr := dst_reach g ((tos (j + 1) (by omega)).app w)
          by_cases q : y (j + 1) < s
          · exact absurd hr (h3 _ q)
          · omega
      · have a1 := (y2 j (by omega)).2
        have w := tos j (by omega)
        have e1 : dst a s (y j) = 1 := by omega
        rw [e1] at w
        generalize hk : (1 : Nat) = k at w
        cases w with
        | one h => exact h
        | cons h w => have := w.pos; omega
  · have eo : of a = gf a := by unfold of; rw [if_neg h]
    rw [cycR_bad h, eo, if_neg h]
    simp only
    rw [if_pos (by simp [h]), graphs_ok, bsome, if_pos rfl, if_pos (by simp), if_pos (by simp)]
    unfold law6_DepgraphCyclesExplainFailures_j2
    rw [fault_eq]; simp

/-! ### affected nodes -/
theorem affB_iff {l : List Int} {i : Nat} : affB a l i = true ↔ (i : Int) ∈ l ∨ ∃ x ∈ l, dst a x.toNat i < 1000 := by
  unfold affB
  simp [List.any_eq_true]
theorem joined_l1 {x y : List Int} (hx : x.length ≤ 100) (hy : y.length ≤ 100) : ∀ (m i : Nat), i ≤ 24 → 24 - i < m →
    law6_joined_l1 40000 x y m (okl i fun k => decide ((k : Int) ∈ x) || decide ((k : Int) ∈ y)) (i : Int) = some (okl 24 fun k => decide ((k : Int) ∈ x) || decide ((k : Int) ∈ y)) := by
  intro m
  induction m with
  | zero => intro i _ h; omega
  | succ m ih =>
    intro i hi hm
    rw [law6_joined_l1]
    by_cases h : i < 24
    · simp only [decide_eq_true_eq]
      rw [if_pos (by omega), Has_eq hn4 hx, bsome]
      have fin : ∀ b : Bool, b = (decide ((i : Int) ∈ x) || decide ((i : Int) ∈ y)) → law6_joined_j2 40000 (okl i fun k => decide ((k : Int) ∈ x) || decide ((k : Int) ∈ y)) (i : Int) (law6_joined_l1 40000 x y m) b = some (okl 24 fun k => decide ((k : Int) ∈ x) || decide ((k : Int) ∈ y)) := by
        intro b hb
        have e := okl_succ i fun k => decide ((k : Int) ∈ x) || decide ((k : Int) ∈ y)
        have := okl_len i fun k => decide ((k : Int) ∈ x) || decide ((k : Int) ∈ y)
        unfold law6_joined_j2 law6_joined_j1
        rw [gadd_nat (by omega)]
        simp only [bsome]
        cases b with
        | true =>
          rw [if_pos hb.symm] at e
          rw [if_pos rfl, gapp_ok (by simp; omega), bsome, ← e]; exact ih (i + 1) (by omega) (by omega)
        | false =>
          rw [if_neg (by rw [← hb]; decide), List.append_nil] at e
          rw [if_neg (by decide), ← e]; exact ih (i + 1) (by omega) (by omega)
      by_cases q : (i : Int) ∈ x
      · rw [if_pos (by simp [q])]; exact fin true (by simp [q])
      · rw [if_neg (by simp [q]), Has_eq hn4 hy, bsome]; exact fin _ (by simp [q])
    · have : i = 24 := by omega
      subst this
      simp only [decide_eq_true_eq]
      rw [if_neg (by omega)]
theorem joined_eq (g : OkG a) {x y : List Int} (hx : OkL a.length x) (hy : OkL a.length y) : law6_joined 40000 x y = some (okl a.length fun k => decide ((k : Int) ∈ x) || decide ((k : Int) ∈ y)) := by
  have hN := g.len
  have := hx.len
  have := hy.len
  unfold law6_joined
  refine (joined_l1 (by omega) (by omega) 40000 0 (by omega) (by omega)).trans ?_
  congr 1
  refine srt_ext (okl_ok _ _).srt (okl_ok _ _).srt fun z => ?_
  rw [okl_mem, okl_mem]
  constructor
  · rintro ⟨k, rfl, h1, h2⟩
    refine ⟨k, rfl, ?_, h2⟩
    simp only [Bool.or_eq_true, decide_eq_true_eq] at h2
    rcases h2 with h | h
    · have := hx.rng _ h; omega
    · have := hy.rng _ h; omega
  · rintro ⟨k, rfl, h1, h2⟩; exact ⟨k, rfl, by omega, h2⟩
theorem mem_aff {l : List Int} {k : Nat} (hk : k < a.length) : (k : Int) ∈ aff a l ↔ affB a l k = true := by
  unfold aff
  rw [okl_mem]
  constructor
  · rintro ⟨j, e, _, h⟩
    have : k = j := by omega
    subst this; exact h
  · intro h; exact ⟨k, rfl, hk, h⟩
theorem aff_idem (g : OkG a) {l : List Int} : aff a (aff a l) = aff a l := by
  show okl _ _ = okl _ _
  refine okl_congr fun k hk => ?_
  rw [Bool.eq_iff_iff, affB_iff, affB_iff]
  constructor
  · rintro (h | ⟨x, hx, hd⟩)
    · exact affB_iff.1 ((mem_aff hk).1 h)
    · obtain ⟨j, rfl, hj, hb⟩ := okl_mem.1 hx
      rw [Int.toNat_natCast] at hd
      rcases affB_iff.1 hb with h | ⟨z, hz, hzd⟩
      · exact .inr ⟨_, h, by rw [Int.toNat_natCast]; exact hd⟩
      · exact .inr ⟨z, hz, dst_reach g ((dst_wlk g hk hd).app (dst_wlk g hj hzd))⟩
  · intro h; exact .inl ((mem_aff hk).2 (affB_iff.2 h))
theorem Closure_eq (a : List (List Int)) (x y : List Int) : law6_DepgraphAffectedIsAClosure 40000 a x y = some true := by
  unfold law6_DepgraphAffectedIsAClosure
  rw [Affected_eq hn4, bsome, Affected_eq hn4, bsome, graphs_ok, bsome, if_neg (by decide)]
  unfold law6_DepgraphAffectedIsAClosure_j1
  by_cases h1 : (cf a x).Code = 0
  · by_cases h2 : (cf a y).Code = 0
    · obtain ⟨_, g, hx⟩ := cf_code h1
      obtain ⟨_, _, hy⟩ := cf_code h2
      have hN := g.len
      have h0 : gf a = ⟨0, 0⟩ := by
        unfold cf at h1
        split at h1
        · rename_i q; exact gf_code q
        · rename_i q; exact absurd h1 q
      simp only [if_pos h1, if_pos h2]
      have hj := okl_ok a.length fun k => decide ((k : Int) ∈ x) || decide ((k : Int) ∈ y)
      have ha : ∀ l, OkL a.length (aff a l) := fun l => okl_ok _ _
      have hal : ∀ l, (aff a l).length ≤ 24 := fun l => Nat.le_trans (ha l).len hN
      rw [if_neg (by simp [h1]), if_neg (by simp [h2]), Affected_eq hn4, bsome, joined_eq g hx hy, bsome, Affected_eq hn4, bsome]
      simp only [cf_ok g h0 (ha x), cf_ok g h0 hj]
      simp only [if_true]
      rw [if_pos (by decide), if_pos (by decide), aff_idem g, Ints_refl hn4 (by have := hal x; omega), bsome, if_pos rfl, joined_eq g hx (ha x), bsome]
      have e1 : (okl a.length fun k => decide ((k : Int) ∈ x) || decide ((k : Int) ∈ aff a x)) = aff a x := by
        refine okl_congr fun k hk => ?_
        rw [Bool.eq_iff_iff]
        simp only [Bool.or_eq_true, decide_eq_true_eq, mem_aff hk]
        constructor
        · rintro (h | h)
          · exact affB_iff.2 (.inl h)
          · exact h
        · exact fun h => .inr h
      have e2 : aff a (okl a.length fun k => decide ((k : Int) ∈ x) || decide ((k : Int) ∈ y)) = okl a.length fun k => decide ((k : Int) ∈ aff a x) || decide ((k : Int) ∈ aff a y) := by
        refine okl_congr fun k hk => ?_
        rw [Bool.eq_iff_iff]
        simp only [Bool.or_eq_true, decide_eq_true_eq, mem_aff hk, affB_iff, okl_mem]
        have hm : ∀ (z : Int), (∃ j : Nat, z = (j : Int) ∧ j < a.length ∧ ((j : Int) ∈ x ∨ (j : Int) ∈ y)) ↔ (z ∈ x ∨ z ∈ y) := by
          intro z
          constructor
          · rintro ⟨j, rfl, _, h⟩; exact h
          · intro h
            have hr : 0 ≤ z ∧ z < a.length := by rcases h with h | h; exact hx.rng z h; exact hy.rng z h
            obtain ⟨j, rfl⟩ := natOf hr.1
            exact ⟨j, rfl, by omega, h⟩
        simp only [hm]
        constructor
        · rintro ((h | h) | ⟨z, h | h, hd⟩)
          · exact .inl (.inl h)
          · exact .inr (.inl h)
          · exact .inl (.inr ⟨z, h, hd⟩)
          · exact .inr (.inr ⟨z, h, hd⟩)
        · rintro ((h | ⟨z, h, hd⟩) | (h | ⟨z, h, hd⟩))
          · exact .inl (.inl h)
          · exact .inr ⟨z, .inl h, hd⟩
          · exact .inl (.inr h)
          · exact .inr ⟨z, .inr h, hd⟩
      rw [e1, Ints_refl hn4 (by have := hal x; omega), bsome, if_pos rfl, joined_eq g (ha x) (ha y), bsome, e2, Ints_refl hn4 (by have := okl_len a.length fun k => decide ((k : Int) ∈ aff a x) || decide ((k : Int) ∈ aff a y); omega), bsome]
      rfl
    · simp only [if_pos h1, if_neg h2]
      rw [if_neg (by simp [h1]), if_pos (by simp [h2]), if_pos (by simp [h1]), if_neg (by simp [h2])]
      rfl
  · simp only [if_neg h1]
    rw [show decide ((cf a x).Code ≠ 0) = true by simp [h1]]
    simp only [if_true]
    rw [if_neg (by simp [h1]), if_pos (by simp)]
    by_cases h2 : (cf a y).Code = 0
    · rw [if_pos (by simp [h2])]; rfl
    · rw [if_neg (by simp [h2]), if_neg h2]; rfl

theorem Dep_l2 (g : OkG a) {l : List Int} (hl : OkL a.length l) {i : Nat} (hi : i < a.length) (f : SCodeIndex) (lp1 : Int → Option Bool) (hlp : lp1 ((i + 1 : Nat) : Int) = some true) : ∀ (m j : Nat) (b : Bool), j ≤ (dep a i).length → (dep a i).length - j < m → (b || ((dep a i).drop j).any fun x => decide (x ∈ aff a l)) = ((dep a i).any fun x => decide (x ∈ aff a l)) →
    law6_DepgraphAffectedNodesDepend_l2 40000 a l (aff a l, f) (i : Int) lp1 m b (j : Int) = some true := by
  have hN := g.len
  have hdl := (g.ok i).len
  have hll := hl.len
  have hal : (aff a l).length ≤ 24 := Nat.le_trans (okl_len _ _) hN
  intro m
  induction m with
  | zero => intro j b _ h; omega
  | succ m ih =>
    intro j b hj hm hb
    rw [law6_DepgraphAffectedNodesDepend_l2, gidx_dep hi, bsome]
    unfold law6_DepgraphAffectedNodesDepend_j3
    rw [gadd_nat (by omega)]
    simp only [bsome]
    by_cases h : j < (dep a i).length
    · simp only [decide_eq_true_eq]
      rw [if_pos (by omega)]
      rw [List.drop_eq_getElem_cons h, List.any_cons] at hb
      cases b with
      | true => rw [if_pos rfl]; exact ih (j + 1) true (by omega) (by omega) (by rw [← hb]; simp)
      | false =>
        rw [if_neg (by decide), gidx_nat, getElem?_lt h, bsome, Has_eq hn4 (by omega), bsome]
        exact ih (j + 1) _ (by omega) (by omega) (by rw [← hb]; simp)
    · simp only [decide_eq_true_eq]
      rw [if_neg (by omega), Has_eq hn4 (by omega), bsome]
      rw [List.drop_eq_nil_of_le (by omega), List.any_nil, Bool.or_false] at hb
      -- i is affected if it was changed or needs an affected node
      have key : decide ((i : Int) ∈ aff a l) = (decide ((i : Int) ∈ l) || b) := by
        rw [hb, Bool.eq_iff_iff]
        simp only [Bool.or_eq_true, decide_eq_true_eq, List.any_eq_true, mem_aff hi]
        rw [affB_iff]
        constructor
        · rintro (h | ⟨z, hz, hd⟩)
          · exact .inl h
          · have w := dst_wlk g hi hd
            generalize dst a z.toNat i = k at w
            obtain ⟨y, rfl⟩ := natOf (hl.rng z hz).1
            rw [Int.toNat_natCast] at w
            right
            cases w with
            | one hE => exact ⟨_, hE, (mem_aff (E.lt g hE)).2 (affB_iff.2 (.inl hz))⟩
            | cons hE w => rename_i x k; exact ⟨(x : Int), hE, (mem_aff (E.lt g hE)).2 (affB_iff.2 (.inr ⟨_, hz, by rw [Int.toNat_natCast]; exact dst_reach g w⟩))⟩
        · rintro (h | ⟨x, hx, hm⟩)
          · exact .inl h
          · obtain ⟨y, rfl⟩ := natOf ((g.ok i).rng x hx).1
            have hE : E a i y := hx
            rcases affB_iff.1 ((mem_aff (E.lt g hE)).1 hm) with h | ⟨z, hz, hd⟩
            · exact .inr ⟨_, h, by rw [Int.toNat_natCast]; exact dst_reach g (.one hE)⟩
            · exact .inr ⟨z, hz, dst_reach g (.cons hE (dst_wlk g (E.lt g hE) hd))⟩
      have fin : law6_DepgraphAffectedNodesDepend_j4 40000 (i : Int) lp1 false = some true := by
        unfold law6_DepgraphAffectedNodesDepend_j4
        rw [if_neg (by decide), gadd_nat (by omega), bsome]; exact hlp
      cases b with
      | true =>
        rw [Bool.or_true] at key
        rw [if_pos rfl, key]; exact fin
      | false =>
        rw [Bool.or_false] at key
        rw [if_neg (by decide), Has_eq hn4 (by omega), bsome, key, bne_self_eq_false]; exact fin
theorem Dep_l1 (g : OkG a) {l : List Int} (hl : OkL a.length l) (f : SCodeIndex) : ∀ (m i : Nat), i ≤ a.length → a.length - i < m →
    law6_DepgraphAffectedNodesDepend_l1 40000 a l (aff a l, f) m (i : Int) = some true := by
  have hN := g.len
  intro m
  induction m with
  | zero => intro i _ h; omega
  | succ m ih =>
    intro i hi hm
    rw [law6_DepgraphAffectedNodesDepend_l1]
    by_cases h : i < a.length
    · simp only [decide_eq_true_eq]
      rw [if_pos (by omega)]
      have hdl := (g.ok i).len
      exact Dep_l2 g hl h f _ (ih (i + 1) (by omega) (by omega)) 40000 0 false (by omega) (by omega) (by simp)
    · simp only [decide_eq_true_eq]
      rw [if_neg (by omega)]
theorem Depend_eq (a : List (List Int)) (l : List Int) : law6_DepgraphAffectedNodesDepend 40000 a l = some true := by
  unfold law6_DepgraphAffectedNodesDepend
  rw [Affected_eq hn4, bsome, graphs_ok, bsome, if_neg (by decide)]
  unfold law6_DepgraphAffectedNodesDepend_j1
  by_cases h : (cf a l).Code = 0
  · obtain ⟨_, g, hl⟩ := cf_code h
    simp only [if_pos h]
    rw [if_neg (by simp [h])]
    exact Dep_l1 g hl _ 40000 0 (by omega) (by have := g.len; omega)
  · simp only [if_neg h]
    rw [if_pos (by simp [h]), graphs_ok, bsome, if_pos rfl]
    rfl
end Go.Proofs.Ytpbfobgbpdbiaaa
