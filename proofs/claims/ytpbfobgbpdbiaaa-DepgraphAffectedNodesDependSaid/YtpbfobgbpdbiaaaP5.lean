/- Depgraph: the cycle. -/
import Derived.Test.YtpbfobgbpdbiaaaP4
namespace Go.Proofs.Ytpbfobgbpdbiaaa
open Go.PW Go

variable {a : List (List Int)}
/-- k may follow i on a shortest walk to s -/
noncomputable def nxB (a : List (List Int)) (s i k : Nat) : Bool := decide ((k : Int) ∈ dep a i) && decide (dst a s k + 1 = dst a s i)
noncomputable def chain (a : List (List Int)) (s : Nat) : Nat → Nat → List Int
  | 0, _ => []
  | k + 1, i => match row (nxB a s i) a.length 0 with
    | some x => (x : Int) :: chain a s k x
    | none => []
theorem nx_ex (g : OkG a) {s i : Nat} (hi : i < a.length) (h1 : 1 < dst a s i) (h2 : dst a s i < 1000) : ∃ x, row (nxB a s i) a.length 0 = some x ∧ x < a.length ∧ E a i x ∧ dst a s x + 1 = dst a s i := by
  obtain ⟨n, e1, _, e2⟩ := (distances_eq g (n := 30001) (t := s) (by omega)).2.next g hi h1 h2
  obtain ⟨x, hx⟩ := row_ex (c := nxB a s i) (E.lt g e1) (by unfold nxB; unfold E at e1; simp [e1, e2])
  obtain ⟨_, h3, h4, _⟩ := row_some hx
  unfold nxB at h4
  simp only [Bool.and_eq_true, decide_eq_true_eq] at h4
  exact ⟨x, hx, by omega, h4.1, h4.2⟩
theorem find_row {N : Nat} {l : List Int} (h : OkL N l) (c : Nat → Bool) : l.find? (fun x => c x.toNat) = (row (fun k => decide ((k : Int) ∈ l) && c k) N 0).map fun (k : Nat) => (k : Int) := by
  cases e : l.find? (fun x => c x.toNat) with
  | none =>
    cases e2 : row (fun k => decide ((k : Int) ∈ l) && c k) N 0 with
    | none => rfl
    | some k =>
      obtain ⟨_, _, h3, _⟩ := row_some e2
      simp only [Bool.and_eq_true, decide_eq_true_eq] at h3
      have := List.find?_eq_none.1 e _ h3.1
      rw [Int.toNat_natCast] at this
      exact absurd h3.2 this
  | some x =>
    obtain ⟨hc, as, bs, hl, hb⟩ := List.find?_eq_some_iff_append.1 e
    have hx : x ∈ l := by rw [hl]; simp
    obtain ⟨k, rfl⟩ := natOf (h.rng x hx).1
    rw [Int.toNat_natCast] at hc
    have : row (fun k => decide ((k : Int) ∈ l) && c k) N 0 = some k := by
      refine row_least (by have := h.rng _ hx; omega) (by simp [hx, hc]) fun y hy => ?_
      by_cases hm : (y : Int) ∈ l
      · have hyc : (!c ((y : Int).toNat)) = true := by
          refine hb _ ?_
          rw [hl] at hm
          rcases List.mem_append.1 hm with q | q
          · exact q
          · exfalso
            have hs := h.srt
            rw [hl, List.pairwise_append] at hs
            have hs2 := List.pairwise_cons.1 hs.2.1
            rcases List.mem_cons.1 q with q | q
            · omega
            · have := hs2.1 _ q; omega
        rw [Int.toNat_natCast] at hyc
        simp at hyc
        simp [hyc]
      · simp [hm]
    rw [this]; rfl
theorem Cyc_l2 (g : OkG a) {n s i : Nat} (hi : i < a.length) (w : List Int) (lp1 : (List Int) → Int → Option ((List Int) × Bool × SCodeIndex)) (h1 : 1 < dst a s i) (h2 : dst a s i < 1000) : ∀ (m j : Nat), j ≤ (dep a i).length → (dep a i).length - j < m →
    depgraph_Cycle_l2 n (tabD a.length (dst a s)) w (i : Int) lp1 (dst a s i : Int) (dep a i) m (j : Int) =
      match ((dep a i).drop j).find? (fun x => decide (dst a s x.toNat + 1 = dst a s i)) with | some x => depgraph_Cycle_j1 n w lp1 x | none => depgraph_Cycle_j1 n w lp1 (i : Int) := by
  have hN := g.len
  have hdl := (g.ok i).len
  intro m
  induction m with
  | zero => intro j _ h; omega
  | succ m ih =>
    intro j hj hm
    rw [depgraph_Cycle_l2]
    by_cases h : j < (dep a i).length
    · simp only [decide_eq_true_eq]
      have hr := (g.ok i).rng _ (List.getElem_mem h)
      obtain ⟨x, hx⟩ := natOf hr.1
      rw [if_pos (by omega), gidx_nat, getElem?_lt h, bsome, hx, gidx_tabD _ (by omega), bsome, gsubI (by omega), bsome, List.drop_eq_getElem_cons h, List.find?_cons, hx, Int.toNat_natCast]
      by_cases q : dst a s x + 1 = dst a s i
      · rw [if_pos (by omega)]; simp [q]
      · rw [if_neg (by omega), gadd_nat (by omega), bsome, ih (j + 1) (by omega) (by omega)]; simp [q]
    · simp only [decide_eq_true_eq]
      rw [if_neg (by omega), List.drop_eq_nil_of_le (by omega)]; rfl
theorem Cyc_l1 (g : OkG a) {n s : Nat} (hn : 30000 < n) : ∀ (m i : Nat) (w : List Int), i < a.length → dst a s i < 1000 → 1 ≤ dst a s i → dst a s i < m → w.length + dst a s i ≤ 2000 →
    depgraph_Cycle_l1 n a (tabD a.length (dst a s)) m w (i : Int) = some (w ++ chain a s (dst a s i - 1) i, true, ⟨0, 0⟩) := by
  have hN := g.len
  intro m
  induction m with
  | zero => intro i w _ _ _ h; omega
  | succ m ih =>
    intro i w hi h2 h0 hm hw
    rw [depgraph_Cycle_l1, gidx_tabD _ hi, bsome]
    simp only [decide_eq_true_eq]
    by_cases h1 : 1 < dst a s i
    · rw [if_pos (by omega), gidx_dep hi, bsome]
      obtain ⟨x, hx, hxN, hE, hd⟩ := nx_ex g hi h1 h2
      have hdl := (g.ok i).len
      have e := Cyc_l2 g (n := n) hi w (depgraph_Cycle_l1 n a (tabD a.length (dst a s)) m) h1 h2 n 0 (by omega) (by omega)
      rw [show depgraph_Cycle_l2 n (tabD a.length (dst a s)) w (i : Int) (depgraph_Cycle_l1 n a (tabD a.length (dst a s)) m) (dst a s i : Int) (dep a i) n 0 = _ from e, List.drop_zero]
      have f : (dep a i).find? (fun x => decide (dst a s x.toNat + 1 = dst a s i)) = some (x : Int) := by
        rw [find_row (g.ok i) (fun k => decide (dst a s k + 1 = dst a s i)), show row (fun k => decide ((k : Int) ∈ dep a i) && decide (dst a s k + 1 = dst a s i)) a.length 0 = some x from hx]; rfl
      rw [f]
      show depgraph_Cycle_j1 n w _ (x : Int) = _
      unfold depgraph_Cycle_j1
      rw [gapp_ok (by simp; omega), bsome, ih x _ hxN (by omega) (by omega) (by omega) (by simp; omega), show dst a s i - 1 = (dst a s x - 1) + 1 by omega, chain, hx, List.append_assoc]
      rfl
    · rw [if_neg (by omega), show dst a s i - 1 = 0 by omega, chain, List.append_nil]
noncomputable def cyc (a : List (List Int)) (s : Nat) : List Int := (s : Int) :: chain a s (dst a s s - 1) s
noncomputable def cycR (a : List (List Int)) : List Int × Bool × SCodeIndex := if (gf a).Code = 0 then (if firstC a < 0 then ([], false, ⟨0, 0⟩) else (cyc a (firstC a).toNat, true, ⟨0, 0⟩)) else ([], false, gf a)
theorem Cycle_eq {n : Nat} (hn : 30000 < n) (a : List (List Int)) : depgraph_Cycle n a = some (cycR a) := by
  unfold depgraph_Cycle cycR
  rw [Validate_eq hn, bsome, fault_zero]
  by_cases h : (gf a).Code = 0
  · have h0 := gf_code h
    have g := gf_ok h0
    rw [if_neg (by simp [h0]), if_pos h, cyclic_eq g hn, bsome]
    simp only [decide_eq_true_eq]
    rcases firstC_cases a with ⟨e, _⟩ | ⟨s, e, h1, h2, _⟩
    · rw [e, if_pos (by omega), if_pos (by omega)]
    · rw [e, if_neg (by omega), if_neg (by omega), (distances_eq g hn).1, bsome]
      have lo := (distances_eq g (t := s) hn).2.lo s h1
      have := Cyc_l1 g hn (s := s) n s [(s : Int)] h1 h2 lo (by omega) (by simp; omega)
      rw [this]; rfl
  · have : ¬ gf a = ⟨0, 0⟩ := fun e => h (by rw [e])
    rw [if_pos (by simp [this]), if_neg h]

/-! ### the reference's cycle -/
def optI (o : Option Nat) : Int := match o with
  | some x => (x : Int)
  | none => -1
theorem row_down {c : Nat → Bool} {N k : Nat} (hk : k < N) : row c (N - k) k = if c k = true then some k else row c (N - (k + 1)) (k + 1) := by
  rw [show N - k = (N - (k + 1)) + 1 by omega, row]
theorem Sho_l2 (g : OkG a) {n s i : Nat} (hn : 30000 < n) (hs : s < a.length) (hi : i < a.length) (w : List Int) (hw : w.length ≤ 2000) (left : Int) (hl : left = dst a s i - 1) (h1 : 1 < dst a s i) (h2 : dst a s i < 1000) (h3 : dst a s i ≤ dst a s s)
    (lp1 : (List Int) → Int → Int → Option (List Int)) : ∀ (m k : Nat), k ≤ a.length → k < m →
    ref6_ShortestCycle_l2 n a (s : Int) (tabT a.length (dT a)) w (i : Int) left lp1 m (optI (row (nxB a s i) (a.length - k) k)) ((k : Int) - 1) =
      lp1 (w ++ [optI (row (nxB a s i) a.length 0)]) (optI (row (nxB a s i) a.length 0)) (left - 1) := by
  have hN := g.len
  have hdl := (g.ok i).len
  intro m
  induction m with
  | zero => intro k _ h; omega
  | succ m ih =>
    intro k hk hm
    rw [ref6_ShortestCycle_l2]
    simp only [decide_eq_true_eq]
    by_cases h : 0 < k
    · obtain ⟨k, rfl⟩ : ∃ j, k = j + 1 := ⟨k - 1, by omega⟩
      rw [show (((k + 1 : Nat) : Int) - 1) = (k : Int) by omega]
      rw [if_pos (by omega), gidx_dep hi, bsome, Has_eq hn (by omega), bsome]
      have fin : ∀ b : Bool, b = nxB a s i k → ref6_ShortestCycle_j2 n (optI (row (nxB a s i) (a.length - (k + 1)) (k + 1))) (k : Int) (ref6_ShortestCycle_l2 n a (s : Int) (tabT a.length (dT a)) w (i : Int) left lp1 m) b =
          lp1 (w ++ [optI (row (nxB a s i) a.length 0)]) (optI (row (nxB a s i) a.length 0)) (left - 1) := by
        intro b hb
        have e := row_down (c := nxB a s i) (N := a.length) (k := k) (by omega)
        unfold ref6_ShortestCycle_j2 ref6_ShortestCycle_j1
        rw [gsubI (by omega)]
        simp only [bsome]
        have I := ih k (by omega) (by omega)
        subst hb
        by_cases q : nxB a s i k = true
        · rw [if_pos q] at e; rw [if_pos q, ← I, e]; rfl
        · rw [if_neg q] at e; rw [if_neg q, ← I, e]
      by_cases q : (k : Int) ∈ dep a i
      · rw [if_pos (by simp [q])]
        by_cases q2 : k = s
        · subst q2
          rw [if_neg (by simp)]
          refine fin false ?_
          unfold nxB
          rw [show decide (dst a k k + 1 = dst a k i) = false by simp; omega, Bool.and_false]
        · rw [if_pos (by omega), gidx_tabT _ (by omega), bsome, gidx_tabD _ hs, bsome]
          refine fin _ ?_
          unfold nxB dT
          simp only [q, decide_true, Bool.true_and]
          exact decide_eq_decide.2 (by omega)
      · rw [if_neg (by simp [q])]
        exact fin false (by unfold nxB; simp [q])
    · have : k = 0 := by omega
      subst this
      rw [if_neg (by omega), gapp_ok (by simp; omega), bsome, gsubI (by omega), bsome]
      rfl
theorem Sho_l1 (g : OkG a) {n s : Nat} (hn : 30000 < n) (hs : s < a.length) : ∀ (m i : Nat) (w : List Int), i < a.length → dst a s i < 1000 → 1 ≤ dst a s i → dst a s i ≤ dst a s s → dst a s i < m → w.length + dst a s i ≤ 2000 →
    ref6_ShortestCycle_l1 n a (s : Int) (tabT a.length (dT a)) m w (i : Int) ((dst a s i : Int) - 1) = some (w ++ chain a s (dst a s i - 1) i) := by
  have hN := g.len
  intro m
  induction m with
  | zero => intro i w _ _ _ _ h; omega
  | succ m ih =>
    intro i w hi h2 h0 h3 hm hw
    rw [ref6_ShortestCycle_l1]
    simp only [decide_eq_true_eq]
    by_cases h1 : 1 < dst a s i
    · obtain ⟨x, hx, hxN, hE, hd⟩ := nx_ex g hi h1 h2
      rw [if_pos (by omega), gsubI (by omega), bsome]
      have e := Sho_l2 g hn hs hi w (by omega) ((dst a s i : Int) - 1) rfl h1 h2 h3 (ref6_ShortestCycle_l1 n a (s : Int) (tabT a.length (dT a)) m) n a.length (by omega) (by omega)
      rw [Nat.sub_self] at e
      rw [show ref6_ShortestCycle_l2 n a (s : Int) (tabT a.length (dT a)) w (i : Int) ((dst a s i : Int) - 1) (ref6_ShortestCycle_l1 n a (s : Int) (tabT a.length (dT a)) m) n (-1) ((a.length : Int) - 1) = _ from e, hx]
      show ref6_ShortestCycle_l1 n a (s : Int) (tabT a.length (dT a)) m (w ++ [(x : Int)]) (x : Int) _ = _
      rw [show ((dst a s i : Int) - 1 - 1) = (dst a s x : Int) - 1 by omega, ih x _ hxN (by omega) (by omega) (by omega) (by omega) (by simp; omega), show dst a s i - 1 = (dst a s x - 1) + 1 by omega, chain, hx, List.append_assoc]
      rfl
    · rw [if_neg (by omega), show dst a s i - 1 = 0 by omega, chain, List.append_nil]
theorem Shortest_eq (g : OkG a) {n s : Nat} (hn : 30000 < n) (hs : s < a.length) (h2 : dst a s s < 1000) : ref6_ShortestCycle n a (s : Int) = some (cyc a s) := by
  have hN := g.len
  have lo := (distances_eq g (t := s) hn).2.lo s hs
  unfold ref6_ShortestCycle
  rw [Distance_eq g hn, bsome, gidx_tabT _ hs, bsome, gidx_tabD _ hs, bsome]
  unfold dT
  rw [gsubI (by omega), bsome]
  exact Sho_l1 g hn hs n s [(s : Int)] hs h2 lo (Nat.le_refl _) (by omega) (by simp; omega)

/-! ### what a cycle is -/
theorem tabD_cons (k : Nat) (y : Nat → Nat) : tabD (k + 1) y = (y 0 : Int) :: tabD k (fun j => y (j + 1)) := by
  unfold tabD tab
  rw [List.range_succ_eq_map, List.map_cons, List.map_map]
  rfl
theorem chain_path (g : OkG a) (s : Nat) : ∀ (k i : Nat), i < a.length → dst a s i = k + 1 → k + 1 < 1000 →
    ∃ y : Nat → Nat, y 0 = i ∧ (i : Int) :: chain a s k i = tabD (k + 1) y ∧ (∀ j ≤ k, y j < a.length ∧ dst a s (y j) + j = k + 1) ∧ ∀ j < k, E a (y j) (y (j + 1))
  | 0, i, hi, hd, _ => ⟨fun _ => i, rfl, rfl, fun j hj => ⟨hi, by show dst a s i + j = _; omega⟩, fun j hj => by omega⟩
  | k + 1, i, hi, hd, hk => by
    have q1 : 1 < dst a s i := by rw [hd]; omega
    have q2 : dst a s i < 1000 := by rw [hd]; omega
    obtain ⟨x, hx, hxN, hE, hd2⟩ := nx_ex g hi q1 q2
    obtain ⟨y, y0, y1, y2, y3⟩ := chain_path g s k x hxN (by omega) (by omega)
    refine ⟨fun j => match j with | 0 => i | j + 1 => y j, rfl, ?_, fun j hj => ?_, fun j hj => ?_⟩
    · rw [tabD_cons, chain, hx, ← y1]
    · cases j with
      | zero => exact ⟨hi, by omega⟩
      | succ j => have := y2 j (by omega); exact ⟨this.1, by show dst a s (y j) + (j + 1) = _; omega⟩
    · cases j with
      | zero => show E a i (y 0); rw [y0]; exact hE
      | succ j => exact y3 j (by omega)
end Go.Proofs.Ytpbfobgbpdbiaaa
