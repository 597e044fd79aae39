/- Depgraph: orders. -/
import Derived.Test.YtpbfobgbpdbiaaaP5
namespace Go.Proofs.Ytpbfobgbpdbiaaa
open Go.PW Go

variable {a : List (List Int)}
/-- no node is on a cycle -/
def Ac (a : List (List Int)) : Prop := ∀ i : Nat, i < a.length → ¬ dst a i i < 1000
noncomputable def rk (a : List (List Int)) (i : Nat) : Nat := ((List.range a.length).filter fun j => decide (dst a j i < 1000)).length
theorem rk_le (a : List (List Int)) (i : Nat) : rk a i ≤ a.length := by
  unfold rk; exact Nat.le_trans (List.length_filter_le _ _) (by simp)
theorem dst_reach (g : OkG a) {i t k : Nat} (w : Wlk a i t k) : dst a t i < 1000 := (distances_eq g (n := 30001) (t := t) (by omega)).2.reach g w
theorem dst_wlk (g : OkG a) {i t : Nat} (hi : i < a.length) (h : dst a t i < 1000) : Wlk a i t (dst a t i) := (distances_eq g (n := 30001) (t := t) (by omega)).2.wlk i hi h
theorem rk_lt (g : OkG a) (A : Ac a) {i x : Nat} (h : E a i x) : rk a x < rk a i := by
  have hx := E.lt g h
  refine filter_lt (fun j _ hj => ?_) ⟨x, by simpa using hx, by simpa using dst_reach g (.one h), by simpa using A x hx⟩
  simp only [decide_eq_true_eq] at hj ⊢
  exact dst_reach g (.cons h (dst_wlk g hx hj))

/-- done with all that it needs -/
def rdy (a : List (List Int)) (c : Nat → Bool) (k : Nat) : Bool := !c k && (dep a k).all fun x => c x.toNat
theorem rdy_ex (g : OkG a) (A : Ac a) (c : Nat → Bool) : ∀ (k i : Nat), rk a i ≤ k → i < a.length → c i = false → ∃ r, r < a.length ∧ rdy a c r = true := by
  intro k
  induction k with
  | zero =>
    intro i hk hi hc
    refine ⟨i, hi, ?_⟩
    unfold rdy
    simp only [hc, Bool.not_false, Bool.true_and, List.all_eq_true]
    intro x hx
    obtain ⟨y, rfl⟩ := natOf ((g.ok i).rng x hx).1
    have := rk_lt g A (show E a i y from hx)
    omega
  | succ k ih =>
    intro i hk hi hc
    by_cases q : rdy a c i = true
    · exact ⟨i, hi, q⟩
    · unfold rdy at q
      simp only [hc, Bool.not_false, Bool.true_and, List.all_eq_true] at q
      obtain ⟨x, hx⟩ := Classical.not_forall.1 q
      obtain ⟨hx, hcx⟩ := Classical.not_imp.1 hx
      obtain ⟨y, rfl⟩ := natOf ((g.ok i).rng x hx).1
      have hE : E a i y := hx
      have := rk_lt g A hE
      exact ih y (by omega) (E.lt g hE) (by simpa using hcx)
def updB (c : Nat → Bool) (r : Nat) : Nat → Bool := fun y => if y = r then true else c y
/-- how many are not done -/
def cF (c : Nat → Bool) : Nat → Nat
  | 0 => 0
  | k + 1 => cF c k + if c k = true then 0 else 1
theorem cF_ex {c : Nat → Bool} : ∀ {k}, 0 < cF c k → ∃ i, i < k ∧ c i = false
  | 0, h => by simp [cF] at h
  | k + 1, h => by
    by_cases q : c k = true
    · simp only [cF, q, if_true, Nat.add_zero] at h
      obtain ⟨i, h1, h2⟩ := cF_ex h
      exact ⟨i, by omega, h2⟩
    · exact ⟨k, by omega, by simpa using q⟩
theorem cF_ge {c : Nat → Bool} {r : Nat} : ∀ {k}, k ≤ r → cF (updB c r) k = cF c k
  | 0, _ => rfl
  | k + 1, h => by simp only [cF]; rw [cF_ge (k := k) (by omega)]; unfold updB; rw [if_neg (show ¬ k = r by omega)]
theorem cF_upd {c : Nat → Bool} {r : Nat} (hc : c r = false) : ∀ {k}, r < k → cF (updB c r) k + 1 = cF c k
  | k + 1, h => by
    simp only [cF]
    by_cases q : r = k
    · subst q; rw [cF_ge (Nat.le_refl _), hc]; unfold updB; simp
    · have := cF_upd hc (k := k) (by omega)
      have e : updB c r k = c k := by unfold updB; rw [if_neg (by omega)]
      rw [e]; omega
theorem cF_all (k : Nat) : cF (fun _ => false) k = k := by
  induction k with
  | zero => rfl
  | succ k ih => simp only [cF, ih]; simp
/-- the rest of the order -/
def ordL (a : List (List Int)) : Nat → (Nat → Bool) → List Int
  | 0, _ => []
  | k + 1, c => match row (rdy a c) a.length 0 with
    | some r => (r : Int) :: ordL a k (updB c r)
    | none => []
theorem rdy_row (g : OkG a) (A : Ac a) {c : Nat → Bool} (h : 0 < cF c a.length) : ∃ r, row (rdy a c) a.length 0 = some r ∧ r < a.length ∧ c r = false ∧ ∀ x ∈ dep a r, c x.toNat = true := by
  obtain ⟨i, hi, hc⟩ := cF_ex h
  obtain ⟨r, hr, h1⟩ := rdy_ex g A c (rk a i) i (Nat.le_refl _) hi hc
  obtain ⟨s, hs⟩ := row_ex hr h1
  obtain ⟨_, h2, h3, _⟩ := row_some hs
  unfold rdy at h3
  simp only [Bool.and_eq_true, List.all_eq_true, Bool.not_eq_true'] at h3
  exact ⟨s, hs, by omega, h3.1, h3.2⟩

/-! ### the program's order -/
theorem Ord_l3 (g : OkG a) {n k : Nat} (hk : k < a.length) (c : Nat → Bool) (x6 : Int) (lp2 : Int → Int → Option ((List Int) × SCodeIndex)) : ∀ (m j : Nat), j ≤ (dep a k).length → (dep a k).length - j < m →
    depgraph_Order_l3 n (tabB a.length c) x6 (k : Int) lp2 (dep a k) m (j : Int) = depgraph_Order_j2 n x6 (k : Int) lp2 (((dep a k).drop j).all fun x => c x.toNat) := by
  have hN := g.len
  have hdl := (g.ok k).len
  intro m
  induction m with
  | zero => intro j _ h; omega
  | succ m ih =>
    intro j hj hm
    rw [depgraph_Order_l3]
    by_cases h : j < (dep a k).length
    · simp only [decide_eq_true_eq]
      have hr := (g.ok k).rng _ (List.getElem_mem h)
      obtain ⟨x, hx⟩ := natOf hr.1
      rw [if_pos (by omega), gidx_nat, getElem?_lt h, bsome, hx, gidx_tabB _ (by omega), bsome, List.drop_eq_getElem_cons h, List.all_cons, hx, Int.toNat_natCast]
      unfold depgraph_Order_j5
      by_cases q : c x = true
      · rw [if_neg (by simp [q]), gadd_nat (by omega), bsome, ih (j + 1) (by omega) (by omega), q, Bool.true_and]
      · rw [if_pos (by simp [q])]
        unfold depgraph_Order_j4 depgraph_Order_j3
        rw [show (!decide ((0 : Int) ≤ (j : Int))) = false by simp]
        simp only [Bool.not_eq_true] at q
        rw [q, Bool.false_and]
    · simp only [decide_eq_true_eq]
      rw [if_neg (by omega), List.drop_eq_nil_of_le (by omega)]
      unfold depgraph_Order_j4 depgraph_Order_j3
      rfl
theorem Ord_l2 (g : OkG a) {n r x5 : Nat} (hn : 30000 < n) (hr : r < a.length) (h5 : x5 < 100) (c : Nat → Bool) (w : List Int) (hw : w.length ≤ 24) (lp1 : (List Bool) → (List Int) → Int → Option ((List Int) × SCodeIndex)) : ∀ (m k : Nat) (x6 : Int), k ≤ a.length → a.length - k < m → (x6 = r ∨ x6 = -1 ∧ row (rdy a c) (a.length - k) k = some r) →
    depgraph_Order_l2 n a (tabB a.length c) w (x5 : Int) lp1 m x6 (k : Int) = lp1 (tabB a.length (updB c r)) (w ++ [(r : Int)]) ((x5 + 1 : Nat) : Int) := by
  have hN := g.len
  intro m
  induction m with
  | zero => intro k x6 _ h; omega
  | succ m ih =>
    intro k x6 hk hm hx
    rw [depgraph_Order_l2]
    simp only [decide_eq_true_eq]
    by_cases h : k < a.length
    · rw [if_pos (by omega), gidx_dep h, bsome]
      have hdl := (g.ok k).len
      have no : (x6 = r ∨ x6 = -1 ∧ row (rdy a c) (a.length - (k + 1)) (k + 1) = some r) → depgraph_Order_j2 n x6 (k : Int) (depgraph_Order_l2 n a (tabB a.length c) w (x5 : Int) lp1 m) false = lp1 (tabB a.length (updB c r)) (w ++ [(r : Int)]) ((x5 + 1 : Nat) : Int) := by
        intro hx
        unfold depgraph_Order_j2 depgraph_Order_j1
        rw [if_neg (by decide), gadd_nat (by omega), bsome]
        exact ih (k + 1) x6 (by omega) (by omega) hx
      rcases hx with hx | ⟨hx, hro⟩
      · rw [if_neg (by omega)]; exact no (.inl hx)
      · rw [if_pos (by omega), gidx_tabB _ h, bsome]
        rw [show a.length - k = (a.length - (k + 1)) + 1 by omega, row] at hro
        by_cases q : c k = true
        · have q2 : ¬ rdy a c k = true := by unfold rdy; simp [q]
          rw [if_neg q2] at hro
          rw [if_neg (by simp [q])]
          exact no (.inr ⟨hx, hro⟩)
        · simp only [Bool.not_eq_true] at q
          rw [if_pos (by simp [q])]
          have e := Ord_l3 g (n := n) h c x6 (depgraph_Order_l2 n a (tabB a.length c) w (x5 : Int) lp1 m) n 0 (by omega) (by omega)
          rw [show depgraph_Order_l3 n (tabB a.length c) x6 (k : Int) (depgraph_Order_l2 n a (tabB a.length c) w (x5 : Int) lp1 m) (dep a k) n 0 = _ from e, List.drop_zero]
          have e2 : rdy a c k = (dep a k).all fun x => c x.toNat := by unfold rdy; rw [q]; rfl
          rw [← e2]
          by_cases q2 : rdy a c k = true
          · rw [if_pos q2] at hro
            injection hro with hro
            subst hro
            rw [q2]
            unfold depgraph_Order_j2 depgraph_Order_j1
            rw [if_pos rfl, gadd_nat (by omega), bsome]
            exact ih (k + 1) (k : Int) (by omega) (by omega) (.inl rfl)
          · rw [if_neg q2] at hro
            simp only [Bool.not_eq_true] at q2
            rw [q2]
            exact no (.inr ⟨hx, hro⟩)
    · have : k = a.length := by omega
      subst this
      rw [Nat.sub_self] at hx
      have hx : x6 = r := by rcases hx with h | ⟨_, h⟩; exact h; cases h
      subst hx
      rw [if_neg (by omega), gidx_tabB _ hr, bsome, gapp_ok (by simp; omega), bsome, gadd_nat (by omega), bsome, gset_tabB]
      rfl
theorem Ord_l1 (g : OkG a) (A : Ac a) {n : Nat} (hn : 30000 < n) : ∀ (m k : Nat) (c : Nat → Bool) (w : List Int), k ≤ a.length → w.length = a.length - k → cF c a.length = k → k < m →
    depgraph_Order_l1 n a m (tabB a.length c) w ((a.length - k : Nat) : Int) = some (w ++ ordL a k c, ⟨0, 0⟩) := by
  have hN := g.len
  intro m
  induction m with
  | zero => intro k c w _ _ _ h; omega
  | succ m ih =>
    intro k c w hk hw hc hm
    rw [depgraph_Order_l1]
    simp only [decide_eq_true_eq]
    cases k with
    | zero => rw [if_neg (by omega), ordL, List.append_nil]
    | succ k =>
      rw [if_pos (by omega)]
      obtain ⟨r, h1, h2, h3, _⟩ := rdy_row g A (c := c) (by omega)
      have e := Ord_l2 g hn (x5 := a.length - (k + 1)) h2 (by omega) c w (by omega) (depgraph_Order_l1 n a m) n 0 (-1) (by omega) (by omega) (.inr ⟨rfl, h1⟩)
      rw [show depgraph_Order_l2 n a (tabB a.length c) w ((a.length - (k + 1) : Nat) : Int) (depgraph_Order_l1 n a m) n (-1) 0 = _ from e]
      have hu := cF_upd h3 h2
      rw [show a.length - (k + 1) + 1 = a.length - k by omega, ih k (updB c r) (w ++ [(r : Int)]) (by omega) (by simp; omega) (by omega) (by omega), ordL, h1, List.append_assoc]
      rfl
/-- the order -/
def order (a : List (List Int)) : List Int := ordL a a.length fun _ => false
noncomputable def of (a : List (List Int)) : SCodeIndex := if (gf a).Code = 0 then (if firstC a < 0 then ⟨0, 0⟩ else ⟨20, firstC a⟩) else gf a
theorem of_code (h : (of a).Code = 0) : of a = ⟨0, 0⟩ ∧ OkG a ∧ Ac a ∧ gf a = ⟨0, 0⟩ ∧ firstC a < 0 := by
  unfold of at h ⊢
  split at h
  · rename_i q
    rw [if_pos q]
    split at h
    · rename_i q2
      rw [if_pos q2]
      refine ⟨rfl, gf_ok (gf_code q), ?_, gf_code q, q2⟩
      rcases firstC_cases a with ⟨_, e⟩ | ⟨s, e, _⟩
      · exact e
      · omega
    · cases h
  · rename_i q; exact absurd h q
theorem checkOrder_eq {n : Nat} (hn : 30000 < n) (a : List (List Int)) : depgraph_checkOrder n a = some (of a) := by
  unfold depgraph_checkOrder of
  rw [Validate_eq hn, bsome, fault_zero]
  by_cases h : (gf a).Code = 0
  · have h0 := gf_code h
    rw [if_neg (by simp [h0]), if_pos h, cyclic_eq (gf_ok h0) hn, bsome]
    simp only [decide_eq_true_eq]
    by_cases q : firstC a < 0
    · rw [if_neg (by omega), if_pos q]
    · rw [if_pos (by omega), if_neg q]
  · have : ¬ gf a = ⟨0, 0⟩ := fun e => h (by rw [e])
    rw [if_pos (by simp [this]), if_neg h]
theorem Order_eq {n : Nat} (hn : 30000 < n) (a : List (List Int)) : depgraph_Order n a = some (if (of a).Code = 0 then order a else [], of a) := by
  unfold depgraph_Order
  rw [checkOrder_eq hn, bsome, fault_zero]
  by_cases h : (of a).Code = 0
  · obtain ⟨h0, g, A, _⟩ := of_code h
    have hN := g.len
    rw [if_neg (by simp [h0]), if_pos h, gmake_nat _ (by omega), bsome, h0, tab_const]
    have := Ord_l1 g A hn n a.length (fun _ => false) [] (Nat.le_refl _) (by simp) (cF_all _) (by omega)
    rw [Nat.sub_self] at this
    exact this
  · have : ¬ of a = ⟨0, 0⟩ := fun e => h (by rw [e])
    rw [if_pos (by simp [this]), if_neg h]

/-! ### the reference's order -/
theorem Top_l3 (g : OkG a) {n k : Nat} (hn : 30000 < n) (hk : k < a.length) (c : Nat → Bool) (w : List Int) (hw : w.length ≤ 24) (hR : ∀ k < a.length, c k = decide ((k : Int) ∈ w)) (x4 : Int) (lp2 : Int → Int → Option (List Int)) : ∀ (m j : Nat) (b : Bool), j ≤ (dep a k).length → (dep a k).length - j < m →
    ref6_Topological_l3 n a w x4 (k : Int) lp2 m b (j : Int) = ref6_Topological_j2 n (k : Int) lp2 (if (b && ((dep a k).drop j).all fun x => c x.toNat) = true then (k : Int) else x4) := by
  have hN := g.len
  have hdl := (g.ok k).len
  intro m
  induction m with
  | zero => intro j b _ h; omega
  | succ m ih =>
    intro j b hj hm
    rw [ref6_Topological_l3, gidx_dep hk, bsome]
    by_cases h : j < (dep a k).length
    · simp only [decide_eq_true_eq]
      have hr := (g.ok k).rng _ (List.getElem_mem h)
      obtain ⟨x, hx⟩ := natOf hr.1
      unfold ref6_Topological_j3
      rw [if_pos (by omega), gidx_nat, getElem?_lt h, List.drop_eq_getElem_cons h, List.all_cons, hx, Int.toNat_natCast, gadd_nat (by omega)]
      simp only [bsome]
      cases b with
      | true =>
        rw [if_pos rfl, Has_eq hn (by omega), bsome, ih (j + 1) _ (by omega) (by omega), hR x (by omega)]
        simp only [Bool.true_and]
      | false => rw [if_neg (by decide), ih (j + 1) _ (by omega) (by omega)]; simp only [Bool.false_and]
    · simp only [decide_eq_true_eq]
      rw [if_neg (by omega), List.drop_eq_nil_of_le (by omega)]
      cases b with
      | true => rfl
      | false => rfl
theorem Top_l2 (g : OkG a) {n : Nat} (hn : 30000 < n) (c : Nat → Bool) (w : List Int) (hw : w.length ≤ 24) (hR : ∀ k < a.length, c k = decide ((k : Int) ∈ w)) (lp1 : (List Int) → Option (List Int)) : ∀ (m k : Nat), k ≤ a.length → k < m →
    ref6_Topological_l2 n a w lp1 m (optI (row (rdy a c) (a.length - k) k)) ((k : Int) - 1) = lp1 (w ++ [optI (row (rdy a c) a.length 0)]) := by
  have hN := g.len
  intro m
  induction m with
  | zero => intro k _ h; omega
  | succ m ih =>
    intro k hk hm
    rw [ref6_Topological_l2]
    simp only [decide_eq_true_eq]
    by_cases h : 0 < k
    · obtain ⟨k, rfl⟩ : ∃ j, k = j + 1 := ⟨k - 1, by omega⟩
      have hdl := (g.ok k).len
      rw [show (((k + 1 : Nat) : Int) - 1) = (k : Int) by omega]
      rw [if_pos (by omega), Has_eq hn (by omega), bsome]
      have e := Top_l3 g hn (k := k) (by omega) c w hw hR (optI (row (rdy a c) (a.length - (k + 1)) (k + 1))) (ref6_Topological_l2 n a w lp1 m) n 0 (!decide ((k : Int) ∈ w)) (by omega) (by omega)
      rw [show ref6_Topological_l3 n a w (optI (row (rdy a c) (a.length - (k + 1)) (k + 1))) (k : Int) (ref6_Topological_l2 n a w lp1 m) n (!decide ((k : Int) ∈ w)) 0 = _ from e, List.drop_zero, ← hR k (by omega)]
      unfold ref6_Topological_j2
      rw [gsubI (by omega), bsome]
      rw [show (!c k && (dep a k).all fun x => c x.toNat) = rdy a c k from rfl]
      have I := ih k (by omega) (by omega)
      rw [row_down (by omega)] at I
      by_cases q : rdy a c k = true
      · rw [if_pos q] at I ⊢; exact I
      · rw [if_neg q] at I ⊢; exact I
    · have : k = 0 := by omega
      subst this
      rw [if_neg (by omega), gapp_ok (by simp; omega), bsome]
      rfl
theorem Top_l1 (g : OkG a) (A : Ac a) {n : Nat} (hn : 30000 < n) : ∀ (m k : Nat) (c : Nat → Bool) (w : List Int), k ≤ a.length → w.length = a.length - k → cF c a.length = k → (∀ k < a.length, c k = decide ((k : Int) ∈ w)) → k < m →
    ref6_Topological_l1 n a m w = some (w ++ ordL a k c) := by
  have hN := g.len
  intro m
  induction m with
  | zero => intro k c w _ _ _ _ h; omega
  | succ m ih =>
    intro k c w hk hw hc hR hm
    rw [ref6_Topological_l1]
    simp only [decide_eq_true_eq]
    cases k with
    | zero => rw [if_neg (by omega), ordL, List.append_nil]; rfl
    | succ k =>
      rw [if_pos (by omega), gsubI (by omega), bsome]
      obtain ⟨r, h1, h2, h3, _⟩ := rdy_row g A (c := c) (by omega)
      have e := Top_l2 g hn c w (by omega) hR (ref6_Topological_l1 n a m) n a.length (by omega) (by omega)
      rw [Nat.sub_self] at e
      rw [show ref6_Topological_l2 n a w (ref6_Topological_l1 n a m) n (-1) ((a.length : Int) - 1) = _ from e, h1]
      have hu := cF_upd h3 h2
      show ref6_Topological_l1 n a m (w ++ [(r : Int)]) = _
      rw [ih k (updB c r) (w ++ [(r : Int)]) (by omega) (by simp; omega) (by omega) ?_ (by omega), ordL, h1, List.append_assoc]
      · rfl
      · intro y hy
        unfold updB
        by_cases q : y = r
        · subst q; simp
        · rw [if_neg q, hR y hy]
          simp; omega
theorem Topological_eq (g : OkG a) (A : Ac a) {n : Nat} (hn : 30000 < n) : ref6_Topological n a = some (order a) := by
  have hN := g.len
  unfold ref6_Topological
  exact Top_l1 g A hn n a.length (fun _ => false) [] (Nat.le_refl _) (by simp) (cF_all _) (by simp) (by omega)

/-! ### what an order is -/
structure OrdOk (a : List (List Int)) (c : Nat → Bool) (L : List Int) : Prop where
  nat : ∀ x ∈ L, ∃ r : Nat, x = r ∧ r < a.length ∧ c r = false
  nd : L.Nodup
  before : ∀ j (r : Nat), L[j]? = some (r : Int) → ∀ x ∈ dep a r, c x.toNat = true ∨ x ∈ L.take j
  all : ∀ i : Nat, i < a.length → c i = false → (i : Int) ∈ L
theorem ordL_ok (g : OkG a) (A : Ac a) : ∀ (k : Nat) (c : Nat → Bool), cF c a.length = k → OrdOk a c (ordL a k c) ∧ (ordL a k c).length = k
  | 0, c, hc => by
    refine ⟨⟨by simp [ordL], by simp [ordL], by simp [ordL], fun i hi h => ?_⟩, rfl⟩
    exfalso
    have : ∀ k, i < k → 0 < cF c k := by
      intro k
      induction k with
      | zero => intro h; omega
      | succ k ih =>
        intro hk
        simp only [cF]
        by_cases q : i = k
        · subst q; rw [h]; simp
        · have := ih (by omega); omega
    have := this _ hi
    omega
  | k + 1, c, hc => by
    obtain ⟨r, h1, h2, h3, h4⟩ := rdy_row g A (c := c) (by omega)
    have hu := cF_upd h3 h2
    obtain ⟨I, hl⟩ := ordL_ok g A k (updB c r) (by omega)
    have e : ordL a (k + 1) c = (r : Int) :: ordL a k (updB c r) := by rw [ordL, h1]
    rw [e]
    have up : ∀ y : Nat, updB c r y = false → c y = false ∧ y ≠ r := by
      intro y hy
      unfold updB at hy
      split at hy
      · cases hy
      · exact ⟨hy, by assumption⟩
    refine ⟨⟨fun x hx => ?_, ?_, fun j s hs x hx => ?_, fun i hi hci => ?_⟩, by simp [hl]⟩
    · rcases List.mem_cons.1 hx with rfl | hx
      · exact ⟨r, rfl, h2, h3⟩
      · obtain ⟨s, e1, e2, e3⟩ := I.nat x hx
        exact ⟨s, e1, e2, (up s e3).1⟩
    · refine List.nodup_cons.2 ⟨fun hm => ?_, I.nd⟩
      obtain ⟨s, e1, e2, e3⟩ := I.nat _ hm
      exact (up s e3).2 (by omega)
    · cases j with
      | zero =>
        simp at hs
        have : s = r := by omega
        subst this
        exact .inl (h4 x hx)
      | succ j =>
        rw [List.getElem?_cons_succ] at hs
        rcases I.before j s hs x hx with h | h
        · unfold updB at h
          split at h
          · rename_i q
            right
            have hxr := (g.ok s).rng x hx
            rw [List.take_succ_cons]
            exact List.mem_cons.2 (.inl (by omega))
          · exact .inl h
        · exact .inr (by rw [List.take_succ_cons]; exact List.mem_cons_of_mem _ h)
    · by_cases q : i = r
      · subst q; exact List.mem_cons_self
      · exact List.mem_cons_of_mem _ (I.all i hi (by unfold updB; rw [if_neg q]; exact hci))
theorem order_ok (g : OkG a) (A : Ac a) : OrdOk a (fun _ => false) (order a) ∧ (order a).length = a.length := ordL_ok g A _ _ (cF_all _)
end Go.Proofs.Ytpbfobgbpdbiaaa
