/- Depgraph: levels. -/
import Derived.Test.YtpbfobgbpdbiaaaP6
namespace Go.Proofs.Ytpbfobgbpdbiaaa
open Go.PW Go

variable {a : List (List Int)}
def mxF (v : Nat → Nat) (acc : Nat) (x : Int) : Nat := max acc (v x.toNat + 1)
/-- one more than the highest of those that i needs -/
def mx (a : List (List Int)) (v : Nat → Nat) (i : Nat) : Nat := (dep a i).foldl (mxF v) 0
theorem foldl_mx (v : Nat → Nat) : ∀ (l : List Int) (acc : Nat), acc ≤ l.foldl (mxF v) acc ∧ (∀ x ∈ l, v x.toNat + 1 ≤ l.foldl (mxF v) acc) ∧ (l.foldl (mxF v) acc = acc ∨ ∃ x ∈ l, l.foldl (mxF v) acc = v x.toNat + 1)
  | [], acc => ⟨Nat.le_refl _, by simp, .inl rfl⟩
  | x :: r, acc => by
    rw [List.foldl_cons]
    obtain ⟨h1, h2, h3⟩ := foldl_mx v r (mxF v acc x)
    have e : mxF v acc x = max acc (v x.toNat + 1) := rfl
    refine ⟨by omega, fun y hy => ?_, ?_⟩
    · rcases List.mem_cons.1 hy with rfl | hy
      · omega
      · exact h2 y hy
    · rcases h3 with h3 | ⟨y, hy, h3⟩
      · by_cases q : v x.toNat + 1 ≤ acc
        · left; omega
        · right; exact ⟨x, List.mem_cons_self, by omega⟩
      · right; exact ⟨y, List.mem_cons_of_mem _ hy, h3⟩
theorem foldl_mx_congr {v w : Nat → Nat} : ∀ (l : List Int) (acc : Nat), (∀ x ∈ l, v x.toNat = w x.toNat) → l.foldl (mxF v) acc = l.foldl (mxF w) acc
  | [], _, _ => rfl
  | x :: r, acc, h => by
    rw [List.foldl_cons, List.foldl_cons, show mxF v acc x = mxF w acc x by unfold mxF; rw [h x List.mem_cons_self]]
    exact foldl_mx_congr r _ fun y hy => h y (List.mem_cons_of_mem _ hy)
theorem mx_le (g : OkG a) (A : Ac a) {v : Nat → Nat} (h : ∀ i < a.length, v i ≤ rk a i) (i : Nat) : mx a v i ≤ rk a i := by
  unfold mx
  rcases (foldl_mx v (dep a i) 0).2.2 with e | ⟨x, hx, e⟩
  · omega
  · obtain ⟨y, rfl⟩ := natOf ((g.ok i).rng x hx).1
    have hE : E a i y := hx
    have := rk_lt g A hE
    have := h y (E.lt g hE)
    rw [Int.toNat_natCast] at e
    omega
theorem not_self (g : OkG a) (A : Ac a) {i : Nat} (h : E a i i) : False := by have := rk_lt g A h; omega

theorem Lev_l2 (g : OkG a) (A : Ac a) {n r x4 : Nat} (hr : r < a.length) (h4 : x4 < 100) (v : Nat → Nat) (hv : ∀ i < a.length, v i ≤ rk a i) (lp1 : (List Int) → Int → Option ((List Int) × SCodeIndex)) : ∀ (m j acc : Nat), j ≤ (dep a r).length → (dep a r).length - j < m → acc ≤ rk a r →
    depgraph_Levels_l2 n (x4 : Int) lp1 (r : Int) (dep a r) m (tabD a.length (set1 v r acc)) (j : Int) = lp1 (tabD a.length (set1 v r (((dep a r).drop j).foldl (mxF v) acc))) ((x4 + 1 : Nat) : Int) := by
  have hN := g.len
  have hdl := (g.ok r).len
  have hrk := rk_le a r
  intro m
  induction m with
  | zero => intro j acc _ h; omega
  | succ m ih =>
    intro j acc hj hm hacc
    rw [depgraph_Levels_l2]
    by_cases h : j < (dep a r).length
    · simp only [decide_eq_true_eq]
      have hrg := (g.ok r).rng _ (List.getElem_mem h)
      obtain ⟨x, hx⟩ := natOf hrg.1
      have hE : E a r x := by unfold E; rw [← hx]; exact List.getElem_mem h
      have hxN := E.lt g hE
      have hne : x ≠ r := fun e => not_self g A (e ▸ hE)
      have hvx := hv x hxN
      have hlt := rk_lt g A hE
      rw [if_pos (by omega), gidx_nat, getElem?_lt h, bsome, hx, gidx_tabD _ hr, bsome, gidx_tabD _ hxN, bsome]
      rw [show set1 v r acc x = v x by unfold set1; rw [if_neg hne], show set1 v r acc r = acc by unfold set1; rw [if_pos rfl]]
      rw [gaddI (by omega), bsome, gadd_nat (by omega), bsome, show max (acc : Int) ((v x : Int) + 1) = ((max acc (v x + 1) : Nat) : Int) by omega, gset_tabD]
      have := ih (j + 1) (max acc (v x + 1)) (by omega) (by omega) (by omega)
      rw [List.drop_eq_getElem_cons h, List.foldl_cons, hx, show mxF v acc (x : Int) = max acc (v x + 1) from rfl, ← this]
      congr 1
      exact tabD_congr fun y _ => by unfold set1; split <;> rfl
    · simp only [decide_eq_true_eq]
      rw [if_neg (by omega), List.drop_eq_nil_of_le (by omega), gadd_nat (by omega), bsome]
      rfl
/-- the levels of the first nodes of an order -/
structure LvP (a : List (List Int)) (P : List Int) (v : Nat → Nat) : Prop where
  le : ∀ i < a.length, v i ≤ rk a i
  fix : ∀ i : Nat, i < a.length → (i : Int) ∈ P → v i = mx a v i
  zero : ∀ i : Nat, i < a.length → ¬ (i : Int) ∈ P → v i = 0
theorem Lev_l1 (g : OkG a) (A : Ac a) {n : Nat} (hn : 30000 < n) (f : SCodeIndex) : ∀ (m j : Nat) (v : Nat → Nat), j ≤ (order a).length → (order a).length - j < m → LvP a ((order a).take j) v →
    ∃ v', depgraph_Levels_l1 n a (order a, f) m (tabD a.length v) (j : Int) = some (tabD a.length v', ⟨0, 0⟩) ∧ LvP a (order a) v' := by
  have hN := g.len
  obtain ⟨O, hl⟩ := order_ok g A
  intro m
  induction m with
  | zero => intro j v _ h; omega
  | succ m ih =>
    intro j v hj hm I
    rw [depgraph_Levels_l1]
    by_cases h : j < (order a).length
    · simp only [decide_eq_true_eq]
      obtain ⟨r, hr, hrN, _⟩ := O.nat _ (List.getElem_mem h)
      rw [if_pos (by omega), gidx_nat, getElem?_lt h, bsome, hr, gidx_dep hrN, bsome]
      have hget : (order a)[j]? = some (r : Int) := by rw [getElem?_lt h, hr]
      have hnot : ¬ (r : Int) ∈ (order a).take j := by
        intro hm
        obtain ⟨k, hk⟩ := List.getElem?_of_mem hm
        have hkl := (List.getElem?_eq_some_iff.1 hk).1
        rw [List.length_take] at hkl
        rw [List.getElem?_take, if_pos (by omega)] at hk
        have a1 := posI_at (i := 0) O.nd hk
        have a2 := posI_at (i := 0) O.nd hget
        rw [a1] at a2; omega
      have hdeps : ∀ x ∈ dep a r, x ∈ (order a).take j := fun x hx => by
        rcases O.before j r hget x hx with h | h
        · cases h
        · exact h
      have z := I.zero r hrN hnot
      have e := Lev_l2 g A (n := n) (x4 := j) hrN (by omega) v I.le (depgraph_Levels_l1 n a (order a, f) m) n 0 0 (by omega) (by have := (g.ok r).len; omega) (by omega)
      have e0 : tabD a.length (set1 v r 0) = tabD a.length v := tabD_congr fun y _ => by unfold set1; split; rename_i q; subst q; exact z.symm; rfl
      rw [e0, List.drop_zero] at e
      rw [show depgraph_Levels_l2 n (j : Int) (depgraph_Levels_l1 n a (order a, f) m) (r : Int) (dep a r) n (tabD a.length v) 0 = _ from e]
      refine ih (j + 1) _ (by omega) (by omega) ?_
      have same : ∀ i : Nat, (i = r ∨ (i : Int) ∈ (order a).take j) → i < a.length → mx a (set1 v r ((dep a r).foldl (mxF v) 0)) i = mx a v i := by
        intro i hi hiN
        refine foldl_mx_congr _ _ fun x hx => ?_
        unfold set1
        rw [if_neg ?_]
        intro q
        have hxr := (g.ok i).rng x hx
        have hx' : x = (r : Int) := by omega
        subst hx'
        rcases hi with rfl | hi
        · exact not_self g A hx
        · obtain ⟨k, hk⟩ := List.getElem?_of_mem hi
          have hkl := (List.getElem?_eq_some_iff.1 hk).1
          rw [List.length_take] at hkl
          rw [List.getElem?_take, if_pos (by omega)] at hk
          rcases O.before k i hk _ hx with h | h
          · cases h
          · exact hnot (List.take_subset_take_left _ (by omega : k ≤ j) h)
      rw [List.take_succ_eq_append_getElem h, hr]
      refine ⟨fun i hi => ?_, fun i hi hm => ?_, fun i hi hm => ?_⟩
      · unfold set1
        split
        · rename_i q; subst q; exact mx_le g A I.le i
        · exact I.le i hi
      · rcases List.mem_append.1 hm with hm1 | hm1
        · rw [same i (.inr hm1) hi, ← I.fix i hi hm1]
          unfold set1
          rw [if_neg (by intro q; rw [q] at hm1; exact hnot hm1)]
        · have q : i = r := by simp at hm1; omega
          rw [same i (.inl q) hi]
          subst q
          unfold set1
          rw [if_pos rfl]; rfl
      · unfold set1
        rw [if_neg (by rintro rfl; exact hm (by simp))]
        exact I.zero i hi fun q => hm (List.mem_append.2 (.inl q))
    · simp only [decide_eq_true_eq]
      rw [if_neg (by omega)]
      rw [List.take_of_length_le (by omega)] at I
      exact ⟨v, rfl, I⟩
/-- a level for each node -/
structure Lv (a : List (List Int)) (v : Nat → Nat) : Prop where
  le : ∀ i < a.length, v i ≤ rk a i
  fix : ∀ i : Nat, i < a.length → v i = mx a v i
theorem Levels_eq {n : Nat} (hn : 30000 < n) (a : List (List Int)) : ∃ v, depgraph_Levels n a = some (if (of a).Code = 0 then tabD a.length v else [], of a) ∧ ((of a).Code = 0 → Lv a v) := by
  unfold depgraph_Levels
  rw [Order_eq hn, bsome]
  simp only [fault_zero]
  by_cases h : (of a).Code = 0
  · obtain ⟨h0, g, A, _⟩ := of_code h
    have hN := g.len
    obtain ⟨O, hl⟩ := order_ok g A
    obtain ⟨v, e, I⟩ := Lev_l1 g A hn ⟨0, 0⟩ n 0 (fun _ => 0) (by omega) (by omega) ⟨fun _ _ => by omega, fun i hi hm => by simp at hm, fun _ _ _ => rfl⟩
    refine ⟨v, ?_, fun _ => ⟨I.le, fun i hi => I.fix i hi (O.all i hi rfl)⟩⟩
    rw [if_neg (by simp [h0]), if_pos h, if_pos h, gmake_nat _ (by omega), bsome, h0, tab_const]
    exact e
  · have : ¬ of a = ⟨0, 0⟩ := fun e => h (by rw [e])
    refine ⟨fun _ => 0, ?_, fun q => absurd q h⟩
    rw [if_pos (by simp [this]), if_neg h]

/-! ### the reference's levels -/
theorem rLev_l3 (g : OkG a) {n i : Nat} (hi : i < a.length) {L : Nat → Nat} (V : Lv a L) (lp2 : (List Int) → Int → Option (List Int)) : ∀ (m j : Nat) (v : Nat → Nat), j ≤ (dep a i).length → (dep a i).length - j < m → (∀ y < a.length, v y ≤ L y) →
    ∃ v', ref6_Levels_l3 n a (i : Int) lp2 m (tabD a.length v) (j : Int) = lp2 (tabD a.length v') ((i + 1 : Nat) : Int) ∧ (∀ y < a.length, v y ≤ v' y ∧ v' y ≤ L y) ∧ ∀ x ∈ (dep a i).drop j, v x.toNat + 1 ≤ v' i := by
  have hN := g.len
  have hdl := (g.ok i).len
  intro m
  induction m with
  | zero => intro j v _ h; omega
  | succ m ih =>
    intro j v hj hm hv
    rw [ref6_Levels_l3, gidx_dep hi, bsome]
    by_cases h : j < (dep a i).length
    · simp only [decide_eq_true_eq]
      have hrg := (g.ok i).rng _ (List.getElem_mem h)
      obtain ⟨x, hx⟩ := natOf hrg.1
      have hE : (x : Int) ∈ dep a i := by rw [← hx]; exact List.getElem_mem h
      have hxN := E.lt g hE
      have h1 := hv x hxN
      have h2 := V.le x hxN
      have h3 := rk_le a x
      have h4 := (foldl_mx L (dep a i) 0).2.1 _ hE
      rw [Int.toNat_natCast] at h4
      have h5 : L i = (dep a i).foldl (mxF L) 0 := V.fix i hi
      unfold ref6_Levels_j1
      rw [if_pos (by omega), gidx_tabD _ hi, bsome, gidx_nat, getElem?_lt h, bsome, hx, gidx_tabD _ hxN, bsome, gaddI (by omega), bsome, bsome, gadd_nat (by omega)]
      simp only [bsome]
      rw [List.drop_eq_getElem_cons h, hx]
      by_cases q : v i < v x + 1
      · rw [if_pos (by omega), show ((v x : Int) + 1) = ((v x + 1 : Nat) : Int) by omega, gset_tabD]
        have hs : ∀ y < a.length, v y ≤ set1 v i (v x + 1) y ∧ set1 v i (v x + 1) y ≤ L y := by
          intro y hy
          unfold set1
          split
          · rename_i e; subst e; omega
          · exact ⟨Nat.le_refl _, hv y hy⟩
        obtain ⟨v', e1, e2, e3⟩ := ih (j + 1) (set1 v i (v x + 1)) (by omega) (by omega) fun y hy => (hs y hy).2
        refine ⟨v', e1, fun y hy => ⟨Nat.le_trans (hs y hy).1 (e2 y hy).1, (e2 y hy).2⟩, fun z hz => ?_⟩
        rcases List.mem_cons.1 hz with rfl | hz
        · have := (e2 i hi).1
          unfold set1 at this
          rw [if_pos rfl] at this
          rw [Int.toNat_natCast]; exact this
        · have hzr := (g.ok i).rng z (List.mem_of_mem_drop hz)
          have := e3 z hz
          have := (hs z.toNat (by omega)).1
          omega
      · rw [if_neg (by omega)]
        obtain ⟨v', e1, e2, e3⟩ := ih (j + 1) v (by omega) (by omega) hv
        refine ⟨v', e1, e2, fun z hz => ?_⟩
        rcases List.mem_cons.1 hz with rfl | hz
        · have := (e2 i hi).1
          rw [Int.toNat_natCast]; omega
        · exact e3 z hz
    · simp only [decide_eq_true_eq]
      rw [if_neg (by omega), gadd_nat (by omega), bsome]
      exact ⟨v, rfl, fun y hy => ⟨Nat.le_refl _, hv y hy⟩, fun x hx => by rw [List.drop_eq_nil_of_le (by omega)] at hx; simp at hx⟩
theorem rLev_l2 (g : OkG a) {n x3 : Nat} (hn : 30000 < n) (h3 : x3 < 100) {L : Nat → Nat} (V : Lv a L) (lp1 : (List Int) → Int → Option (List Int)) : ∀ (m i : Nat) (v : Nat → Nat), i ≤ a.length → a.length - i < m → (∀ y < a.length, v y ≤ L y) →
    ∃ v', ref6_Levels_l2 n a (x3 : Int) lp1 m (tabD a.length v) (i : Int) = lp1 (tabD a.length v') ((x3 + 1 : Nat) : Int) ∧ (∀ y < a.length, v y ≤ v' y ∧ v' y ≤ L y) ∧ ∀ k, i ≤ k → k < a.length → ∀ x ∈ dep a k, v x.toNat + 1 ≤ v' k := by
  have hN := g.len
  intro m
  induction m with
  | zero => intro i v _ h; omega
  | succ m ih =>
    intro i v hi hm hv
    rw [ref6_Levels_l2]
    by_cases h : i < a.length
    · simp only [decide_eq_true_eq]
      rw [if_pos (by omega)]
      have hdl := (g.ok i).len
      obtain ⟨v1, e1, e2, e3⟩ := rLev_l3 g (n := n) h V (ref6_Levels_l2 n a (x3 : Int) lp1 m) n 0 v (by omega) (by omega) hv
      obtain ⟨v2, f1, f2, f3⟩ := ih (i + 1) v1 (by omega) (by omega) fun y hy => (e2 y hy).2
      refine ⟨v2, (show _ = _ from e1).trans f1, fun y hy => ⟨Nat.le_trans (e2 y hy).1 (f2 y hy).1, (f2 y hy).2⟩, fun k hk hkN x hx => ?_⟩
      by_cases q : k = i
      · subst q
        have := e3 x (by simpa using hx)
        have := (f2 k hkN).1
        omega
      · have := f3 k (by omega) hkN x hx
        have hxr := (g.ok k).rng x hx
        have := (e2 x.toNat (by omega)).1
        omega
    · simp only [decide_eq_true_eq]
      rw [if_neg (by omega), gadd_nat (by omega), bsome]
      exact ⟨v, rfl, fun y hy => ⟨Nat.le_refl _, hv y hy⟩, fun k _ _ => by omega⟩
theorem rLev_l1 (g : OkG a) {n : Nat} (hn : 30000 < n) {L : Nat → Nat} (V : Lv a L) : ∀ (m r : Nat) (v : Nat → Nat), r ≤ a.length → a.length - r < m → (∀ y < a.length, v y ≤ L y) → (∀ y < a.length, L y ≤ r → v y = L y) →
    ref6_Levels_l1 n a m (tabD a.length v) (r : Int) = some (tabD a.length L) := by
  have hN := g.len
  intro m
  induction m with
  | zero => intro r v _ h; omega
  | succ m ih =>
    intro r v hr hm hv he
    rw [ref6_Levels_l1]
    by_cases h : r < a.length
    · simp only [decide_eq_true_eq]
      rw [if_pos (by omega)]
      obtain ⟨v1, e1, e2, e3⟩ := rLev_l2 g hn (x3 := r) (by omega) V (ref6_Levels_l1 n a m) n 0 v (by omega) (by omega) hv
      refine (show _ = _ from e1).trans ?_
      refine ih (r + 1) v1 (by omega) (by omega) (fun y hy => (e2 y hy).2) fun y hy hL => ?_
      have a1 := e2 y hy
      by_cases q : L y ≤ r
      · have := he y hy q; omega
      · have h5 : L y = (dep a y).foldl (mxF L) 0 := V.fix y hy
        rcases (foldl_mx L (dep a y) 0).2.2 with e | ⟨x, hx, e⟩
        · omega
        · have hxr := (g.ok y).rng x hx
          have b1 := e3 y (by omega) hy x hx
          have b2 := he x.toNat (by omega) (by omega)
          omega
    · simp only [decide_eq_true_eq]
      rw [if_neg (by omega)]
      congr 1
      exact tabD_congr fun y hy => he y hy (by have := V.le y hy; have := rk_le a y; omega)
theorem rLevels_eq (g : OkG a) {n : Nat} (hn : 30000 < n) {L : Nat → Nat} (V : Lv a L) : ref6_Levels n a = some (tabD a.length L) := by
  have hN := g.len
  unfold ref6_Levels
  rw [gmake_nat _ (by omega), bsome, tab_const]
  exact rLev_l1 g hn V n 0 (fun _ => 0) (by omega) (by omega) (fun _ _ => by omega) fun y _ h => by omega
end Go.Proofs.Ytpbfobgbpdbiaaa
