/- Depgraph: the program's distances. -/
import Derived.Test.YtpbfobgbpdbiaaaP2
namespace Go.Proofs.Ytpbfobgbpdbiaaa
open Go.PW Go

variable {a : List (List Int)}
def tabD (N : Nat) (d : Nat → Nat) : List Int := tab N fun i => (d i : Int)
theorem tabD_congr {N : Nat} {d e : Nat → Nat} (h : ∀ i < N, d i = e i) : tabD N d = tabD N e := tab_congr fun i hi => by rw [h i hi]
theorem gidx_tabD {N i : Nat} (d : Nat → Nat) (h : i < N) : gidx (tabD N d) (i : Int) = some (d i : Int) := gidx_tab _ h
def set1 (d : Nat → Nat) (i v : Nat) : Nat → Nat := fun y => if y = i then v else d y
theorem gset_tabD {N : Nat} (d : Nat → Nat) (i v : Nat) : gset (tabD N d) (i : Int) (v : Int) = tabD N (set1 d i v) := by
  unfold tabD; rw [gset_tab]; exact tab_congr fun y _ => by unfold set1; split <;> rfl
@[simp] theorem tabD_len (N : Nat) (d : Nat → Nat) : (tabD N d).length = N := tab_length _ _

def mu (d : Nat → Nat) : Nat → Nat
  | 0 => 0
  | k + 1 => mu d k + d k
theorem mu_le {d e : Nat → Nat} : ∀ {N : Nat}, (∀ i < N, d i ≤ e i) → mu d N ≤ mu e N
  | 0, _ => Nat.le_refl _
  | N + 1, h => by have := mu_le (N := N) fun i hi => h i (by omega); have := h N (by omega); simp only [mu]; omega
theorem mu_lt {d e : Nat → Nat} : ∀ {N : Nat}, (∀ i < N, d i ≤ e i) → (∃ i, i < N ∧ d i < e i) → mu d N < mu e N
  | 0, _, ⟨i, h, _⟩ => by omega
  | N + 1, h, ⟨i, hi, hd⟩ => by
    have h1 := mu_le (N := N) fun i hi => h i (by omega)
    have h2 := h N (by omega)
    simp only [mu]
    by_cases q : i = N
    · subst q; omega
    · have := mu_lt (N := N) (fun i hi => h i (by omega)) ⟨i, by omega, hd⟩
      omega
theorem mu_const (c : Nat) : ∀ N, mu (fun _ => c) N = c * N
  | 0 => rfl
  | N + 1 => by simp only [mu]; rw [mu_const c N, Nat.mul_succ]

structure Inv (a : List (List Int)) (t : Nat) (d : Nat → Nat) : Prop where
  lo : ∀ i < a.length, 1 ≤ d i
  hi : ∀ i < a.length, d i ≤ 1000
  wlk : ∀ i < a.length, d i < 1000 → Wlk a i t (d i)
def Stp (N : Nat) (d : Nat → Nat) (b : Bool) (d' : Nat → Nat) (b' : Bool) : Prop := (b' = b ∧ ∀ y < N, d' y = d y) ∨ (b' = true ∧ mu d' N < mu d N)
theorem mu_eq {d e : Nat → Nat} {N : Nat} (h : ∀ i < N, d i = e i) : mu d N = mu e N :=
  Nat.le_antisymm (mu_le fun i hi => Nat.le_of_eq (h i hi)) (mu_le fun i hi => Nat.le_of_eq (h i hi).symm)
theorem Stp.trans {N : Nat} {d d1 d2 : Nat → Nat} {b b1 b2 : Bool} (h : Stp N d b d1 b1) (k : Stp N d1 b1 d2 b2) : Stp N d b d2 b2 := by
  rcases h with ⟨h1, h2⟩ | ⟨h1, h2⟩ <;> rcases k with ⟨k1, k2⟩ | ⟨k1, k2⟩
  · exact .inl ⟨k1.trans h1, fun y hy => (k2 y hy).trans (h2 y hy)⟩
  · exact .inr ⟨k1, by rw [← mu_eq h2]; exact k2⟩
  · exact .inr ⟨k1.trans h1, by rw [mu_eq k2]; exact h2⟩
  · exact .inr ⟨k1, Nat.lt_trans k2 h2⟩
theorem Stp.same {N : Nat} {d d' : Nat → Nat} {b b' : Bool} (h : Stp N d b d' b') (hb : b' = false) : b = false ∧ ∀ y < N, d' y = d y := by
  rcases h with ⟨h1, h2⟩ | ⟨h1, _⟩
  · exact ⟨by rw [← h1]; exact hb, h2⟩
  · rw [hb] at h1; cases h1

theorem dist_l3 (g : OkG a) {n t i : Nat} (hi : i < a.length) (lp2 : (List Int) → Bool → Int → Option (List Int)) : ∀ (m j : Nat) (d : Nat → Nat) (b : Bool), j ≤ (dep a i).length → (dep a i).length - j < m → Inv a t d →
    ∃ d' b', depgraph_distances_l3 n (t : Int) (i : Int) lp2 (dep a i) m (tabD a.length d) b (j : Int) = lp2 (tabD a.length d') b' ((i + 1 : Nat) : Int) ∧ Inv a t d' ∧ Stp a.length d b d' b' ∧
      (b' = false → ∀ x ∈ (dep a i).drop j, d' i ≤ if x = (t : Int) then 1 else d' x.toNat + 1) := by
  have hN := g.len
  have hdl := (g.ok i).len
  intro m
  induction m with
  | zero => intro j d b _ h; omega
  | succ m ih =>
    intro j d b hj hm I
    rw [depgraph_distances_l3]
    by_cases h : j < (dep a i).length
    · simp only [decide_eq_true_eq]
      rw [if_pos (by omega), gidx_nat, getElem?_lt h, bsome]
      have hx := (g.ok i).rng _ (List.getElem_mem h)
      obtain ⟨x, ex⟩ := natOf hx.1
      have hE : E a i x := by unfold E; rw [← ex]; exact List.getElem_mem h
      have hxN : x < a.length := E.lt g hE
      rw [List.drop_eq_getElem_cons h, ex]
      rw [gidx_tabD d hxN, bsome]
      have h1 := I.hi x hxN
      have h2 := I.hi i hi
      rw [gaddI (by omega), bsome]
      -- the value
      have key : ∀ (v : Nat), v ≤ 1001 → (v = if x = t then 1 else d x + 1) → ∃ d' b', depgraph_distances_j3 n (i : Int) (tabD a.length d) b (j : Int) (depgraph_distances_l3 n (t : Int) (i : Int) lp2 (dep a i) m) (v : Int) = lp2 (tabD a.length d') b' ((i + 1 : Nat) : Int) ∧ Inv a t d' ∧ Stp a.length d b d' b' ∧
          (b' = false → ∀ y ∈ (x : Int) :: (dep a i).drop (j + 1), d' i ≤ if y = (t : Int) then 1 else d' y.toNat + 1) := by
        intro v hv hve
        unfold depgraph_distances_j3 depgraph_distances_j2
        rw [gidx_tabD d hi, bsome]
        simp only [decide_eq_true_eq]
        by_cases q : v < d i
        · rw [if_pos (by omega), gadd_nat (by omega), bsome, gset_tabD]
          have I' : Inv a t (set1 d i v) := by
            have wv : Wlk a i t v := by
              by_cases e : x = t
              · rw [if_pos e] at hve; subst hve e; exact .one hE
              · rw [if_neg e] at hve; subst hve; exact .cons hE (I.wlk x hxN (by omega))
            refine ⟨fun y hy => ?_, fun y hy => ?_, fun y hy => ?_⟩ <;> unfold set1 <;> split
            · exact wv.pos
            · exact I.lo y hy
            · omega
            · exact I.hi y hy
            · rename_i e; subst e; intro _; exact wv
            · exact I.wlk y hy
          obtain ⟨d', b', e1, e2, e3, e4⟩ := ih (j + 1) (set1 d i v) true (by omega) (by omega) I'
          have st : Stp a.length d b (set1 d i v) true := .inr ⟨rfl, mu_lt (fun y _ => by unfold set1; split; rename_i e; subst e; omega; exact Nat.le_refl _) ⟨i, hi, by unfold set1; rw [if_pos rfl]; exact q⟩⟩
          refine ⟨d', b', e1, e2, st.trans e3, fun hb => ?_⟩
          have := (e3.same hb).1
          cases this
        · rw [if_neg (by omega), gadd_nat (by omega), bsome]
          obtain ⟨d', b', e1, e2, e3, e4⟩ := ih (j + 1) d b (by omega) (by omega) I
          refine ⟨d', b', e1, e2, e3, fun hb y hy => ?_⟩
          rcases List.mem_cons.1 hy with rfl | hy
          · have same := (e3.same hb).2
            rw [same i hi, Int.toNat_natCast, same x hxN]
            by_cases e : x = t
            · rw [if_pos e] at hve; rw [if_pos (by omega)]; omega
            · rw [if_neg e] at hve; rw [if_neg (by omega)]; omega
          · exact e4 hb y hy
      by_cases e : x = t
      · rw [if_pos (by omega)]
        exact key 1 (by omega) (by rw [if_pos e])
      · rw [if_neg (by omega)]
        exact key (d x + 1) (by omega) (by rw [if_neg e])
    · simp only [decide_eq_true_eq]
      rw [if_neg (by omega), gadd_nat (by omega), bsome]
      exact ⟨d, b, rfl, I, .inl ⟨rfl, fun _ _ => rfl⟩, fun _ x hx => by rw [List.drop_eq_nil_of_le (by omega)] at hx; simp at hx⟩

def Fixd (a : List (List Int)) (t : Nat) (d : Nat → Nat) (i : Nat) : Prop := ∀ x ∈ dep a i, d i ≤ if x = (t : Int) then 1 else d x.toNat + 1
theorem dist_l2 (g : OkG a) {n t : Nat} (hn : 30000 < n) (lp1 : (List Int) → Bool → Option (List Int)) : ∀ (m i : Nat) (d : Nat → Nat) (b : Bool), i ≤ a.length → a.length - i < m → Inv a t d →
    ∃ d' b', depgraph_distances_l2 n a (t : Int) lp1 m (tabD a.length d) b (i : Int) = lp1 (tabD a.length d') b' ∧ Inv a t d' ∧ Stp a.length d b d' b' ∧
      (b' = false → ∀ k, i ≤ k → k < a.length → Fixd a t d' k) := by
  intro m
  induction m with
  | zero => intro i d b _ h; omega
  | succ m ih =>
    intro i d b hi hm I
    rw [depgraph_distances_l2]
    by_cases h : i < a.length
    · simp only [decide_eq_true_eq]
      rw [if_pos (by omega), gidx_dep h, bsome]
      have := (g.ok i).len
      have := g.len
      obtain ⟨d1, b1, e1, e2, e3, e4⟩ := dist_l3 g (n := n) h (depgraph_distances_l2 n a (t : Int) lp1 m) n 0 d b (by omega) (by omega) I
      obtain ⟨d2, b2, f1, f2, f3, f4⟩ := ih (i + 1) d1 b1 (by omega) (by omega) e2
      refine ⟨d2, b2, (show _ = _ from e1).trans f1, f2, e3.trans f3, fun hb k hk hkN => ?_⟩
      by_cases q : k = i
      · subst q
        obtain ⟨hb1, same⟩ := f3.same hb
        intro x hx
        have hxr := (g.ok k).rng x hx
        have := e4 hb1 x (by simpa using hx)
        rw [same k hkN, same x.toNat (by omega)]
        exact this
      · exact f4 hb k (by omega) hkN
    · simp only [decide_eq_true_eq]
      rw [if_neg (by omega)]
      exact ⟨d, b, rfl, I, .inl ⟨rfl, fun _ _ => rfl⟩, fun _ k _ _ => by omega⟩
theorem dist_l1 (g : OkG a) {n t : Nat} (hn : 30000 < n) : ∀ (m : Nat) (d : Nat → Nat) (b : Bool), Inv a t d → (b = true ∧ mu d a.length + 1 < m ∨ b = false ∧ (∀ k < a.length, Fixd a t d k) ∧ 0 < m) →
    ∃ d', depgraph_distances_l1 n a (t : Int) m (tabD a.length d) b = some (tabD a.length d') ∧ Good a t d' := by
  have := g.len
  intro m
  induction m with
  | zero => intro d b _ h; rcases h with h | h <;> omega
  | succ m ih =>
    intro d b I h
    rw [depgraph_distances_l1]
    rcases h with ⟨rfl, h⟩ | ⟨rfl, h, _⟩
    · rw [if_pos rfl]
      obtain ⟨d1, b1, e1, e2, e3, e4⟩ := dist_l2 g hn (depgraph_distances_l1 n a (t : Int) m) n 0 d false (by omega) (by omega) I
      rw [show depgraph_distances_l2 n a (t : Int) (depgraph_distances_l1 n a (t : Int) m) n (tabD a.length d) false 0 = _ from e1]
      apply ih d1 b1 e2
      cases b1 with
      | true =>
        left
        rcases e3 with ⟨h1, _⟩ | ⟨_, h2⟩
        · cases h1
        · exact ⟨rfl, by omega⟩
      | false => right; exact ⟨rfl, fun k hk => e4 rfl k (by omega) hk, by omega⟩
    · rw [if_neg (by decide)]
      refine ⟨d, rfl, ⟨I.lo, I.hi, I.wlk, fun i x hE => ?_⟩⟩
      have := h i hE.lt1 _ hE
      rw [Int.toNat_natCast] at this
      by_cases e : x = t
      · rw [if_pos (by omega)] at this; rw [if_pos e]; exact this
      · rw [if_neg (by omega)] at this; rw [if_neg e]; exact this

/-! ### slices.Repeat -/
theorem mul_small (n : Nat) {k : Nat} (hk : k < 25) : math_bits_Mul n (IntKind.wrap .u64 1) (IntKind.wrap .u64 (k : Int)) = some (0, (k : Int)) := by
  unfold math_bits_Mul math_bits_Mul64
  rw [bsome]
  revert k
  decide +kernel
theorem copy_rep {α : Type} (x y : α) {N k : Nat} (hk : k ≤ N) : gcopy (List.replicate k x ++ List.replicate (N - k) y) k N (List.replicate k x) = List.replicate (k + min k (N - k)) x ++ List.replicate (N - (k + min k (N - k))) y := by
  unfold gcopy
  rw [List.length_replicate, List.take_append, List.drop_append]
  simp only [List.take_replicate, List.drop_replicate, List.length_replicate]
  rw [show min k k = k by omega, show k - k = 0 by omega, show min 0 (N - k) = 0 by omega, show k - (k + min k (N - k)) = 0 by omega, show min (N - k) k = min k (N - k) by omega,
    show N - k - (k + min k (N - k) - k) = N - (k + min k (N - k)) by omega]
  simp
theorem dist_l4 {n : Nat} (a1 : Int) : ∀ (m k : Nat), k ≤ a.length → (0 < k ∨ a.length = 0) → a.length ≤ 24 → a.length - k < m →
    depgraph_distances_l4 n a a1 m (List.replicate k 1000 ++ List.replicate (a.length - k) 0) (k : Int) = depgraph_distances_j5 n a a1 (List.replicate a.length 1000) := by
  intro m
  induction m with
  | zero => intro k _ _ _ h; omega
  | succ m ih =>
    intro k hk h0 hN hm
    rw [depgraph_distances_l4]
    have hl : (List.replicate k (1000 : Int) ++ List.replicate (a.length - k) 0).length = a.length := by simp; omega
    by_cases h : k < a.length
    · simp only [decide_eq_true_eq, hl]
      rw [if_pos (by omega)]
      have := gcut_drop (l := List.replicate k (1000 : Int) ++ List.replicate (a.length - k) 0) (i := k) (by omega)
      rw [hl] at this
      rw [this, bsome, gcut_take (by omega), bsome]
      have ht : (List.replicate k (1000 : Int) ++ List.replicate (a.length - k) 0).take k = List.replicate k 1000 := by simp
      rw [ht, List.length_replicate, Int.toNat_natCast, Int.toNat_natCast, copy_rep _ _ hk]
      rw [gaddI (by omega), bsome, show ((k : Int) + ((min k (a.length - k) : Nat) : Int)) = ((k + min k (a.length - k) : Nat) : Int) by omega]
      exact ih _ (by omega) (by omega) hN (by omega)
    · simp only [decide_eq_true_eq, hl]
      rw [if_neg (by omega)]
      have : k = a.length := by omega
      subst this
      simp
theorem distances_eq (g : OkG a) {n t : Nat} (hn : 30000 < n) : depgraph_distances n a (t : Int) = some (tabD a.length (dst a t)) ∧ Good a t (dst a t) := by
  have hN := g.len
  have I0 : Inv a t (fun _ => 1000) := ⟨fun _ _ => by omega, fun _ _ => by omega, fun _ _ h => by omega⟩
  obtain ⟨d, e1, G⟩ := dist_l1 g hn n (fun _ => 1000) true I0 (.inl ⟨rfl, by rw [mu_const]; omega⟩)
  have hd : ∀ i < a.length, d i = dst a t i := fun i hi => G.eq g hi
  refine ⟨?_, ?_⟩
  · unfold depgraph_distances
    rw [if_neg (by simp)]
    rw [show (([1000] : List Int).length : Int) = 1 from rfl, mul_small n (by omega), bsome]
    rw [if_neg (by simp)]
    unfold depgraph_distances_j4
    rw [if_neg (by simp; omega), wrap_i64 (by omega), gmake_nat _ (by omega), bsome]
    have key : gcopy (List.replicate a.length (0 : Int)) 0 a.length [1000] = List.replicate (min 1 a.length) 1000 ++ List.replicate (a.length - min 1 a.length) 0 := by
      unfold gcopy
      cases h : a.length with
      | zero => rfl
      | succ k => simp [show min 1 (k + 1) = 1 by omega]
    rw [List.length_replicate, key]
    have := dist_l4 (a := a) (n := n) (t : Int) n (min 1 a.length) (by omega) (by omega) hN (by omega)
    rw [show ((min ([1000] : List Int).length (a.length - 0) : Nat) : Int) = ((min 1 a.length : Nat) : Int) from rfl, this]
    unfold depgraph_distances_j5 depgraph_distances_j1
    rw [show List.replicate a.length (1000 : Int) = tabD a.length (fun _ => 1000) from tab_const _ _, e1, tabD_congr hd]
  · exact ⟨fun i hi => by rw [← hd i hi]; exact G.lo i hi, fun i hi => by rw [← hd i hi]; exact G.hi i hi, fun i hi => by rw [← hd i hi]; exact G.wlk i hi,
      fun i x hE => by rw [← hd i hE.lt1, ← hd x (E.lt g hE)]; exact G.fix i x hE⟩
end Go.Proofs.Ytpbfobgbpdbiaaa
