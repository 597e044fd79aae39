/- Depgraph: the reference's distances; the first node on a cycle; affected nodes. -/
import Derived.Test.YtpbfobgbpdbiaaaP3
namespace Go.Proofs.Ytpbfobgbpdbiaaa
open Go.PW Go

variable {a : List (List Int)}
def tabT (N : Nat) (f : Nat → Nat → Nat) : List (List Int) := tab N fun i => tabD N (f i)
theorem gidx_tabT {N i : Nat} (f : Nat → Nat → Nat) (h : i < N) : gidx (tabT N f) (i : Int) = some (tabD N (f i)) := gidx_tab _ h
theorem gset_tabT {N : Nat} (f : Nat → Nat → Nat) (i k v : Nat) : gset (tabT N f) (i : Int) (gset (tabD N (f i)) (k : Int) (v : Int)) = tabT N (set2 f i k v) := by
  unfold tabT; rw [gset_tab, gset_tabD]
  refine tab_congr fun y _ => ?_
  split
  · rename_i e; subst e; congr 1; funext z; unfold set1 set2; by_cases q : z = k <;> simp [q]
  · rename_i e; congr 1; funext z; unfold set2; simp [e]
theorem tabT_congr {N : Nat} {f g : Nat → Nat → Nat} (h : ∀ i < N, ∀ k < N, f i k = g i k) : tabT N f = tabT N g := tab_congr fun i hi => tabD_congr fun k hk => h i hi k hk

/-! ### the first table -/
def f0 (a : List (List Int)) (i k : Nat) : Nat := if (k : Int) ∈ dep a i then 1 else 1000
theorem f0_ph (_g : OkG a) : Ph a 0 (f0 a) := by
  refine ⟨⟨fun i _ k _ => ?_, fun i _ k _ => ?_, fun i hi k hk h => ?_⟩, fun i k L v => ?_⟩ <;> unfold f0 at *
  · split <;> omega
  · split <;> omega
  · split at h
    · rename_i q; rw [if_pos q]; exact .one q
    · omega
  · obtain ⟨rfl, hE⟩ := v.zero
    rw [if_pos (show (k : Int) ∈ dep a i from hE)]; exact Nat.le_refl _
theorem Dist_l2 (g : OkG a) {n i : Nat} (hn : 30000 < n) (hi : i < a.length) (z : List (List Int)) (hz : z.length ≤ 24) (lp1 : (List (List Int)) → Int → Option (List (List Int))) : ∀ (m k : Nat), k ≤ a.length → a.length - k < m →
    ref6_Distance_l2 n a z (i : Int) lp1 m (tabD k (f0 a i)) (k : Int) = lp1 (z ++ [tabD a.length (f0 a i)]) ((i + 1 : Nat) : Int) := by
  have hN := g.len
  have hd := (g.ok i).len
  intro m
  induction m with
  | zero => intro k _ h; omega
  | succ m ih =>
    intro k hk hm
    rw [ref6_Distance_l2]
    by_cases h : k < a.length
    · simp only [decide_eq_true_eq]
      rw [if_pos (by omega), gidx_dep hi, bsome, Has_eq hn (by omega), bsome]
      have st : ∀ v : Int, v = (f0 a i k : Int) → (gapp 8 (tabD k (f0 a i)) [v]).bind (fun w9 => ref6_Distance_j1 n (k : Int) (ref6_Distance_l2 n a z (i : Int) lp1 m) w9) = lp1 (z ++ [tabD a.length (f0 a i)]) ((i + 1 : Nat) : Int) := by
        intro v hv
        rw [gapp_ok (by simp; omega), bsome]
        unfold ref6_Distance_j1
        rw [gadd_nat (by omega), bsome, hv, show tabD k (f0 a i) ++ [(f0 a i k : Int)] = tabD (k + 1) (f0 a i) from (tab_succ _ _).symm]
        exact ih (k + 1) (by omega) (by omega)
      by_cases q : (k : Int) ∈ dep a i
      · rw [if_pos (by simp [q])]; exact st 1 (by unfold f0; rw [if_pos q]; rfl)
      · rw [if_neg (by simp [q])]; exact st 1000 (by unfold f0; rw [if_neg q]; rfl)
    · have : k = a.length := by omega
      subst this
      simp only [decide_eq_true_eq]
      rw [if_neg (by omega), gapp_ok (by simp; omega), bsome, gadd_nat (by omega), bsome]
theorem Dist_l1 (g : OkG a) {n : Nat} (hn : 30000 < n) : ∀ (m i : Nat), i ≤ a.length → a.length - i < m →
    ref6_Distance_l1 n a m (tab i fun i => tabD a.length (f0 a i)) (i : Int) = ref6_Distance_l3 n a n (tabT a.length (f0 a)) 0 := by
  have hN := g.len
  intro m
  induction m with
  | zero => intro i _ h; omega
  | succ m ih =>
    intro i hi hm
    rw [ref6_Distance_l1]
    by_cases h : i < a.length
    · simp only [decide_eq_true_eq]
      rw [if_pos (by omega)]
      have := Dist_l2 g hn h (tab i fun i => tabD a.length (f0 a i)) (by simp; omega) (ref6_Distance_l1 n a m) n 0 (by omega) (by omega)
      rw [show ref6_Distance_l2 n a (tab i fun i => tabD a.length (f0 a i)) (i : Int) (ref6_Distance_l1 n a m) n [] 0 = _ from this, ← tab_succ]
      exact ih (i + 1) (by omega) (by omega)
    · have : i = a.length := by omega
      subst this
      simp only [decide_eq_true_eq]
      rw [if_neg (by omega)]; rfl

/-! ### a phase -/
def dn (i k : Nat) (x y : Nat) : Prop := x < i ∨ (x = i ∧ y < k)
theorem Dist_l5 (g : OkG a) {n p i : Nat} (hp : p < a.length) (hi : i < a.length) (fo : Nat → Nat → Nat) (lp4 : (List (List Int)) → Int → Option (List (List Int))) : ∀ (m k : Nat) (f : Nat → Nat → Nat), k ≤ a.length → a.length - k < m → Mid a p fo (dn i k) f →
    ∃ f', ref6_Distance_l5 n a (p : Int) (i : Int) lp4 m (tabT a.length f) (k : Int) = lp4 (tabT a.length f') ((i + 1 : Nat) : Int) ∧ Mid a p fo (dn (i + 1) 0) f' := by
  have hN := g.len
  intro m
  induction m with
  | zero => intro k f _ h; omega
  | succ m ih =>
    intro k f hk hm M
    rw [ref6_Distance_l5]
    by_cases h : k < a.length
    · have h1 := M.hi i hi p hp
      have h2 := M.hi p hp k h
      simp only [decide_eq_true_eq]
      rw [if_pos (by omega), gidx_tabT f hi, bsome, gidx_tabD _ hp, bsome, gidx_tabT f hp, bsome, gidx_tabD _ h, bsome, gaddI (by omega), bsome, gidx_tabD _ h]
      simp only [bsome]
      have st := M.step (done' := dn i (k + 1)) hp hi h (by intro x y _ _ hd; unfold dn at *; omega)
      unfold ref6_Distance_j2
      rw [gadd_nat (by omega), bsome, bsome]
      by_cases q : f i p + f p k < f i k
      · rw [if_pos q] at st
        rw [if_pos (by omega), show ((f i p : Int) + (f p k : Int)) = ((f i p + f p k : Nat) : Int) by omega, gset_tabT]
        exact ih (k + 1) _ (by omega) (by omega) st
      · rw [if_neg q] at st
        rw [if_neg (by omega)]
        exact ih (k + 1) _ (by omega) (by omega) st
    · have : k = a.length := by omega
      subst this
      simp only [decide_eq_true_eq]
      rw [if_neg (by omega), gadd_nat (by omega), bsome]
      exact ⟨f, rfl, M.toTab, M.le, fun x hx y hy hd => M.dn x hx y hy (by unfold dn at *; omega)⟩
theorem Dist_l4 (g : OkG a) {n p : Nat} (hn : 30000 < n) (hp : p < a.length) (fo : Nat → Nat → Nat) (lp3 : (List (List Int)) → Int → Option (List (List Int))) : ∀ (m i : Nat) (f : Nat → Nat → Nat), i ≤ a.length → a.length - i < m → Mid a p fo (dn i 0) f →
    ∃ f', ref6_Distance_l4 n a (p : Int) lp3 m (tabT a.length f) (i : Int) = lp3 (tabT a.length f') ((p + 1 : Nat) : Int) ∧ Mid a p fo (dn a.length 0) f' := by
  have hN := g.len
  intro m
  induction m with
  | zero => intro i f _ h; omega
  | succ m ih =>
    intro i f hi hm M
    rw [ref6_Distance_l4]
    by_cases h : i < a.length
    · simp only [decide_eq_true_eq]
      rw [if_pos (by omega)]
      obtain ⟨f1, e1, M1⟩ := Dist_l5 g (n := n) hp h fo (ref6_Distance_l4 n a (p : Int) lp3 m) n 0 f (by omega) (by omega) M
      obtain ⟨f2, e2, M2⟩ := ih (i + 1) f1 (by omega) (by omega) M1
      exact ⟨f2, (show _ = _ from e1).trans e2, M2⟩
    · have : i = a.length := by omega
      subst this
      simp only [decide_eq_true_eq]
      rw [if_neg (by omega), gadd_nat (by omega), bsome]
      exact ⟨f, rfl, M⟩
theorem Dist_l3 (g : OkG a) {n : Nat} (hn : 30000 < n) : ∀ (m p : Nat) (f : Nat → Nat → Nat), p ≤ a.length → a.length - p < m → Ph a p f →
    ∃ f', ref6_Distance_l3 n a m (tabT a.length f) (p : Int) = some (tabT a.length f') ∧ Ph a a.length f' := by
  have hN := g.len
  intro m
  induction m with
  | zero => intro p f _ h; omega
  | succ m ih =>
    intro p f hp hm P
    rw [ref6_Distance_l3]
    by_cases h : p < a.length
    · simp only [decide_eq_true_eq]
      rw [if_pos (by omega)]
      have M0 : Mid a p f (dn 0 0) f := ⟨P.toTab, fun _ _ _ _ => Nat.le_refl _, fun _ _ _ _ hd => by unfold dn at hd; omega⟩
      obtain ⟨f1, e1, M1⟩ := Dist_l4 g hn h f (ref6_Distance_l3 n a m) n 0 f (by omega) (by omega) M0
      obtain ⟨f2, e2, M2⟩ := ih (p + 1) f1 (by omega) (by omega) (M1.done g P h fun x hx y _ => .inl hx)
      exact ⟨f2, (show _ = _ from e1).trans e2, M2⟩
    · have : p = a.length := by omega
      subst this
      simp only [decide_eq_true_eq]
      rw [if_neg (by omega)]
      exact ⟨f, rfl, P⟩
/-- from i to k -/
noncomputable def dT (a : List (List Int)) (i k : Nat) : Nat := dst a k i
theorem Distance_eq (g : OkG a) {n : Nat} (hn : 30000 < n) : ref6_Distance n a = some (tabT a.length (dT a)) := by
  have hN := g.len
  unfold ref6_Distance
  have h1 := Dist_l1 g hn n 0 (by omega) (by omega)
  obtain ⟨f, e, P⟩ := Dist_l3 g hn n 0 (f0 a) (by omega) (by omega) (f0_ph g)
  rw [show ref6_Distance_l1 n a n [] 0 = _ from h1, show ref6_Distance_l3 n a n (tabT a.length (f0 a)) 0 = _ from e]
  congr 1
  exact tabT_congr fun i hi k hk => P.eq g hk (distances_eq g hn).2 hi

/-! ### the first node on a cycle -/
noncomputable def onC (a : List (List Int)) (i : Nat) : Bool := decide (dst a i i < 1000)
noncomputable def firstC (a : List (List Int)) : Int := match row (onC a) a.length 0 with
  | some i => i
  | none => -1
theorem cyclic_l1 (g : OkG a) {n : Nat} (hn : 30000 < n) : ∀ (m i : Nat), i ≤ a.length → a.length - i < m →
    depgraph_cyclic_l1 n a m (i : Int) = some (match row (onC a) (a.length - i) i with | some i => (i : Int) | none => -1) := by
  have hN := g.len
  intro m
  induction m with
  | zero => intro i _ h; omega
  | succ m ih =>
    intro i hi hm
    rw [depgraph_cyclic_l1]
    by_cases h : i < a.length
    · simp only [decide_eq_true_eq]
      rw [if_pos (by omega), (distances_eq g hn).1, bsome, gidx_tabD _ h, bsome, show a.length - i = (a.length - (i + 1)) + 1 by omega, row]
      by_cases q : dst a i i < 1000
      · rw [if_pos (by omega), if_pos (by unfold onC; simpa using q)]
      · rw [if_neg (by omega), if_neg (by unfold onC; simpa using q), gadd_nat (by omega), bsome]
        exact ih (i + 1) (by omega) (by omega)
    · simp only [decide_eq_true_eq]
      rw [if_neg (by omega), show a.length - i = 0 by omega]; rfl
theorem cyclic_eq (g : OkG a) {n : Nat} (hn : 30000 < n) : depgraph_cyclic n a = some (firstC a) := by
  have hN := g.len
  unfold depgraph_cyclic
  exact cyclic_l1 g hn n 0 (by omega) (by omega)
theorem First_l1 (g : OkG a) {n : Nat} : ∀ (m i : Nat), i ≤ a.length → a.length - i < m →
    ref6_FirstOnCycle_l1 n a (tabT a.length (dT a)) m (i : Int) = some (match row (onC a) (a.length - i) i with | some i => (i : Int) | none => -1) := by
  have hN := g.len
  intro m
  induction m with
  | zero => intro i _ h; omega
  | succ m ih =>
    intro i hi hm
    rw [ref6_FirstOnCycle_l1]
    by_cases h : i < a.length
    · simp only [decide_eq_true_eq]
      rw [if_pos (by omega), gidx_tabT _ h, bsome, gidx_tabD _ h, bsome, show a.length - i = (a.length - (i + 1)) + 1 by omega, row]
      unfold dT
      by_cases q : dst a i i < 1000
      · rw [if_pos (by omega), if_pos (by unfold onC; simpa using q)]
      · rw [if_neg (by omega), if_neg (by unfold onC; simpa using q), gadd_nat (by omega), bsome]
        exact ih (i + 1) (by omega) (by omega)
    · simp only [decide_eq_true_eq]
      rw [if_neg (by omega), show a.length - i = 0 by omega]; rfl
theorem First_eq (g : OkG a) {n : Nat} (hn : 30000 < n) : ref6_FirstOnCycle n a = some (firstC a) := by
  have hN := g.len
  unfold ref6_FirstOnCycle
  rw [Distance_eq g hn, bsome]
  exact First_l1 g n 0 (by omega) (by omega)
theorem firstC_cases (a : List (List Int)) : (firstC a = -1 ∧ ∀ i : Nat, i < a.length → ¬ dst a i i < 1000) ∨ ∃ s : Nat, firstC a = (s : Int) ∧ s < a.length ∧ dst a s s < 1000 ∧ ∀ i : Nat, i < s → ¬ dst a i i < 1000 := by
  unfold firstC
  cases h : row (onC a) a.length 0 with
  | none => left; refine ⟨rfl, fun i hi => ?_⟩; have := row_none h i (by omega) (by omega); simpa [onC] using this
  | some s =>
    obtain ⟨_, h2, h3, h4⟩ := row_some h
    exact .inr ⟨s, rfl, by omega, by simpa [onC] using h3, fun i hi => by have := h4 i (by omega) hi; simpa [onC] using this⟩

/-! ### affected nodes -/
def okl (N : Nat) (c : Nat → Bool) : List Int := ((List.range N).filter c).map fun (x : Nat) => (x : Int)
theorem okl_mem {N : Nat} {c : Nat → Bool} {x : Int} : x ∈ okl N c ↔ ∃ k : Nat, x = k ∧ k < N ∧ c k = true := by
  unfold okl
  rw [List.mem_map]
  constructor
  · rintro ⟨k, h, rfl⟩; rw [List.mem_filter, List.mem_range] at h; exact ⟨k, rfl, h.1, h.2⟩
  · rintro ⟨k, rfl, h1, h2⟩; exact ⟨k, by rw [List.mem_filter, List.mem_range]; exact ⟨h1, h2⟩, rfl⟩
theorem okl_succ (N : Nat) (c : Nat → Bool) : okl (N + 1) c = okl N c ++ if c N = true then [(N : Int)] else [] := by
  unfold okl
  rw [List.range_succ, List.filter_append, List.map_append]
  congr 1
  by_cases h : c N = true <;> simp [h]
theorem okl_ok (N : Nat) (c : Nat → Bool) : OkL N (okl N c) := by
  have : ∀ k, k ≤ N → OkL N (okl k c) := by
    intro k
    induction k with
    | zero => intro _; exact ⟨by simp [okl], .nil⟩
    | succ k ih =>
      intro hk
      have I := ih (by omega)
      rw [okl_succ]
      refine ⟨fun x hx => ?_, ?_⟩
      · rcases List.mem_append.1 hx with h | h
        · exact I.rng x h
        · split at h
          · simp at h; subst h; omega
          · simp at h
      · rw [List.pairwise_append]
        refine ⟨I.srt, ?_, fun x hx y hy => ?_⟩
        · split <;> simp
        · obtain ⟨j, rfl, h, _⟩ := okl_mem.1 hx
          split at hy
          · simp at hy; subst hy; omega
          · simp at hy
  exact this N (Nat.le_refl _)
theorem okl_len (N : Nat) (c : Nat → Bool) : (okl N c).length ≤ N := (okl_ok N c).len
theorem OkL.eq_okl {N : Nat} {l : List Int} (h : OkL N l) : l = okl N (fun k => decide ((k : Int) ∈ l)) := by
  refine srt_ext h.srt (okl_ok _ _).srt fun x => ?_
  rw [okl_mem]
  constructor
  · intro hx
    obtain ⟨k, rfl⟩ := natOf (h.rng x hx).1
    exact ⟨k, rfl, by have := h.rng _ hx; omega, by simpa using hx⟩
  · rintro ⟨k, rfl, _, h⟩; simpa using h
theorem okl_congr {N : Nat} {c d : Nat → Bool} (h : ∀ k < N, c k = d k) : okl N c = okl N d := by
  unfold okl
  rw [List.filter_congr fun x hx => h x (List.mem_range.1 hx)]

/-- what the changed nodes of the list affect -/
noncomputable def affB (a : List (List Int)) (l : List Int) (i : Nat) : Bool := decide ((i : Int) ∈ l) || l.any fun x => decide (dst a x.toNat i < 1000)
noncomputable def aff (a : List (List Int)) (l : List Int) : List Int := okl a.length (affB a l)
def tabB (N : Nat) (c : Nat → Bool) : List Bool := tab N c
theorem gidx_tabB {N i : Nat} (c : Nat → Bool) (h : i < N) : gidx (tabB N c) (i : Int) = some (c i) := gidx_tab _ h
theorem gset_tabB {N : Nat} (c : Nat → Bool) (i : Nat) (v : Bool) : gset (tabB N c) (i : Int) v = tabB N fun y => if y = i then v else c y := gset_tab _ _ _
/-- one changed node -/
noncomputable def markB (a : List (List Int)) (x : Nat) (c : Nat → Bool) (i : Nat) : Bool := c i || decide (i = x) || decide (dst a x i < 1000)
theorem Aff_l2 (g : OkG a) {n x j : Nat} (hx : x < a.length) (hj : j < 100) (lp1 : (List Bool) → Int → Option ((List Int) × SCodeIndex)) (c : Nat → Bool) : ∀ (m i : Nat), i ≤ a.length → a.length - i < m →
    depgraph_Affected_l2 n (j : Int) lp1 (x : Int) (tabD a.length (dst a x)) m (tabB a.length fun y => if y < i then markB a x c y else c y) (i : Int) = lp1 (tabB a.length (markB a x c)) ((j + 1 : Nat) : Int) := by
  have hN := g.len
  intro m
  induction m with
  | zero => intro i _ h; omega
  | succ m ih =>
    intro i hi hm
    rw [depgraph_Affected_l2]
    by_cases h : i < a.length
    · simp only [decide_eq_true_eq, tabD_len]
      rw [if_pos (by omega), gidx_tabD _ h, bsome, gidx_tabB _ h]
      simp only [bsome]
      rw [if_neg (show ¬ i < i by omega)]
      have st : ∀ v : Bool, v = markB a x c i → depgraph_Affected_j1 n (i : Int) (depgraph_Affected_l2 n (j : Int) lp1 (x : Int) (tabD a.length (dst a x)) m) (gset (tabB a.length fun y => if y < i then markB a x c y else c y) (i : Int) v) = lp1 (tabB a.length (markB a x c)) ((j + 1 : Nat) : Int) := by
        intro v hv
        unfold depgraph_Affected_j1
        rw [gadd_nat (by omega), bsome, gset_tabB]
        rw [show (tabB a.length fun y => if y = i then v else if y < i then markB a x c y else c y) = tabB a.length fun y => if y < i + 1 then markB a x c y else c y from tab_congr fun y _ => by
          by_cases e : y = i
          · subst e; rw [if_pos rfl, if_pos (by omega), hv]
          · rw [if_neg e]; by_cases e2 : y < i
            · rw [if_pos e2, if_pos (by omega)]
            · rw [if_neg e2, if_neg (by omega)]]
        exact ih (i + 1) (by omega) (by omega)
      by_cases q : c i = true
      · rw [if_pos q]; exact st true (by simp [markB, q])
      · rw [if_neg q]
        by_cases q2 : i = x
        · rw [if_pos (by omega)]; exact st true (by simp [markB, q2])
        · rw [if_neg (by omega)]; exact st _ (by simp at q; simp [markB, q, q2]; omega)
    · have : i = a.length := by omega
      subst this
      simp only [decide_eq_true_eq, tabD_len]
      rw [if_neg (by omega), gadd_nat (by omega), bsome]
      congr 1
      exact tab_congr fun y hy => by rw [if_pos hy]
theorem Aff_l3 (g : OkG a) {n : Nat} (c : Nat → Bool) : ∀ (m i : Nat), i ≤ a.length → a.length - i < m →
    depgraph_Affected_l3 n (tabB a.length c) m (okl i c) (i : Int) = some (okl a.length c, ⟨0, 0⟩) := by
  have hN := g.len
  intro m
  induction m with
  | zero => intro i _ h; omega
  | succ m ih =>
    intro i hi hm
    rw [depgraph_Affected_l3]
    have hl : (tabB a.length c).length = a.length := tab_length _ _
    by_cases h : i < a.length
    · simp only [decide_eq_true_eq, hl]
      rw [if_pos (by omega), gidx_tabB _ h, bsome]
      unfold depgraph_Affected_j2
      rw [gadd_nat (by omega)]
      simp only [bsome]
      have e := okl_succ i c
      have := okl_len i c
      by_cases q : c i = true
      · rw [if_pos q] at e
        rw [if_pos q, gapp_ok (by simp; omega), bsome, ← e]
        exact ih (i + 1) (by omega) (by omega)
      · rw [if_neg q, List.append_nil] at e
        rw [if_neg q, ← e]
        exact ih (i + 1) (by omega) (by omega)
    · have : i = a.length := by omega
      subst this
      simp only [decide_eq_true_eq, hl]
      rw [if_neg (by omega)]
theorem Aff_l1 (g : OkG a) {n : Nat} (hn : 30000 < n) {l : List Int} (hl : OkL a.length l) : ∀ (m j : Nat), j ≤ l.length → l.length - j < m →
    depgraph_Affected_l1 n a l m (tabB a.length (affB a (l.take j))) (j : Int) = some (aff a l, ⟨0, 0⟩) := by
  have hN := g.len
  have hll := hl.len
  intro m
  induction m with
  | zero => intro j _ h; omega
  | succ m ih =>
    intro j hj hm
    rw [depgraph_Affected_l1]
    by_cases h : j < l.length
    · simp only [decide_eq_true_eq]
      have hr := hl.rng _ (List.getElem_mem h)
      obtain ⟨x, hx⟩ := natOf hr.1
      rw [if_pos (by omega), gidx_nat, getElem?_lt h, bsome, hx, (distances_eq g hn).1, bsome]
      have := Aff_l2 g (n := n) (x := x) (j := j) (by omega) (by omega) (depgraph_Affected_l1 n a l m) (affB a (l.take j)) n 0 (by omega) (by omega)
      simp only [Nat.not_lt_zero, if_false] at this
      rw [show depgraph_Affected_l2 n (j : Int) (depgraph_Affected_l1 n a l m) (x : Int) (tabD a.length (dst a x)) n (tabB a.length (affB a (l.take j))) 0 = _ from this]
      rw [show markB a x (affB a (l.take j)) = affB a (l.take (j + 1)) from ?_]
      · exact ih (j + 1) (by omega) (by omega)
      · funext i
        unfold markB affB
        rw [List.take_succ_eq_append_getElem h, hx, List.any_append, List.any_cons, List.any_nil, Int.toNat_natCast]
        have e : decide ((i : Int) ∈ l.take j ++ [(x : Int)]) = (decide ((i : Int) ∈ l.take j) || decide (i = x)) := by
          by_cases q : i = x <;> simp [q]
          intro e; omega
        rw [e, Bool.or_false]
        cases decide ((i : Int) ∈ l.take j) <;> cases decide (i = x) <;> cases (l.take j).any (fun y => decide (dst a y.toNat i < 1000)) <;> simp
    · simp only [decide_eq_true_eq]
      rw [if_neg (by omega), List.take_of_length_le (by omega)]
      exact Aff_l3 g (affB a l) n 0 (by omega) (by omega)
/-- the fault of a graph and a list of changed nodes -/
def cf (a : List (List Int)) (l : List Int) : SCodeIndex := if (gf a).Code = 0 then (if lcode a.length (-1) l ≠ 0 then ⟨lcode a.length (-1) l, -2⟩ else ⟨0, 0⟩) else gf a
theorem cf_code {l : List Int} (h : (cf a l).Code = 0) : cf a l = ⟨0, 0⟩ ∧ OkG a ∧ OkL a.length l := by
  unfold cf at h ⊢
  split at h
  · rename_i q
    rw [if_pos q]
    split at h
    · rename_i c; exact absurd h c
    · rename_i c; rw [if_neg c]; exact ⟨rfl, gf_ok (gf_code q), (lcode_zero (Classical.not_not.1 c)).1⟩
  · rename_i q; exact absurd h q
theorem cf_ok {l : List Int} (g : OkG a) (h0 : gf a = ⟨0, 0⟩) (h : OkL a.length l) : cf a l = ⟨0, 0⟩ := by
  unfold cf
  rw [h0, if_pos rfl, h.code, if_neg (by simp)]
theorem gf_len (h : (gf a).Code = 0) : a.length ≤ 24 := (gf_ok (gf_code h)).len
theorem ChangedFault_eq {n : Nat} (hn : 30000 < n) (a : List (List Int)) (l : List Int) : ref6_ChangedFault n a l = some (cf a l) := by
  unfold ref6_ChangedFault cf
  rw [GraphFault_eq hn, bsome]
  simp only [decide_eq_true_eq]
  by_cases h : (gf a).Code = 0
  · rw [if_pos h, if_pos h, nodesCode_eq hn (gf_len h), bsome]
    split
    · rfl
    · rw [gf_code h]; rfl
  · rw [if_neg h, if_neg h]; rfl
theorem Affected_eq {n : Nat} (hn : 30000 < n) (a : List (List Int)) (l : List Int) : depgraph_Affected n a l = some (if (cf a l).Code = 0 then aff a l else [], cf a l) := by
  unfold depgraph_Affected
  rw [Validate_eq hn, bsome, fault_zero]
  by_cases h : (gf a).Code = 0
  · have h0 := gf_code h
    have g := gf_ok h0
    rw [if_neg (by simp [h0]), list_eq hn g.len, bsome]
    simp only [decide_eq_true_eq]
    unfold cf
    rw [if_pos h]
    by_cases q : lcode a.length (-1) l = 0
    · have q' : ¬ lcode a.length (-1) l ≠ 0 := fun h => h q
      rw [if_neg q', if_neg q', if_pos rfl, gmake_nat _ (by have := g.len; omega), bsome]
      have hl := (lcode_zero q).1
      have := Aff_l1 g hn hl n 0 (by omega) (by have := hl.len; have := g.len; omega)
      rw [tab_const]
      exact this
    · rw [if_pos q, if_pos q, if_neg q]
  · have : ¬ gf a = ⟨0, 0⟩ := fun e => h (by rw [e])
    have e : cf a l = gf a := by unfold cf; rw [if_neg h]
    rw [if_pos (by simp [this]), e, if_neg h]

theorem rAff_l2 (g : OkG a) {n i : Nat} (hi : i < a.length) {l : List Int} (hl : OkL a.length l) (w : List Int) (hw : w.length ≤ 24) (lp1 : (List Int) → Int → Option (List Int)) : ∀ (m j : Nat) (b : Bool), j ≤ l.length → l.length - j < m →
    ref6_Affected_l2 n l (tabT a.length (dT a)) w (i : Int) lp1 m b (j : Int) = lp1 (w ++ if (b || (l.drop j).any fun x => decide (dst a x.toNat i < 1000)) = true then [(i : Int)] else []) ((i + 1 : Nat) : Int) := by
  have hN := g.len
  have hll := hl.len
  intro m
  induction m with
  | zero => intro j b _ h; omega
  | succ m ih =>
    intro j b hj hm
    rw [ref6_Affected_l2]
    by_cases h : j < l.length
    · simp only [decide_eq_true_eq]
      have hr := hl.rng _ (List.getElem_mem h)
      obtain ⟨x, hx⟩ := natOf hr.1
      rw [List.drop_eq_getElem_cons h, List.any_cons]
      rw [if_pos (by omega)]
      unfold ref6_Affected_j2
      rw [gadd_nat (by omega)]
      simp only [bsome]
      cases b with
      | true => rw [if_pos rfl, ih (j + 1) true (by omega) (by omega)]; simp
      | false =>
        rw [if_neg (by decide), gidx_tabT _ hi, bsome, gidx_nat, getElem?_lt h, bsome, hx, gidx_tabD _ (by omega), bsome, ih (j + 1) _ (by omega) (by omega)]
        unfold dT
        simp only [Int.toNat_natCast, Bool.false_or]
        rw [show decide ((dst a x i : Int) < 1000) = decide (dst a x i < 1000) from decide_eq_decide.2 (by omega)]
    · simp only [decide_eq_true_eq]
      rw [if_neg (by omega), List.drop_eq_nil_of_le (by omega)]
      unfold ref6_Affected_j1
      rw [gadd_nat (by omega)]
      simp only [bsome]
      cases b with
      | true => rw [if_pos rfl, gapp_ok (by simp; omega), bsome]; rfl
      | false => rw [if_neg (by decide)]; simp
theorem rAff_l1 (g : OkG a) {n : Nat} (hn : 30000 < n) {l : List Int} (hl : OkL a.length l) : ∀ (m i : Nat), i ≤ a.length → a.length - i < m →
    ref6_Affected_l1 n a l (tabT a.length (dT a)) m (okl i (affB a l)) (i : Int) = some (aff a l) := by
  have hN := g.len
  have hll := hl.len
  intro m
  induction m with
  | zero => intro i _ h; omega
  | succ m ih =>
    intro i hi hm
    rw [ref6_Affected_l1]
    by_cases h : i < a.length
    · simp only [decide_eq_true_eq]
      rw [if_pos (by omega), Has_eq hn (by omega), bsome]
      have := rAff_l2 g (n := n) h hl (okl i (affB a l)) (by have := okl_len i (affB a l); omega) (ref6_Affected_l1 n a l (tabT a.length (dT a)) m) n 0 (decide ((i : Int) ∈ l)) (by omega) (by omega)
      rw [show ref6_Affected_l2 n l (tabT a.length (dT a)) (okl i (affB a l)) (i : Int) (ref6_Affected_l1 n a l (tabT a.length (dT a)) m) n (decide ((i : Int) ∈ l)) 0 = _ from this]
      rw [List.drop_zero]
      have e := okl_succ i (affB a l)
      unfold affB at e ⊢
      rw [← e]
      exact ih (i + 1) (by omega) (by omega)
    · have : i = a.length := by omega
      subst this
      simp only [decide_eq_true_eq]
      rw [if_neg (by omega)]; rfl
theorem rAffected_eq (g : OkG a) {n : Nat} (hn : 30000 < n) {l : List Int} (hl : OkL a.length l) : ref6_Affected n a l = some (aff a l) := by
  have hN := g.len
  unfold ref6_Affected
  rw [Distance_eq g hn, bsome]
  exact rAff_l1 g hn hl n 0 (by omega) (by omega)
end Go.Proofs.Ytpbfobgbpdbiaaa
