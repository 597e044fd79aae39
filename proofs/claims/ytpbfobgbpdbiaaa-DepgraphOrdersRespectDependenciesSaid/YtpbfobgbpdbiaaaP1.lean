/- Depgraph: what the checks and the list functions compute, said plainly. -/
import Derived.Test.YtpbfobgbpdbiaaaD
import Derived.Test.YtpbfobgbpdbiaaaPwPlain
namespace Go.Proofs.Ytpbfobgbpdbiaaa
open Go.PW Go

theorem ref_in (n : Nat) (a b c : Int) : ref6_in n a b c = some (decide (b ≤ a ∧ a ≤ c)) := by
  unfold ref6_in ref6_in_j1
  by_cases h : b ≤ a <;> simp [h]
theorem law_in (n : Nat) (a b c : Int) : law6_in n a b c = some (decide (b ≤ a ∧ a ≤ c)) := by
  unfold law6_in law6_in_j1
  by_cases h : b ≤ a <;> simp [h]

/-! ### the code of a list of nodes -/
def lcode (N : Nat) : Int → List Int → Int
  | _, [] => 0
  | p, x :: r => if ¬ (0 ≤ x ∧ x < N) then 3 else if x ≤ p then 5 else lcode N x r
theorem nodesCode_l1 (n : Nat) (N : Nat) (hN : N ≤ 24) (l : List Int) : ∀ (m i : Nat) (p : Int), i ≤ l.length → (i = 0 ∧ p = -1 ∨ 0 < i ∧ l[i - 1]? = some p) → (i : Int) ≤ p + 1 → p < N → ((N : Int) - p).toNat < m →
    ref6_nodesCode_l1 n (N : Int) l m i = some (lcode N p (l.drop i)) := by
  intro m
  induction m with
  | zero => intro i p _ _ _ _ h; omega
  | succ m ih =>
    intro i p hi hp h1 h2 hm
    rw [ref6_nodesCode_l1]
    by_cases h : i < l.length
    · rw [List.drop_eq_getElem_cons h, lcode]
      simp only [decide_eq_true_eq]
      rw [if_pos (by omega), gidx_nat, getElem?_lt h, bsome, gsubI (by omega), bsome, ref_in, bsome]
      by_cases k : 0 ≤ l[i] ∧ l[i] < N
      · have k' : 0 ≤ l[i] ∧ l[i] ≤ (N : Int) - 1 := by omega
        have fin : ref6_nodesCode_j1 n (i : Int) (ref6_nodesCode_l1 n (N : Int) l m) (decide (l[i] ≤ p)) = some (if l[i] ≤ p then 5 else lcode N l[i] (l.drop (i + 1))) := by
          unfold ref6_nodesCode_j1
          by_cases q : l[i] ≤ p
          · simp [q]
          · simp only [q, decide_false, Bool.false_eq_true, if_false]
            rw [gadd_nat (by omega), bsome]
            refine ih (i + 1) l[i] (by omega) (.inr ⟨by omega, ?_⟩) (by omega) k.2 (by omega)
            rw [Nat.add_sub_cancel]; exact getElem?_lt h
        rw [show (!decide (0 ≤ l[i] ∧ l[i] ≤ (N : Int) - 1)) = false by simp [k'], if_neg (show ¬ ¬ (0 ≤ l[i] ∧ l[i] < N) from fun q => q k)]
        simp only [Bool.false_eq_true, if_false]
        rcases hp with ⟨e1, e2⟩ | ⟨e1, e2⟩
        · subst e1 e2
          rw [if_neg (by omega), show (false : Bool) = decide (l[0] ≤ (-1 : Int)) by simp; omega]
          exact fin
        · rw [if_pos (by omega), gsubI (by omega), bsome, show ((i : Int) - 1) = ((i - 1 : Nat) : Int) by omega, gidx_nat, e2, bsome]
          exact fin
      · have k' : ¬ (0 ≤ l[i] ∧ l[i] ≤ (N : Int) - 1) := by omega
        rw [show (!decide (0 ≤ l[i] ∧ l[i] ≤ (N : Int) - 1)) = true by rw [decide_eq_false k']; rfl, if_pos rfl, if_pos (show ¬ (0 ≤ l[i] ∧ l[i] < N) from k)]
    · rw [List.drop_eq_nil_of_le (by omega)]
      simp only [decide_eq_true_eq]
      rw [if_neg (by omega)]; rfl
theorem nodesCode_eq {n : Nat} (hn : 30000 < n) {N : Nat} (hN : N ≤ 24) (l : List Int) : ref6_nodesCode n (N : Int) l = some (lcode N (-1) l) := by
  unfold ref6_nodesCode
  have := nodesCode_l1 n N hN l n 0 (-1) (by omega) (.inl ⟨rfl, rfl⟩) (by omega) (by omega) (by omega)
  simpa using this
theorem list_l1 (n : Nat) (N : Nat) (hN : N ≤ 24) (l : List Int) : ∀ (m i : Nat) (p : Int), i ≤ l.length → (i = 0 ∧ p = -1 ∨ 0 < i ∧ l[i - 1]? = some p) → (i : Int) ≤ p + 1 → p < N → ((N : Int) - p).toNat < m →
    depgraph_list_l1 n l (N : Int) m i = some (lcode N p (l.drop i)) := by
  intro m
  induction m with
  | zero => intro i p _ _ _ _ h; omega
  | succ m ih =>
    intro i p hi hp h1 h2 hm
    rw [depgraph_list_l1]
    by_cases h : i < l.length
    · rw [List.drop_eq_getElem_cons h, lcode]
      simp only [decide_eq_true_eq]
      rw [if_pos (by omega), gidx_nat, getElem?_lt h, bsome]
      by_cases k : 0 ≤ l[i] ∧ l[i] < N
      · have fin : depgraph_list_j2 n (i : Int) (depgraph_list_l1 n l (N : Int) m) (decide (l[i] ≤ p)) = some (if l[i] ≤ p then 5 else lcode N l[i] (l.drop (i + 1))) := by
          unfold depgraph_list_j2
          by_cases q : l[i] ≤ p
          · simp [q]
          · simp only [q, decide_false, Bool.false_eq_true, if_false]
            rw [gadd_nat (by omega), bsome]
            refine ih (i + 1) l[i] (by omega) (.inr ⟨by omega, ?_⟩) (by omega) k.2 (by omega)
            rw [Nat.add_sub_cancel]; exact getElem?_lt h
        rw [if_neg (by omega), if_neg (by simp [k])]
        unfold depgraph_list_j1
        rw [if_neg (by simp; omega)]
        simp only [decide_eq_true_eq]
        rcases hp with ⟨e1, e2⟩ | ⟨e1, e2⟩
        · subst e1 e2
          rw [if_neg (by omega), show (false : Bool) = decide (l[0] ≤ (-1 : Int)) by simp; omega]
          exact fin
        · rw [if_pos (by omega), gsubI (by omega), bsome, show ((i : Int) - 1) = ((i - 1 : Nat) : Int) by omega, gidx_nat, e2, bsome]
          exact fin
      · rw [if_pos (show ¬ (0 ≤ l[i] ∧ l[i] < N) from k)]
        unfold depgraph_list_j1
        by_cases k1 : l[i] < 0
        · rw [if_pos k1]; rfl
        · rw [if_neg k1, if_pos (by simp; omega)]
    · rw [List.drop_eq_nil_of_le (by omega)]
      simp only [decide_eq_true_eq]
      rw [if_neg (by omega)]; rfl
theorem list_eq {n : Nat} (hn : 30000 < n) {N : Nat} (hN : N ≤ 24) (l : List Int) : depgraph_list n l (N : Int) = some (lcode N (-1) l) := by
  unfold depgraph_list
  have := list_l1 n N hN l n 0 (-1) (by omega) (.inl ⟨rfl, rfl⟩) (by omega) (by omega) (by omega)
  simpa using this

/-! ### the fault of a graph -/
def gscan (N : Nat) : Nat → List (List Int) → SCodeIndex
  | _, [] => ⟨0, 0⟩
  | i, l :: r => if lcode N (-1) l ≠ 0 then ⟨lcode N (-1) l, i⟩ else gscan N (i + 1) r
def gf (a : List (List Int)) : SCodeIndex := if 24 < a.length then ⟨2, -1⟩ else gscan a.length 0 a
theorem GraphFault_l1 (n : Nat) (hn : 30000 < n) (a : List (List Int)) (ha : a.length ≤ 24) : ∀ (m i : Nat), i ≤ a.length → a.length - i < m →
    ref6_GraphFault_l1 n a m i = some (gscan a.length i (a.drop i)) := by
  intro m
  induction m with
  | zero => intro i _ h; omega
  | succ m ih =>
    intro i hi hm
    rw [ref6_GraphFault_l1]
    by_cases h : i < a.length
    · rw [List.drop_eq_getElem_cons h, gscan]
      simp only [decide_eq_true_eq]
      rw [if_pos (by omega), gidx_nat, getElem?_lt h, bsome, nodesCode_eq hn ha, bsome]
      split
      · rfl
      · rw [gadd_nat (by omega), bsome]; exact ih (i + 1) (by omega) (by omega)
    · rw [List.drop_eq_nil_of_le (by omega)]
      simp only [decide_eq_true_eq]
      rw [if_neg (by omega)]; rfl
theorem GraphFault_eq {n : Nat} (hn : 30000 < n) (a : List (List Int)) : ref6_GraphFault n a = some (gf a) := by
  unfold ref6_GraphFault gf
  by_cases h : 24 < a.length
  · rw [if_pos (by simp; omega), if_pos h]; rfl
  · rw [if_neg (by simp; omega), if_neg h]
    have := GraphFault_l1 n hn a (by omega) n 0 (by omega) (by omega)
    simpa using this
theorem Validate_l1 (n : Nat) (hn : 30000 < n) (a : List (List Int)) (ha : a.length ≤ 24) : ∀ (m i : Nat), i ≤ a.length → a.length - i < m →
    depgraph_Validate_l1 n a m i = some (gscan a.length i (a.drop i)) := by
  intro m
  induction m with
  | zero => intro i _ h; omega
  | succ m ih =>
    intro i hi hm
    rw [depgraph_Validate_l1]
    by_cases h : i < a.length
    · rw [List.drop_eq_getElem_cons h, gscan]
      simp only [decide_eq_true_eq]
      rw [if_pos (by omega), gidx_nat, getElem?_lt h, bsome, list_eq hn ha, bsome]
      split
      · rfl
      · rw [gadd_nat (by omega), bsome]; exact ih (i + 1) (by omega) (by omega)
    · rw [List.drop_eq_nil_of_le (by omega)]
      simp only [decide_eq_true_eq]
      rw [if_neg (by omega)]; rfl
theorem Validate_eq {n : Nat} (hn : 30000 < n) (a : List (List Int)) : depgraph_Validate n a = some (gf a) := by
  unfold depgraph_Validate gf
  by_cases h : 24 < a.length
  · rw [if_pos (by simp; omega), if_pos h]
  · rw [if_neg (by simp; omega), if_neg h]
    have := Validate_l1 n hn a (by omega) n 0 (by omega) (by omega)
    simpa using this
theorem gscan_code (N : Nat) : ∀ (l : List (List Int)) (i : Nat), (gscan N i l).Code = 0 → gscan N i l = ⟨0, 0⟩
  | [], _, _ => rfl
  | x :: r, i, h => by
    rw [gscan] at h ⊢
    split
    · rename_i c; rw [if_pos c] at h; exact absurd h c
    · rename_i c; rw [if_neg c] at h; exact gscan_code N r _ h
theorem gf_code {a : List (List Int)} (h : (gf a).Code = 0) : gf a = ⟨0, 0⟩ := by
  unfold gf at h ⊢
  split
  · rename_i c; rw [if_pos c] at h; cases h
  · rename_i c; rw [if_neg c] at h; exact gscan_code _ _ _ h
theorem fault_eq (x y : SCodeIndex) : (x.Code == y.Code && (x.Index == y.Index && true)) = decide (x = y) := by
  cases x; cases y
  simp only [SCodeIndex.mk.injEq, Bool.and_true, Bool.decide_and]
  rfl
theorem fault_zero (x : SCodeIndex) : (x.Code == 0 && (x.Index == 0 && true)) = decide (x = ⟨0, 0⟩) := fault_eq x ⟨0, 0⟩

/-! ### sorted lists of nodes -/
structure OkL (N : Nat) (l : List Int) : Prop where
  rng : ∀ x ∈ l, 0 ≤ x ∧ x < N
  srt : l.Pairwise (· < ·)
theorem lcode_zero {N : Nat} : ∀ {l : List Int} {p : Int}, lcode N p l = 0 → OkL N l ∧ ∀ x ∈ l, p < x
  | [], _, _ => ⟨⟨by simp, .nil⟩, by simp⟩
  | x :: r, p, h => by
    rw [lcode] at h
    split at h
    · cases h
    · rename_i k
      split at h
      · cases h
      · obtain ⟨⟨h1, h2⟩, h3⟩ := lcode_zero h
        refine ⟨⟨?_, .cons h3 h2⟩, ?_⟩
        · intro y hy
          rcases List.mem_cons.1 hy with rfl | hy
          · exact Classical.not_not.1 k
          · exact h1 y hy
        · intro y hy
          rcases List.mem_cons.1 hy with rfl | hy
          · omega
          · have := h3 y hy; omega
theorem lcode_ok {N : Nat} : ∀ {l : List Int} {p : Int}, OkL N l → (∀ x ∈ l, p < x) → lcode N p l = 0
  | [], _, _, _ => rfl
  | x :: r, p, h, hp => by
    have hx := h.rng x List.mem_cons_self
    have := hp x List.mem_cons_self
    have hs := List.pairwise_cons.1 h.srt
    rw [lcode, if_neg (by simp [hx]), if_neg (by omega)]
    exact lcode_ok ⟨fun y hy => h.rng y (List.mem_cons_of_mem _ hy), hs.2⟩ hs.1
theorem OkL.code {N : Nat} {l : List Int} (h : OkL N l) : lcode N (-1) l = 0 := lcode_ok h fun x hx => by have := h.rng x hx; omega
theorem srt_len : ∀ {l : List Int} {lo hi : Int}, l.Pairwise (· < ·) → (∀ x ∈ l, lo ≤ x ∧ x < hi) → l.length ≤ (hi - lo).toNat
  | [], _, _, _, _ => by simp
  | x :: r, lo, hi, h, hb => by
    have hs := List.pairwise_cons.1 h
    have := hb x List.mem_cons_self
    have := srt_len (lo := x + 1) (hi := hi) hs.2 fun y hy => by have := hs.1 y hy; have := hb y (List.mem_cons_of_mem _ hy); omega
    rw [List.length_cons]; omega
theorem OkL.len {N : Nat} {l : List Int} (h : OkL N l) : l.length ≤ N := by
  have := srt_len (lo := 0) (hi := N) h.srt h.rng; omega
/-- sorted lists with the same elements are one -/
theorem srt_ext : ∀ {l r : List Int}, l.Pairwise (· < ·) → r.Pairwise (· < ·) → (∀ x, x ∈ l ↔ x ∈ r) → l = r
  | [], [], _, _, _ => rfl
  | [], y :: r, _, _, h => by have := (h y).2 List.mem_cons_self; simp at this
  | x :: l, [], _, _, h => by have := (h x).1 List.mem_cons_self; simp at this
  | x :: l, y :: r, hl, hr, h => by
    have a := List.pairwise_cons.1 hl
    have b := List.pairwise_cons.1 hr
    have e : x = y := by
      rcases List.mem_cons.1 ((h x).1 List.mem_cons_self) with e | e
      · exact e
      · rcases List.mem_cons.1 ((h y).2 List.mem_cons_self) with e2 | e2
        · exact e2.symm
        · have := a.1 y e2; have := b.1 x e; omega
    subst e
    congr 1
    refine srt_ext a.2 b.2 fun z => ?_
    constructor
    · intro hz
      rcases List.mem_cons.1 ((h z).1 (List.mem_cons_of_mem _ hz)) with e | e
      · have := a.1 z hz; omega
      · exact e
    · intro hz
      rcases List.mem_cons.1 ((h z).2 (List.mem_cons_of_mem _ hz)) with e | e
      · have := b.1 z hz; omega
      · exact e

/-! ### valid graphs -/
def dep (a : List (List Int)) (i : Nat) : List Int := a.getD i []
structure OkG (a : List (List Int)) : Prop where
  len : a.length ≤ 24
  ok : ∀ i, OkL a.length (dep a i)
theorem gscan_zero {N : Nat} : ∀ {l : List (List Int)} {i : Nat}, gscan N i l = ⟨0, 0⟩ → ∀ x ∈ l, OkL N x
  | [], _, _ => by simp
  | x :: r, i, h => by
    rw [gscan] at h
    split at h
    · rename_i c; injection h with h _; exact absurd h c
    · rename_i c
      intro y hy
      rcases List.mem_cons.1 hy with rfl | hy
      · exact (lcode_zero (Classical.not_not.1 c)).1
      · exact gscan_zero h y hy
theorem gf_ok {a : List (List Int)} (h : gf a = ⟨0, 0⟩) : OkG a := by
  unfold gf at h
  split at h
  · cases h
  · refine ⟨by omega, fun i => ?_⟩
    unfold dep
    rw [List.getD_eq_getElem?_getD]
    cases e : a[i]? with
    | none => exact ⟨by simp, .nil⟩
    | some l => exact gscan_zero h l (List.mem_of_getElem? e)
theorem gidx_dep {a : List (List Int)} {i : Nat} (h : i < a.length) : gidx a (i : Int) = some (dep a i) := by
  rw [gidx_nat, getElem?_lt h]; unfold dep; rw [List.getD_eq_getElem?_getD, getElem?_lt h]; rfl

/-! ### Has, Ints, position -/
theorem Has_l1 (n : Nat) (l : List Int) (x : Int) (hl : l.length ≤ 100) : ∀ (m i : Nat), i ≤ l.length → l.length - i < m → ref5_Has_l1 n l x m i = some (decide (x ∈ l.drop i)) := by
  intro m
  induction m with
  | zero => intro i _ h; omega
  | succ m ih =>
    intro i hi hm
    rw [ref5_Has_l1]
    by_cases h : i < l.length
    · rw [List.drop_eq_getElem_cons h]
      simp only [decide_eq_true_eq]
      rw [if_pos (by omega), gidx_nat, getElem?_lt h, bsome]
      by_cases e : l[i] = x
      · rw [if_pos e]; simp [e]
      · rw [if_neg e, gadd_nat (by omega), bsome, ih (i + 1) (by omega) (by omega)]
        simp only [List.mem_cons, Ne.symm e, false_or]
    · rw [List.drop_eq_nil_of_le (by omega)]
      simp only [decide_eq_true_eq]
      rw [if_neg (by omega)]; simp
theorem Has_eq {n : Nat} (hn : 30000 < n) {l : List Int} (hl : l.length ≤ 100) (x : Int) : ref5_Has n l x = some (decide (x ∈ l)) := by
  unfold ref5_Has
  have := Has_l1 n l x hl n 0 (by omega) (by omega)
  simpa using this
theorem Ints_l1 (n : Nat) (l : List Int) (hl : l.length ≤ 100) : ∀ (m i : Nat), i ≤ l.length → l.length - i < m → ref5_Ints_l1 n l l m i = some true := by
  intro m
  induction m with
  | zero => intro i _ h; omega
  | succ m ih =>
    intro i hi hm
    rw [ref5_Ints_l1]
    by_cases h : i < l.length
    · simp only [decide_eq_true_eq]
      rw [if_pos (by omega), gidx_nat, getElem?_lt h, bsome, bsome, if_neg (by simp), gadd_nat (by omega), bsome]
      exact ih (i + 1) (by omega) (by omega)
    · simp only [decide_eq_true_eq]
      rw [if_neg (by omega)]
theorem Ints_refl {n : Nat} (hn : 30000 < n) {l : List Int} (hl : l.length ≤ 100) : ref5_Ints n l l = some true := by
  unfold ref5_Ints
  rw [if_neg (by simp)]
  have := Ints_l1 n l hl n 0 (by omega) (by omega)
  simpa using this
/-- the first place of x, from i on -/
def posI (x : Int) : List Int → Nat → Int
  | [], _ => -1
  | y :: r, i => if y = x then i else posI x r (i + 1)
theorem position_l1 (n : Nat) (l : List Int) (x : Int) (hl : l.length ≤ 100) : ∀ (m i : Nat), i ≤ l.length → l.length - i < m → law6_position_l1 n l x m i = some (posI x (l.drop i) i) := by
  intro m
  induction m with
  | zero => intro i _ h; omega
  | succ m ih =>
    intro i hi hm
    rw [law6_position_l1]
    by_cases h : i < l.length
    · rw [List.drop_eq_getElem_cons h, posI]
      simp only [decide_eq_true_eq]
      rw [if_pos (by omega), gidx_nat, getElem?_lt h, bsome]
      split
      · rfl
      · rw [gadd_nat (by omega), bsome]; exact ih (i + 1) (by omega) (by omega)
    · rw [List.drop_eq_nil_of_le (by omega)]
      simp only [decide_eq_true_eq]
      rw [if_neg (by omega)]; rfl
theorem position_eq {n : Nat} (hn : 30000 < n) {l : List Int} (hl : l.length ≤ 100) (x : Int) : law6_position n l x = some (posI x l 0) := by
  unfold law6_position
  have := position_l1 n l x hl n 0 (by omega) (by omega)
  simpa using this
theorem posI_at : ∀ {l : List Int} {i j : Nat} {x : Int}, l.Nodup → l[j]? = some x → posI x l i = (i + j : Nat)
  | [], _, _, _, _, h => by simp at h
  | y :: r, i, 0, x, _, h => by simp at h; subst h; rw [posI, if_pos rfl]; rfl
  | y :: r, i, j + 1, x, hn, h => by
    rw [List.getElem?_cons_succ] at h
    have hs := List.nodup_cons.1 hn
    have : y ≠ x := fun e => hs.1 (e ▸ List.mem_of_getElem? h)
    rw [posI, if_neg this, posI_at hs.2 h]
    omega

/-! ### the least -/
def row (c : Nat → Bool) : Nat → Nat → Option Nat
  | 0, _ => none
  | k + 1, w => if c w = true then some w else row c k (w + 1)
theorem row_some {c : Nat → Bool} : ∀ {k w x}, row c k w = some x → w ≤ x ∧ x < w + k ∧ c x = true ∧ ∀ y, w ≤ y → y < x → c y = false
  | 0, _, _, h => by cases h
  | k + 1, w, x, h => by
    rw [row] at h
    split at h
    · injection h with h; subst h; exact ⟨by omega, by omega, by assumption, by omega⟩
    · rename_i q
      obtain ⟨a, b, d, e⟩ := row_some h
      refine ⟨by omega, by omega, d, fun y h1 h2 => ?_⟩
      by_cases hy : y = w
      · subst hy; simpa using q
      · exact e y (by omega) h2
theorem row_none {c : Nat → Bool} : ∀ {k w}, row c k w = none → ∀ x, w ≤ x → x < w + k → c x = false
  | 0, _, _, _, _, _ => by omega
  | k + 1, w, h, x, h1, h2 => by
    rw [row] at h
    split at h
    · cases h
    · rename_i q
      by_cases e : x = w
      · subst e; simpa using q
      · exact row_none h x (by omega) (by omega)
theorem row_least {c : Nat → Bool} {k x : Nat} (hx : x < k) (hc : c x = true) (hl : ∀ y < x, c y = false) : row c k 0 = some x := by
  cases h : row c k 0 with
  | none => have := row_none h x (by omega) (by omega); rw [hc] at this; cases this
  | some y =>
    obtain ⟨_, _, h3, h4⟩ := row_some h
    by_cases h5 : x < y
    · have := h4 x (by omega) h5; rw [hc] at this; cases this
    · by_cases h6 : y < x
      · have := hl y h6; rw [h3] at this; cases this
      · congr 1; omega
theorem row_ex {c : Nat → Bool} {k x : Nat} (hx : x < k) (hc : c x = true) : ∃ y, row c k 0 = some y := by
  cases h : row c k 0 with
  | none => have := row_none h x (by omega) (by omega); rw [hc] at this; cases this
  | some y => exact ⟨y, rfl⟩
theorem row_congr {c d : Nat → Bool} : ∀ {k w : Nat}, (∀ x, w ≤ x → x < w + k → c x = d x) → row c k w = row d k w
  | 0, _, _ => rfl
  | k + 1, w, h => by
    rw [row, row, h w (by omega) (by omega), row_congr fun x h1 h2 => h x (by omega) (by omega)]

/-! ### counting -/
theorem filter_lt {α : Type} {p q : α → Bool} : ∀ {l : List α}, (∀ x ∈ l, p x = true → q x = true) → (∃ x ∈ l, q x = true ∧ p x = false) → (l.filter p).length < (l.filter q).length
  | [], _, ⟨x, h, _⟩ => by simp at h
  | y :: r, hpq, ⟨x, hx, hq, hp⟩ => by
    have mono : ∀ {l : List α}, (∀ x ∈ l, p x = true → q x = true) → (l.filter p).length ≤ (l.filter q).length := by
      intro l
      induction l with
      | nil => intro _; simp
      | cons z s ih =>
        intro h
        have := ih fun x hx => h x (List.mem_cons_of_mem _ hx)
        by_cases c : p z = true
        · rw [List.filter_cons_of_pos c, List.filter_cons_of_pos (h z List.mem_cons_self c)]; simpa using this
        · rw [List.filter_cons_of_neg c]
          by_cases d : q z = true
          · rw [List.filter_cons_of_pos d, List.length_cons]; omega
          · rw [List.filter_cons_of_neg d]; exact this
    have m := mono fun x hx => hpq x (List.mem_cons_of_mem _ hx)
    rcases List.mem_cons.1 hx with rfl | hx
    · rw [List.filter_cons_of_neg (by simp [hp]), List.filter_cons_of_pos hq, List.length_cons]; omega
    · have ih := filter_lt (fun x hx => hpq x (List.mem_cons_of_mem _ hx)) ⟨x, hx, hq, hp⟩
      by_cases c : p y = true
      · rw [List.filter_cons_of_pos c, List.filter_cons_of_pos (hpq y List.mem_cons_self c)]; simpa using ih
      · rw [List.filter_cons_of_neg c]
        by_cases d : q y = true
        · rw [List.filter_cons_of_pos d, List.length_cons]; omega
        · rw [List.filter_cons_of_neg d]; exact ih
end Go.Proofs.Ytpbfobgbpdbiaaa
