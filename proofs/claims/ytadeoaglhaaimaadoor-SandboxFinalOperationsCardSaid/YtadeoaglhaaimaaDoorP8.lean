/- The plain laws: the order of paths; where a file lies; valid actions. -/
import Derived.Test.YtadeoaglhaaimaaDoorP7
namespace Go.Proofs.YtadeoaglhaaimaaDoor
open Go.PW Go

theorem cmp_lt (a b : List UInt8) : Lib.compareBytes a b < 0 ↔ Op.bytesLess a b = true := by
  induction a generalizing b with
  | nil => cases b <;> simp [Lib.compareBytes, Op.bytesLess]
  | cons x a ih =>
    cases b with
    | nil => simp [Lib.compareBytes, Op.bytesLess]
    | cons y b =>
      unfold Lib.compareBytes Op.bytesLess
      by_cases h1 : x < y
      · simp [h1]
      · by_cases h2 : y < x
        · have : x ≠ y := fun e => by subst e; exact absurd h2 h1
          simp [h1, h2, this]
        · have : x = y := UInt8.le_antisymm (UInt8.not_lt.1 h2) (UInt8.not_lt.1 h1)
          subst this
          simp [h1, ih]
theorem cmp_eq0 (a b : List UInt8) : Lib.compareBytes a b = 0 ↔ a = b := by
  induction a generalizing b with
  | nil => cases b <;> simp [Lib.compareBytes]
  | cons x a ih =>
    cases b with
    | nil => simp [Lib.compareBytes]
    | cons y b =>
      unfold Lib.compareBytes
      by_cases h1 : x < y
      · have : x ≠ y := fun e => by subst e; exact absurd h1 (UInt8.lt_irrefl _)
        simp [h1, this]
      · by_cases h2 : y < x
        · have : x ≠ y := fun e => by subst e; exact absurd h2 h1
          simp [h1, h2, this]
        · have : x = y := UInt8.le_antisymm (UInt8.not_lt.1 h2) (UInt8.not_lt.1 h1)
          subst this
          simp [h1, ih]
theorem less_trans {a b c : List UInt8} (h1 : Op.bytesLess a b = true) (h2 : Op.bytesLess b c = true) : Op.bytesLess a c = true := by
  induction a generalizing b c with
  | nil => cases b <;> cases c <;> simp_all [Op.bytesLess]
  | cons x a ih =>
    cases b with
    | nil => simp [Op.bytesLess] at h1
    | cons y b =>
      cases c with
      | nil => simp [Op.bytesLess] at h2
      | cons z c =>
        simp only [Op.bytesLess, Bool.or_eq_true, Bool.and_eq_true, decide_eq_true_eq, beq_iff_eq] at h1 h2 ⊢
        rcases h1 with h1 | ⟨h1, h1'⟩
        · rcases h2 with h2 | ⟨h2, h2'⟩
          · exact .inl (UInt8.lt_trans h1 h2)
          · subst h2; exact .inl h1
        · subst h1
          rcases h2 with h2 | ⟨h2, h2'⟩
          · exact .inl h2
          · exact .inr ⟨h2, ih h1' h2'⟩
theorem less_irrefl (a : List UInt8) : Op.bytesLess a a = false := by
  induction a with
  | nil => rfl
  | cons x a ih => simp [Op.bytesLess, ih]
theorem less_total {a b : List UInt8} (h : (Op.bytesLess a b || a == b) = false) : Op.bytesLess b a = true := by
  induction a generalizing b with
  | nil => cases b <;> simp_all [Op.bytesLess]
  | cons x a ih =>
    cases b with
    | nil => rfl
    | cons y b =>
      simp only [Op.bytesLess, Bool.or_eq_false_iff, Bool.and_eq_false_iff, decide_eq_false_iff_not, beq_eq_false_iff_ne, ne_eq, List.cons.injEq, not_and, Bool.or_eq_true, Bool.and_eq_true, decide_eq_true_eq, beq_iff_eq] at h ⊢
      obtain ⟨⟨h1, h2⟩, h3⟩ := h
      by_cases he : x = y
      · subst he
        refine .inr ⟨rfl, ih ?_⟩
        have h4 := h3 rfl
        rcases h2 with h2 | h2
        · exact absurd rfl h2
        · simp [h2, h4]
      · refine .inl ?_
        rcases UInt8.lt_or_eq_of_le (UInt8.not_lt.1 h1) with h | h
        · exact h
        · exact absurd h.symm he

/-- the paths of the files rise -/
def Rise (fs : List SPathLines) : Prop := ∀ (i j : Nat) (hi : i < fs.length) (hj : j < fs.length), i < j → Op.bytesLess fs[i].Path fs[j].Path = true
theorem rise_of {fs : List SPathLines} (h : ∀ (i : Nat) (hi : i + 1 < fs.length), Op.bytesLess (fs[i]'(by omega)).Path fs[i + 1].Path = true) : Rise fs := by
  intro i j hi hj hij
  induction j with
  | zero => omega
  | succ j ih =>
    by_cases he : i = j
    · subst he; exact h i hj
    · exact less_trans (ih (by omega) (by omega)) (h j hj)
theorem treeV_rise (t : SFiles) (hl : t.Files.length ≤ 24) (hf : ∀ f ∈ t.Files, f.Path.length < big) : ∀ (m i : Nat), t.Files.length - i < m → treepatch_Validate_l1 200 t m (i : Int) = some ⟨0, 0⟩ →
    ∀ (j : Nat) (hj : j + 1 < t.Files.length), i ≤ j + 1 → Op.bytesLess (t.Files[j]'(by omega)).Path t.Files[j + 1].Path = true := by
  intro m
  induction m with
  | zero => intro i h; omega
  | succ m ih =>
    intro i h h0 j hj hij
    rw [treepatch_Validate_l1] at h0
    unfold treepatch_ValidPath at h0
    have hi : i < t.Files.length := by omega
    rw [if_pos (lt_dec hi), gidx_nat, getElem?_lt hi, bsome, bsome] at h0
    have tail : ∀ b : Bool, treepatch_Validate_j1 200 t (i : Int) (treepatch_Validate_l1 200 t m) t.Files[i] b = some ⟨0, 0⟩ → b = false ∧ treepatch_Validate_l1 200 t m ((i + 1 : Nat) : Int) = some ⟨0, 0⟩ := by
      intro b hb
      unfold treepatch_Validate_j1 at hb
      cases b with
      | true =>
        rw [if_pos rfl] at hb
        have := congrArg SCodeIndex.Code (Option.some.inj hb)
        simp at this
      | false =>
        refine ⟨rfl, ?_⟩
        rw [if_neg (by simp), gcut_take (by omega), bsome] at hb
        obtain ⟨r1, h1⟩ := clash_l 200 (t.Files.take i) t.Files[i].Path (-1) (by simp; omega) (hf _ (List.getElem_mem hi)) (fun f h => hf f (List.mem_of_mem_take h)) 200 0 (by simp; omega)
        have h1' : treepatch_Clash 200 (t.Files.take i) t.Files[i].Path (-1) = some r1 := h1
        rw [h1', bsome] at hb
        cases r1 with
        | true =>
          rw [if_pos rfl] at hb
          have := congrArg SCodeIndex.Code (Option.some.inj hb)
          simp at this
        | false =>
          rw [if_neg (by simp)] at hb
          obtain ⟨r2, h2, h3⟩ := linesSecond t.Files[i].Lines i
          rw [h2, bsome] at hb
          rcases h3 with rfl | h3
          · rw [if_neg fault_none, gadd_nat (by omega), bsome] at hb
            exact hb
          · rw [if_pos (fault_ne h3)] at hb
            have := congrArg SCodeIndex.Code (Option.some.inj hb)
            exact absurd this h3
    by_cases hv : libValidPath t.Files[i].Path = true
    · rw [if_neg (by simp [hv])] at h0
      by_cases hp : 0 < i
      · have e1 : ((i : Int) - 1) = ((i - 1 : Nat) : Int) := by omega
        rw [if_pos (by simp; omega), gsubI (by omega), bsome, e1, gidx_nat, getElem?_lt (by omega), bsome] at h0
        obtain ⟨h1, h2⟩ := tail _ h0
        by_cases he : i = j + 1
        · subst he
          exact less_total h1
        · exact ih (i + 1) (by omega) h2 j hj (by omega)
      · rw [if_neg (by simp; omega)] at h0
        obtain ⟨_, h2⟩ := tail _ h0
        exact ih (i + 1) (by omega) h2 j hj (by omega)
    · rw [if_pos (by simp [hv])] at h0
      have := congrArg SCodeIndex.Code (Option.some.inj h0)
      simp at this
theorem args_rise (a : SInputsOpsOutput) (t : SFiles) (hf : ∀ f ∈ t.Files, f.Path.length < big) (hv : sandbox_Validate 200 a = some ⟨0, 0⟩) (h : sandbox_Arguments 200 a t = some ⟨0, 0⟩) : t.Files.length ≤ 24 ∧ Rise t.Files := by
  unfold sandbox_Arguments treepatch_Second at h
  obtain ⟨q, h1, h2⟩ := treeV_ok t hf
  rw [hv, bsome, if_neg fault_none, h1, bsome] at h
  rcases h2 with rfl | h2
  · unfold treepatch_Validate at h1
    by_cases hl : 24 < t.Files.length
    · rw [if_pos (by simp; omega)] at h1
      have := congrArg SCodeIndex.Code (Option.some.inj h1)
      simp at this
    · rw [if_neg (by simp; omega)] at h1
      refine ⟨by omega, rise_of fun i hi => treeV_rise t (by omega) hf 200 0 (by omega) h1 i hi (by omega)⟩
  · rw [if_pos (fault_ne h2), bsome] at h
    have := congrArg SCodeIndex.Code (Option.some.inj h)
    exact absurd this h2

/-- where a file lies, by halves -/
theorem find_spec_l (fs : List SPathLines) (x : List UInt8) (hl : fs.length ≤ 24) (hr : Rise fs) : ∀ (m i j : Nat), i ≤ j → j ≤ fs.length → j - i < m → (∀ (p : Nat) (hp : p < fs.length), p < i → Op.bytesLess fs[p].Path x = true) → (∀ (p : Nat) (hp : p < fs.length), j ≤ p → Op.bytesLess fs[p].Path x = false) →
    ∃ (k : Nat) (b : Bool), treepatch_Find_l1 200 fs x m (i : Int) (j : Int) = some ((k : Int), b) ∧ (b = true → ∃ hk : k < fs.length, fs[k].Path = x) ∧ (b = false → ∀ f ∈ fs, f.Path ≠ x) := by
  intro m
  induction m with
  | zero => intro i j _ _ h; omega
  | succ m ih =>
    intro i j hij hj h hlo hhi
    rw [treepatch_Find_l1]
    by_cases hlt : i < j
    · have hmid : (i + j) / 2 < fs.length := by omega
      rw [if_pos (lt_dec hlt), gaddI (by omega), bsome]
      have e1 : (i : Int) + (j : Int) = ((i + j : Nat) : Int) := by omega
      rw [e1, half _ (by omega), gidx_nat, getElem?_lt hmid, bsome]
      unfold strings_Compare treepatch_Find_j5 libCompare
      rw [bsome, half _ (by omega)]
      by_cases hc : Lib.compareBytes fs[(i + j) / 2].Path x < 0
      · rw [if_pos (by simpa using hc), gadd_nat (by omega), bsome]
        refine ih ((i + j) / 2 + 1) j (by omega) hj (by omega) ?_ hhi
        intro p hp hpl
        have hm := (cmp_lt _ _).1 hc
        by_cases he : p = (i + j) / 2
        · subst he; exact hm
        · exact less_trans (hr p _ hp hmid (by omega)) hm
      · rw [if_neg (by simpa using hc)]
        refine ih i ((i + j) / 2) (by omega) (by omega) (by omega) hlo ?_
        intro p hp hpl
        have hm : Op.bytesLess fs[(i + j) / 2].Path x = false := by
          cases hb : Op.bytesLess fs[(i + j) / 2].Path x with
          | false => rfl
          | true => exact absurd ((cmp_lt _ _).2 hb) hc
        by_cases he : p = (i + j) / 2
        · subst he; exact hm
        · cases hb : Op.bytesLess fs[p].Path x with
          | false => rfl
          | true =>
            have := less_trans (hr _ p hmid hp (by omega)) hb
            rw [hm] at this; cases this
    · have hie : i = j := by omega
      subst hie
      rw [if_neg (nlt_dec hlt)]
      unfold treepatch_Find_j2 treepatch_Find_j4 treepatch_Find_j3 treepatch_Find_j1 strings_Compare libCompare
      have none_of : ∀ f ∈ fs, f.Path = x → ∃ hk : i < fs.length, fs[i].Path = x := by
        intro f hm he
        obtain ⟨p, hp, rfl⟩ := List.getElem_of_mem hm
        have h1 : ¬ p < i := fun hpi => by have := hlo p hp hpi; rw [he, less_irrefl] at this; cases this
        by_cases hpe : p = i
        · subst hpe; exact ⟨hp, he⟩
        · have h2 := hr i p (by omega) hp (by omega)
          have h3 := hhi i (by omega) (Nat.le_refl _)
          rw [he] at h2
          rw [h2] at h3; cases h3
      by_cases hil : i < fs.length
      · rw [if_pos (lt_dec hil), gidx_nat, getElem?_lt hil, bsome, bsome]
        refine ⟨i, _, rfl, ?_, ?_⟩
        · intro hb
          exact ⟨hil, (cmp_eq0 _ _).1 (by simpa using hb)⟩
        · intro hb f hm he
          obtain ⟨_, h2⟩ := none_of f hm he
          have : Lib.compareBytes fs[i].Path x = 0 := (cmp_eq0 _ _).2 h2
          simp [this] at hb
      · rw [if_neg (nlt_dec hil)]
        refine ⟨i, false, rfl, by simp, ?_⟩
        intro _ f hm he
        obtain ⟨h1, _⟩ := none_of f hm he
        exact absurd h1 hil
theorem find_spec (fs : List SPathLines) (x : List UInt8) (hl : fs.length ≤ 24) (hr : Rise fs) : ∃ (k : Nat) (b : Bool), treepatch_Find 200 fs x = some ((k : Int), b) ∧ (b = true → ∃ hk : k < fs.length, fs[k].Path = x) ∧ (b = false → ∀ f ∈ fs, f.Path ≠ x) :=
  find_spec_l fs x hl hr 200 0 fs.length (by omega) (by omega) (by omega) (fun p _ h => by omega) (fun p hp h => by omega)
theorem fileIn_l (t : SFiles) (x : List UInt8) (hl : t.Files.length ≤ 24) : ∀ (m i : Nat), t.Files.length - i < m →
    (∃ f ∈ t.Files.drop i, f.Path = x ∧ ref6_FileIn_l1 200 t x m (i : Int) = some (f.Lines, true)) ∨ ((∀ f ∈ t.Files.drop i, f.Path ≠ x) ∧ ref6_FileIn_l1 200 t x m (i : Int) = some ([], false)) := by
  intro m
  induction m with
  | zero => intro i h; omega
  | succ m ih =>
    intro i h
    rw [ref6_FileIn_l1]
    by_cases hi : i < t.Files.length
    · rw [if_pos (lt_dec hi), gidx_nat, getElem?_lt hi, bsome, List.drop_eq_getElem_cons hi]
      by_cases he : t.Files[i].Path = x
      · rw [if_pos (by simp [he])]
        exact .inl ⟨_, List.mem_cons_self, he, rfl⟩
      · rw [if_neg (by simp [he]), gadd_nat (by omega), bsome]
        rcases ih (i + 1) (by omega) with ⟨f, h1, h2⟩ | ⟨h1, h2⟩
        · exact .inl ⟨f, List.mem_cons_of_mem _ h1, h2⟩
        · refine .inr ⟨?_, h2⟩
          intro f hm
          rcases List.mem_cons.1 hm with rfl | hm
          · exact he
          · exact h1 f hm
    · rw [if_neg (nlt_dec hi), List.drop_eq_nil_of_le (by omega)]
      exact .inr ⟨by simp, rfl⟩
theorem rise_uniq {fs : List SPathLines} (hr : Rise fs) {f g : SPathLines} (hf : f ∈ fs) (hg : g ∈ fs) (h : f.Path = g.Path) : f = g := by
  obtain ⟨i, hi, rfl⟩ := List.getElem_of_mem hf
  obtain ⟨j, hj, rfl⟩ := List.getElem_of_mem hg
  rcases Nat.lt_trichotomy i j with h1 | h1 | h1
  · have := hr i j hi hj h1; rw [h, less_irrefl] at this; cases this
  · subst h1; rfl
  · have := hr j i hj hi h1; rw [h, less_irrefl] at this; cases this
end Go.Proofs.YtadeoaglhaaimaaDoor
