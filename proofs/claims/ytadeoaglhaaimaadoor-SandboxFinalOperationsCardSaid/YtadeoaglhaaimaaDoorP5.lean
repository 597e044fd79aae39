/- The plain laws: the specification's faults are the program's: lines, trees, actions. -/
import Derived.Test.YtadeoaglhaaimaaDoorP4
namespace Go.Proofs.YtadeoaglhaaimaaDoor
open Go.PW Go

theorem indexByte_mem (s : List UInt8) (c : UInt8) : 0 ≤ Lib.indexByte s c ↔ c ∈ s := by
  induction s with
  | nil => simp [Lib.indexByte]
  | cons x xs ih =>
    have hg := Lib.indexByte_ge xs c
    by_cases hx : x = c
    · simp [Lib.indexByte, hx]
    · have hx' : c ≠ x := fun e => hx e.symm
      simp only [Lib.indexByte, beq_iff_eq, hx, if_false, List.mem_cons, hx', false_or, ← ih]
      by_cases h1 : Lib.indexByte xs c = -1
      · simp [h1]
      · simp only [h1, if_false]; omega
theorem index10 (s : List UInt8) : (decide (0 ≤ libIndexByte s 10)) = decide ((10 : UInt8) ∈ s) := by
  have : libIndexByte s 10 = Lib.indexByte s 10 := rfl
  rw [this]
  simp [indexByte_mem]
theorem ne10 (y : UInt8) : (decide ((y.toNat : Int) = 10)) = decide (y = 10) := by
  have h : ((y.toNat : Int) = 10) ↔ y = 10 := by
    constructor
    · intro e
      have : y.toNat = (10 : UInt8).toNat := by show y.toNat = 10; omega
      exact UInt8.toNat_inj.1 this
    · rintro rfl; rfl
  simp [h]

theorem lc_l2 (n k : Nat) (lp : Int → Option Int) (e : List UInt8) (hk : k < 100000) (he : e.length < 100000) : ∀ (m i : Nat), e.length - i < m →
    ref6_lineCode_l2 n (k : Int) lp e m (i : Int) = if (10 : UInt8) ∈ e.drop i then some 5 else lp ((k + 1 : Nat) : Int) := by
  intro m
  induction m with
  | zero => intro i h; omega
  | succ m ih =>
    intro i h
    rw [ref6_lineCode_l2]
    by_cases hi : i < e.length
    · rw [if_pos (lt_dec hi), gidx_nat, getElem?_lt hi, bsome, ne10, List.drop_eq_getElem_cons hi]
      by_cases h10 : e[i] = 10
      · rw [if_pos (by simp [h10]), if_pos (by simp [h10])]
      · rw [if_neg (by simp [h10]), gadd_nat (by omega), bsome, ih (i + 1) (by omega)]
        have : (10 : UInt8) ≠ e[i] := fun x => h10 x.symm
        simp only [List.mem_cons, this, false_or]
    · rw [if_neg (nlt_dec hi), List.drop_eq_nil_of_le (by omega), gadd_nat (by omega), bsome, if_neg (by simp)]
theorem lineCode_l (l : List (List UInt8)) (hl : l.length ≤ 120) : ∀ (m i : Nat), ref6_lineCode_l1 200 l m (i : Int) = (lines_Validate_l1 200 l m (i : Int)).map (·.Code) := by
  intro m
  induction m with
  | zero => intro i; rfl
  | succ m ih =>
    intro i
    rw [ref6_lineCode_l1, lines_Validate_l1]
    by_cases hi : i < l.length
    · rw [if_pos (lt_dec hi), if_pos (lt_dec hi), gidx_nat, getElem?_lt hi, bsome, bsome]
      by_cases h80 : 80 < l[i].length
      · rw [if_pos (by simp; omega), if_pos (by simp; omega)]; rfl
      · rw [if_neg (by simp; omega), if_neg (by simp; omega)]
        have hz := lc_l2 200 i (ref6_lineCode_l1 200 l m) l[i] (by omega) (by omega) 200 0 (by omega)
        have hz' : ref6_lineCode_l2 200 (i : Int) (ref6_lineCode_l1 200 l m) l[i] 200 0 = if (10 : UInt8) ∈ l[i] then some 5 else ref6_lineCode_l1 200 l m ((i + 1 : Nat) : Int) := by simpa using hz
        rw [hz']
        unfold strings_IndexByte
        rw [bsome, index10, gadd_nat (by omega), bsome, ih (i + 1)]
        by_cases h10 : (10 : UInt8) ∈ l[i]
        · rw [if_pos h10, if_pos (by simp [h10])]; rfl
        · rw [if_neg h10, if_neg (by simp [h10])]
    · rw [if_neg (nlt_dec hi), if_neg (nlt_dec hi)]; rfl
theorem lineCode_eq (l : List (List UInt8)) : ref6_lineCode 200 l = (lines_Validate 200 l).map (·.Code) := by
  unfold ref6_lineCode lines_Validate
  by_cases h : 120 < l.length
  · rw [if_pos (by simp; omega), if_pos (by simp; omega)]; rfl
  · rw [if_neg (by simp; omega), if_neg (by simp; omega)]
    exact lineCode_l l (by omega) 200 0

theorem lf_l2 (n k : Nat) (lp : Int → Option SCodeIndex) (e : List UInt8) (hk : k < 100000) (he : e.length < 100000) : ∀ (m i : Nat), e.length - i < m →
    ref1_LinesFault_l2 n (k : Int) lp e m (i : Int) = if (10 : UInt8) ∈ e.drop i then some ⟨5, k⟩ else lp ((k + 1 : Nat) : Int) := by
  intro m
  induction m with
  | zero => intro i h; omega
  | succ m ih =>
    intro i h
    rw [ref1_LinesFault_l2]
    unfold ref1_At
    by_cases hi : i < e.length
    · rw [if_pos (lt_dec hi), gidx_nat, getElem?_lt hi, bsome, ne10, List.drop_eq_getElem_cons hi]
      by_cases h10 : e[i] = 10
      · rw [if_pos (by simp [h10]), if_pos (by simp [h10])]; rfl
      · rw [if_neg (by simp [h10]), gadd_nat (by omega), bsome, ih (i + 1) (by omega)]
        have : (10 : UInt8) ≠ e[i] := fun x => h10 x.symm
        simp only [List.mem_cons, this, false_or]
    · rw [if_neg (nlt_dec hi), List.drop_eq_nil_of_le (by omega), gadd_nat (by omega), bsome, if_neg (by simp)]
theorem linesFault_l (l : List (List UInt8)) (hl : l.length ≤ 120) : ∀ (m i : Nat), ref1_LinesFault_l1 200 l m (i : Int) = lines_Validate_l1 200 l m (i : Int) := by
  intro m
  induction m with
  | zero => intro i; rfl
  | succ m ih =>
    intro i
    rw [ref1_LinesFault_l1, lines_Validate_l1]
    unfold ref1_At
    by_cases hi : i < l.length
    · rw [if_pos (lt_dec hi), if_pos (lt_dec hi), gidx_nat, getElem?_lt hi, bsome, bsome, bsome]
      by_cases h80 : 80 < l[i].length
      · rw [if_pos (by simp; omega), if_pos (by simp; omega)]
      · rw [if_neg (by simp; omega), if_neg (by simp; omega)]
        have hz := lf_l2 200 i (ref1_LinesFault_l1 200 l m) l[i] (by omega) (by omega) 200 0 (by omega)
        have hz' : ref1_LinesFault_l2 200 (i : Int) (ref1_LinesFault_l1 200 l m) l[i] 200 0 = if (10 : UInt8) ∈ l[i] then some ⟨5, i⟩ else ref1_LinesFault_l1 200 l m ((i + 1 : Nat) : Int) := by simpa using hz
        rw [hz']
        unfold strings_IndexByte
        rw [bsome, index10, gadd_nat (by omega), bsome, ih (i + 1)]
        by_cases h10 : (10 : UInt8) ∈ l[i]
        · rw [if_pos h10, if_pos (by simp [h10])]
        · rw [if_neg h10, if_neg (by simp [h10])]
    · rw [if_neg (nlt_dec hi), if_neg (nlt_dec hi)]
theorem linesFault_eq (l : List (List UInt8)) : ref1_LinesFault 200 l = lines_Validate 200 l := by
  unfold ref1_LinesFault lines_Validate ref1_At
  by_cases h : 120 < l.length
  · rw [if_pos (by simp; omega), if_pos (by simp; omega)]; rfl
  · rw [if_neg (by simp; omega), if_neg (by simp; omega)]
    exact linesFault_l l (by omega) 200 0

/-! ### related paths -/
def Rel (a b : List UInt8) : Prop := a = b ∨ (b ++ [47]) <+: a ∨ (a ++ [47]) <+: b
instance (a b : List UInt8) : Decidable (Rel a b) := by unfold Rel; infer_instance
theorem Rel.symm {a b : List UInt8} : Rel a b ↔ Rel b a := by unfold Rel; constructor <;> rintro (h | h | h) <;> simp [h]
theorem hasPrefix_eq (n : Nat) (a p : List UInt8) : strings_HasPrefix n a p = some (decide (p <+: a)) := by
  unfold strings_HasPrefix internal_stringslite_HasPrefix internal_stringslite_HasPrefix_j1
  by_cases h : p.length ≤ a.length
  · rw [if_pos (by simp; omega), gcut_take h, bsome, bsome]
    congr 1
    rw [decide_eq_decide, List.prefix_iff_eq_take]
    exact eq_comm
  · rw [if_neg (by simp; omega), bsome]
    congr 1
    symm
    rw [decide_eq_false_iff_not]
    intro hp
    exact h hp.length_le
theorem related_eq (n : Nat) (a b : List UInt8) (ha : a.length < big) (hb : b.length < big) : treepatch_Related n a b = some (decide (Rel a b)) := by
  unfold treepatch_Related treepatch_Related_j1 Rel
  by_cases h : a = b
  · rw [if_pos (by simp [h])]; simp [h]
  · rw [if_neg (by simp [h])]
    have g1 : gcat b [47] = some (b ++ [47]) := by unfold gcat; rw [if_pos (by simp; omega)]
    have g2 : gcat a [47] = some (a ++ [47]) := by unfold gcat; rw [if_pos (by simp; omega)]
    rw [g1, bsome, hasPrefix_eq, bsome, g2, bsome, hasPrefix_eq, bsome]
    by_cases h1 : (b ++ [47]) <+: a
    · rw [if_pos (by simp [h1])]; simp [h1]
    · rw [if_neg (by simp [h1])]; simp [h, h1]
theorem rel_core (n : Nat) (a b : List UInt8) (hl : a.length ≤ b.length) : ((gcut b 0 (a.length : Int)).bind fun s3 => if (decide (s3 = a)) = true then if (decide ((a.length : Int) = (b.length : Int))) = true then ref2_Related_j1 n true else (gidx b (a.length : Int)).bind fun y4 => ref2_Related_j1 n (decide ((y4.toNat : Int) = 47)) else ref2_Related_j1 n false) = some (decide (Rel a b)) := by
  unfold ref2_Related_j1 Rel
  rw [gcut_take hl, bsome]
  have hno : ¬ (b ++ [47]) <+: a := fun h => by have := h.length_le; simp at this; omega
  by_cases ht : b.take a.length = a
  · rw [if_pos (by simp [ht])]
    by_cases he : a.length = b.length
    · rw [if_pos (by simp [he])]
      have : a = b := by rw [he, List.take_length] at ht; exact ht.symm
      simp [this]
    · rw [if_neg (by simp; omega), gidx_nat, getElem?_lt (show a.length < b.length by omega), bsome]
      have hne : a ≠ b := fun e => he (by rw [e])
      have hp : (a ++ [47]) <+: b ↔ b[a.length]'(by omega) = 47 := by
        rw [List.prefix_iff_eq_take]
        have : b.take (a ++ [47]).length = b.take a.length ++ [b[a.length]'(by omega)] := by
          have : (a ++ [(47 : UInt8)]).length = a.length + 1 := by simp
          rw [this, List.take_add_one, getElem?_lt (show a.length < b.length by omega)]
          rfl
        rw [this, ht]
        simp only [List.append_cancel_left_eq, List.cons.injEq, and_true]
        exact eq_comm
      have hq : ((b[a.length]'(by omega)).toNat : Int) = 47 ↔ b[a.length]'(by omega) = 47 := by
        constructor
        · intro e
          exact UInt8.toNat_inj.1 (show _ = (47 : UInt8).toNat by show _ = 47; omega)
        · intro e; rw [e]; rfl
      simp [hne, hno, hp, hq]
  · rw [if_neg (by simp [ht])]
    have hne : a ≠ b := fun e => ht (by rw [e, List.take_length])
    have hp : ¬ (a ++ [47]) <+: b := fun h => ht (by
      obtain ⟨s, hs⟩ := h
      rw [← hs]; simp)
    simp [hne, hno, hp]
theorem related2_eq (a b : List UInt8) : ref2_Related 200 a b = some (decide (Rel a b)) := by
  rw [ref2_Related]
  by_cases h : b.length < a.length
  · rw [if_pos (lt_dec h), ref2_Related, if_neg (nlt_dec (by omega)), rel_core 198 b a (by omega), bsome]
    congr 1
    rw [decide_eq_decide]
    exact Rel.symm
  · rw [if_neg (nlt_dec h)]
    exact rel_core 199 a b (by omega)
end Go.Proofs.YtadeoaglhaaimaaDoor
