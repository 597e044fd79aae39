/- The plain laws: what the functions hand back is there, and what it says. -/
import Derived.Test.YtlkknmhhefjmjaaGreatDoorD
import Derived.Test.YtlkknmhhefjmjaaGreatDoorPwPlain
set_option linter.unusedVariables false
set_option linter.unusedSimpArgs false
namespace Go.Proofs.YtlkknmhhefjmjaaGreatDoor
open Go.PW Go
theorem lt_dec {i : Nat} {k : Nat} (h : i < k) : (decide ((i : Int) < (k : Int))) = true := by simp; omega
theorem nlt_dec {i : Nat} {k : Nat} (h : ¬ i < k) : ¬ (decide ((i : Int) < (k : Int))) = true := by simp; omega
theorem index_l (n : Nat) (l : List (List UInt8)) (x : List UInt8) (hl : l.length < 100000) : ∀ (m i : Nat), l.length - i < m → ∃ r, slices_Index_string_l1 n l x m (i : Int) = some r ∧ (0 ≤ r ↔ x ∈ l.drop i) := by
 intro m
 induction m with
 | zero => intro i h; omega
 | succ m ih =>
  intro i h
  rw [slices_Index_string_l1]
  by_cases hi : i < l.length
  ·rw [if_pos (lt_dec hi), gidx_nat, getElem?_lt hi, bsome]
   by_cases he : x = l[i]
   ·rw [if_pos (by simp [he])]
    refine ⟨_, rfl, ?_⟩
    rw [List.drop_eq_getElem_cons hi]
    simp only [List.mem_cons, he, true_or, iff_true]
    omega
   ·rw [if_neg (by simp [he]), gadd_nat (by omega), bsome]
    obtain ⟨r, h1, h2⟩ := ih (i + 1) (by omega)
    refine ⟨r, h1, ?_⟩
    rw [h2, List.drop_eq_getElem_cons hi]
    simp only [List.mem_cons, he, false_or]
  ·rw [if_neg (nlt_dec hi)]
   refine ⟨_, rfl, ?_⟩
   rw [List.drop_eq_nil_of_le (by omega)]
   simp
theorem contains_eq (l : List (List UInt8)) (x : List UInt8) (hl : l.length < 200) : slices_Contains_string 200 l x = some (decide (x ∈ l)) := by
 obtain ⟨r, h1, h2⟩ := index_l 200 l x (by omega) 200 0 (by omega)
 have h1' : slices_Index_string_l1 200 l x 200 0 = some r := h1
 unfold slices_Contains_string slices_Index_string
 rw [h1', bsome]
 simp only [List.drop_zero] at h2
 simp [h2]
def Fine (r : SCodeIndex) : Prop := r = ⟨0, 0⟩ ∨ r.Code ≠ 0
theorem Fine.none : Fine ⟨0, 0⟩ := .inl rfl
theorem fault_ne {r : SCodeIndex} (h : r.Code ≠ 0) : ((r.Code == 0 && (r.Index == 0 && true)) != true) = true := by simp [h]
theorem fault_none : ¬ (((⟨0, 0⟩ : SCodeIndex).Code == 0 && ((⟨0, 0⟩ : SCodeIndex).Index == 0 && true)) != true) = true := by decide
theorem linesV_l (n : Nat) (l : List (List UInt8)) (hl : l.length < 100000) : ∀ (m i : Nat), l.length - i < m → ∃ r, lines_Validate_l1 n l m (i : Int) = some r ∧ Fine r := by
 intro m
 induction m with
 | zero => intro i h; omega
 | succ m ih =>
  intro i h
  rw [lines_Validate_l1]
  by_cases hi : i < l.length
  ·rw [if_pos (lt_dec hi), gidx_nat, getElem?_lt hi, bsome]
   split
   ·exact ⟨_, rfl, .inr (by simp)⟩
   ·unfold strings_IndexByte
    rw [bsome]
    split
    ·exact ⟨_, rfl, .inr (by simp)⟩
    ·rw [gadd_nat (by omega), bsome]
     exact ih (i + 1) (by omega)
  ·rw [if_neg (nlt_dec hi)]
   exact ⟨_, rfl, .none⟩
theorem linesV (l : List (List UInt8)) : ∃ r, lines_Validate 200 l = some r ∧ Fine r := by
 unfold lines_Validate
 split
 ·exact ⟨_, rfl, .inr (by simp)⟩
 ·rename_i h
  simp at h
  exact linesV_l 200 l (by omega) 200 0 (by omega)
theorem linesSecond (l : List (List UInt8)) (k : Int) : ∃ r, lines_Second 200 l k = some r ∧ Fine r := by
 obtain ⟨r, h1, h2⟩ := linesV l
 unfold lines_Second
 rw [h1, bsome]
 rcases h2 with rfl | h2
 ·rw [if_neg fault_none]; exact ⟨_, rfl, .none⟩
 ·rw [if_pos (fault_ne h2)]; exact ⟨_, rfl, .inr h2⟩
theorem prefix_ok (n : Nat) (a b : List UInt8) : ∃ r, strings_HasPrefix n a b = some r := by
 unfold strings_HasPrefix internal_stringslite_HasPrefix internal_stringslite_HasPrefix_j1
 split
 ·rename_i h
  simp at h
  rw [gcut_take h, bsome, bsome]
  exact ⟨_, rfl⟩
 ·exact ⟨_, rfl⟩
theorem related_ok (n : Nat) (a b : List UInt8) (ha : a.length < big) (hb : b.length < big) : ∃ r, treepatch_Related n a b = some r := by
 unfold treepatch_Related treepatch_Related_j1
 split
 ·exact ⟨_, rfl⟩
 ·obtain ⟨r1, h1⟩ := prefix_ok n a (b ++ [47])
  obtain ⟨r2, h2⟩ := prefix_ok n b (a ++ [47])
  have g1 : gcat b [47] = some (b ++ [47]) := by unfold gcat; rw [if_pos (by simp; omega)]
  have g2 : gcat a [47] = some (a ++ [47]) := by unfold gcat; rw [if_pos (by simp; omega)]
  rw [g1, bsome, h1, bsome, g2, bsome, h2, bsome]
  split <;> exact ⟨_, rfl⟩
theorem clash_l (n : Nat) (l : List SPathLines) (x : List UInt8) (k : Int) (hl : l.length < 100000) (hx : x.length < big) (hf : ∀ f ∈ l, f.Path.length < big) : ∀ (m i : Nat), l.length - i < m → ∃ r, treepatch_Clash_l1 n l x k m (i : Int) = some r := by
 intro m
 induction m with
 | zero => intro i h; omega
 | succ m ih =>
  intro i h
  rw [treepatch_Clash_l1]
  unfold treepatch_Clash_j1
  by_cases hi : i < l.length
  ·rw [if_pos (lt_dec hi), gidx_nat, getElem?_lt hi, bsome, gadd_nat (by omega), bsome]
   obtain ⟨r, hr⟩ := related_ok n l[i].Path x (hf _ (List.getElem_mem hi)) hx
   have hI := ih (i + 1) (by omega)
   split
   ·rw [hr, bsome]
    split
    ·exact ⟨_, rfl⟩
    ·exact hI
   ·rw [if_neg (by simp)]; exact hI
  ·rw [if_neg (nlt_dec hi)]; exact ⟨_, rfl⟩
theorem treeV_l (t : SFiles) (hl : t.Files.length ≤ 24) (hf : ∀ f ∈ t.Files, f.Path.length < big) : ∀ (m i : Nat), t.Files.length - i < m → ∃ r, treepatch_Validate_l1 200 t m (i : Int) = some r ∧ Fine r := by
 intro m
 induction m with
 | zero => intro i h; omega
 | succ m ih =>
  intro i h
  rw [treepatch_Validate_l1]
  by_cases hi : i < t.Files.length
  ·rw [if_pos (lt_dec hi), gidx_nat, getElem?_lt hi, bsome]
   unfold treepatch_ValidPath
   rw [bsome]
   have tail : ∀ b : Bool, ∃ r, treepatch_Validate_j1 200 t (i : Int) (treepatch_Validate_l1 200 t m) t.Files[i] b = some r ∧ Fine r := by
    intro b
    unfold treepatch_Validate_j1
    split
    ·exact ⟨_, rfl, .inr (by simp)⟩
    ·rw [gcut_take (by omega), bsome]
     obtain ⟨r1, h1⟩ := clash_l 200 (t.Files.take i) t.Files[i].Path (-1) (by simp; omega) (hf _ (List.getElem_mem hi)) (fun f h => hf f (List.mem_of_mem_take h)) 200 0 (by simp; omega)
     have h1' : treepatch_Clash 200 (t.Files.take i) t.Files[i].Path (-1) = some r1 := h1
     rw [h1', bsome]
     split
     ·exact ⟨_, rfl, .inr (by simp)⟩
     ·obtain ⟨r2, h2, h3⟩ := linesSecond t.Files[i].Lines i
      rw [h2, bsome]
      rcases h3 with rfl | h3
      ·rw [if_neg fault_none, gadd_nat (by omega), bsome]
       exact ih (i + 1) (by omega)
      ·rw [if_pos (fault_ne h3)]; exact ⟨_, rfl, .inr h3⟩
   split
   ·exact ⟨_, rfl, .inr (by simp)⟩
   ·split
    ·rename_i h0
     simp at h0
     rw [gsubI (by omega), bsome]
     have e1 : ((i : Int) - 1) = ((i - 1 : Nat) : Int) := by omega
     rw [e1, gidx_nat, getElem?_lt (by omega), bsome]
     exact tail _
    ·exact tail _
  ·rw [if_neg (nlt_dec hi)]; exact ⟨_, rfl, .none⟩
theorem second_ok (t : SFiles) (hf : ∀ f ∈ t.Files, f.Path.length < big) (k : Int) : ∃ r, treepatch_Second 200 t k = some r ∧ Fine r ∧ (r = ⟨0, 0⟩ → t.Files.length ≤ 24) := by
 unfold treepatch_Second treepatch_Validate
 split
 ·rw [bsome, if_pos (fault_ne (by decide))]
  exact ⟨_, rfl, .inr (by simp), fun h => by cases h⟩
 ·rename_i h
  simp at h
  obtain ⟨r, h1, h2⟩ := treeV_l t (by omega) hf 200 0 (by omega)
  have h1' : treepatch_Validate_l1 200 t 200 0 = some r := h1
  rw [h1', bsome]
  rcases h2 with rfl | h2
  ·rw [if_neg fault_none]; exact ⟨_, rfl, .none, fun _ => by omega⟩
  ·rw [if_pos (fault_ne h2)]; exact ⟨_, rfl, .inr h2, fun _ => by omega⟩
theorem checkOp_ok (o : SKindText) : ∃ r, sandbox_checkOp 200 o = some r := by
 obtain ⟨r, h1, _⟩ := linesV [o.Text]
 unfold sandbox_checkOp sandbox_checkOp_j2 sandbox_checkOp_j3 sandbox_checkOp_j1 treepatch_ValidPath
 simp only [bsome, h1]
 repeat' split
 all_goals exact ⟨_, rfl⟩
theorem validate_l2 (a : SInputsOpsOutput) (hl : a.Ops.length ≤ 16) : ∀ (m i : Nat), a.Ops.length - i < m → ∃ r, sandbox_Validate_l2 200 a m (i : Int) = some r ∧ Fine r := by
 intro m
 induction m with
 | zero => intro i h; omega
 | succ m ih =>
  intro i h
  rw [sandbox_Validate_l2]
  by_cases hi : i < a.Ops.length
  ·rw [if_pos (lt_dec hi), gidx_nat, getElem?_lt hi, bsome]
   obtain ⟨r, h1⟩ := checkOp_ok a.Ops[i]
   rw [h1, bsome]
   split
   ·rename_i hc
    rw [gsubI (by omega), bsome]
    exact ⟨_, rfl, .inr (by simpa using hc)⟩
   ·rw [gadd_nat (by omega), bsome]
    exact ih (i + 1) (by omega)
  ·rw [if_neg (nlt_dec hi)]; exact ⟨_, rfl, .none⟩
theorem validate_l1 (a : SInputsOpsOutput) (hl : a.Inputs.length ≤ 8) (ho : a.Ops.length ≤ 16) : ∀ (m i : Nat), a.Inputs.length - i < m → ∃ r, sandbox_Validate_l1 200 a m (i : Int) = some r ∧ Fine r := by
 intro m
 induction m with
 | zero => intro i h; omega
 | succ m ih =>
  intro i h
  rw [sandbox_Validate_l1]
  unfold treepatch_ValidPath
  by_cases hi : i < a.Inputs.length
  ·rw [if_pos (lt_dec hi), gidx_nat, getElem?_lt hi, bsome, bsome]
   have tail : ∀ b : Bool, ∃ r, sandbox_Validate_j2 200 (i : Int) (sandbox_Validate_l1 200 a m) b = some r ∧ Fine r := by
    intro b
    unfold sandbox_Validate_j2
    split
    ·exact ⟨_, rfl, .inr (by simp)⟩
    ·rw [gadd_nat (by omega), bsome]
     exact ih (i + 1) (by omega)
   split
   ·exact ⟨_, rfl, .inr (by simp)⟩
   ·split
    ·rename_i h0
     simp at h0
     rw [gsubI (by omega), bsome]
     have e1 : ((i : Int) - 1) = ((i - 1 : Nat) : Int) := by omega
     rw [e1, gidx_nat, getElem?_lt (by omega), bsome]
     exact tail _
    ·exact tail _
  ·rw [if_neg (nlt_dec hi), bsome]
   split
   ·exact ⟨_, rfl, .inr (by simp)⟩
   ·exact validate_l2 a ho 200 0 (by omega)
theorem validate_ok (a : SInputsOpsOutput) : ∃ r, sandbox_Validate 200 a = some r ∧ Fine r ∧ (r = ⟨0, 0⟩ → a.Inputs.length ≤ 8 ∧ a.Ops.length ≤ 16) := by
 unfold sandbox_Validate sandbox_Validate_j1
 by_cases h1 : 8 < a.Inputs.length
 ·rw [if_pos (by simp; omega), if_pos rfl]
  exact ⟨_, rfl, .inr (by decide), fun h => by cases h⟩
 ·rw [if_neg (by simp; omega)]
  by_cases h2 : 16 < a.Ops.length
  ·rw [if_pos (by simp; omega)]
   exact ⟨_, rfl, .inr (by decide), fun h => by cases h⟩
  ·rw [if_neg (by simp; omega)]
   obtain ⟨r, h3, h4⟩ := validate_l1 a (by omega) (by omega) 200 0 (by omega)
   exact ⟨r, h3, h4, fun _ => ⟨by omega, by omega⟩⟩
end Go.Proofs.YtlkknmhhefjmjaaGreatDoor
namespace Go.Proofs.YtlkknmhhefjmjaaGreatDoor
open Go.PW Go
theorem half (s : Nat) (h : s < 100) : IntKind.wrap .i64 (kshr .u64 (IntKind.wrap .u64 (s : Int)) 1) = ((s / 2 : Nat) : Int) := by
 have : ∀ k : Fin 100, IntKind.wrap .i64 (kshr .u64 (IntKind.wrap .u64 ((k.val : Nat) : Int)) 1) = ((k.val / 2 : Nat) : Int) := by decide
 exact this ⟨s, h⟩
theorem find_end (fs : List SPathLines) (x : List UInt8) (i : Nat) (hi : i ≤ fs.length) : ∃ b, treepatch_Find_j2 200 fs x (i : Int) = some ((i : Int), b) ∧ (b = true → i < fs.length) := by
 unfold treepatch_Find_j2 treepatch_Find_j4 treepatch_Find_j3 treepatch_Find_j1 strings_Compare
 by_cases h : i < fs.length
 ·rw [if_pos (lt_dec h), gidx_nat, getElem?_lt h, bsome, bsome]
  exact ⟨_, rfl, fun _ => h⟩
 ·rw [if_neg (nlt_dec h)]
  exact ⟨_, rfl, fun h => by cases h⟩
theorem find_l (fs : List SPathLines) (x : List UInt8) (hl : fs.length ≤ 24) : ∀ (m i j : Nat), i ≤ j → j ≤ fs.length → j - i < m → ∃ (k : Nat) (b : Bool), treepatch_Find_l1 200 fs x m (i : Int) (j : Int) = some ((k : Int), b) ∧ (b = true → k < fs.length) := by
 intro m
 induction m with
 | zero => intro i j _ _ h; omega
 | succ m ih =>
  intro i j hij hj h
  rw [treepatch_Find_l1]
  by_cases hlt : i < j
  ·rw [if_pos (lt_dec hlt), gaddI (by omega), bsome]
   have e1 : (i : Int) + (j : Int) = ((i + j : Nat) : Int) := by omega
   rw [e1, half _ (by omega), gidx_nat, getElem?_lt (show (i + j) / 2 < fs.length by omega), bsome]
   unfold strings_Compare treepatch_Find_j5
   rw [bsome]
   split
   ·rw [half _ (by omega), gadd_nat (by omega), bsome]
    exact ih ((i + j) / 2 + 1) j (by omega) hj (by omega)
   ·rw [half _ (by omega)]
    exact ih i ((i + j) / 2) (by omega) (by omega) (by omega)
  ·rw [if_neg (nlt_dec hlt)]
   obtain ⟨b, h1, h2⟩ := find_end fs x i (by omega)
   exact ⟨i, b, h1, h2⟩
theorem find_ok (fs : List SPathLines) (x : List UInt8) (hl : fs.length ≤ 24) : ∃ (k : Nat) (b : Bool), treepatch_Find 200 fs x = some ((k : Int), b) ∧ (b = true → k < fs.length) :=
 find_l fs x hl 200 0 fs.length (by omega) (by omega) (by omega)
theorem arguments_ok (a : SInputsOpsOutput) (t : SFiles) (hf : ∀ f ∈ t.Files, f.Path.length ≤ reachBytes) : ∃ r, sandbox_Arguments 200 a t = some r ∧ Fine r ∧ (r = ⟨0, 0⟩ → sandbox_Validate 200 a = some ⟨0, 0⟩ ∧ a.Inputs.length ≤ 8 ∧ a.Ops.length ≤ 16 ∧ t.Files.length ≤ 24) := by
 obtain ⟨r, h1, h2, h3⟩ := validate_ok a
 unfold sandbox_Arguments
 rw [h1, bsome]
 rcases h2 with rfl | h2
 ·rw [if_neg fault_none]
  obtain ⟨r2, h4, h5, h6⟩ := second_ok t (fun f h => by have := hf f h; unfold reachBytes at this; unfold big; omega) (-20)
  rw [h4, bsome]
  exact ⟨r2, rfl, h5, fun e => ⟨rfl, (h3 rfl).1, (h3 rfl).2, h6 e⟩⟩
 ·rw [if_pos (fault_ne h2)]
  exact ⟨r, rfl, .inr h2, fun e => by subst e; exact absurd rfl h2⟩
end Go.Proofs.YtlkknmhhefjmjaaGreatDoor
namespace Go.Proofs.YtlkknmhhefjmjaaGreatDoor
open Go.PW Go
theorem gcut_nat {α : Type} {l : List α} {i j : Nat} (h : i ≤ j) (h2 : j ≤ l.length) : gcut l (i : Int) (j : Int) = some ((l.take j).drop i) := by
 unfold gcut
 rw [if_pos ⟨by omega, by omega, by omega⟩]
 rfl
end Go.Proofs.YtlkknmhhefjmjaaGreatDoor
namespace Go.Proofs.YtlkknmhhefjmjaaGreatDoor
open Go.PW Go
theorem cutAt_app (c : UInt8) (u v : List UInt8) : cutAt c (u ++ c :: v) = cutAt c u ++ cutAt c v := by
 induction u with
 | nil => simp [cutAt]
 | cons x u ih =>
  simp only [List.cons_append, cutAt]
  by_cases h : x = c
  ·simp [h, ih]
  ·simp only [h, if_false, ih]
   have hne := cutAt_ne c u
   cases hc : cutAt c u with
   | nil => exact absurd hc hne
   | cons p r => simp
theorem cutAt_free (c : UInt8) (v : List UInt8) (h : c ∉ v) : cutAt c v = [v] := by
 induction v with
 | nil => rfl
 | cons x v ih =>
  simp only [List.mem_cons, not_or] at h
  have hx : x ≠ c := fun e => h.1 e.symm
  simp [cutAt, hx, ih h.2]
theorem cutAt_mem (c : UInt8) (v : List UInt8) (x : UInt8) (hx : x ∈ v) (hc : x ≠ c) : ∃ p ∈ cutAt c v, x ∈ p := by
 induction v with
 | nil => cases hx
 | cons y v ih =>
  simp only [cutAt]
  have hne := cutAt_ne c v
  rcases List.mem_cons.1 hx with rfl | hx
  ·rw [if_neg hc]
   cases hv : cutAt c v with
   | nil => exact ⟨[x], by simp, by simp⟩
   | cons p r => exact ⟨x :: p, by simp, by simp⟩
  ·obtain ⟨p, hp, hxp⟩ := ih hx
   by_cases hy : y = c
   ·rw [if_pos hy]; exact ⟨p, by simp [hp], hxp⟩
   ·rw [if_neg hy]
    cases hv : cutAt c v with
    | nil => exact absurd hv hne
    | cons q r =>
     rw [hv, List.mem_cons] at hp
     rcases hp with rfl | hp
     ·exact ⟨y :: p, by simp, by simp [hxp]⟩
     ·exact ⟨p, by simp [hp], hxp⟩
theorem pathByte_eq (n : Nat) (a : Int) : ref2_pathByte n a = some (libLetterI a) := by
 unfold ref2_pathByte ref2_pathByte_j1 libLetterI
 simp only [decide_eq_true_eq]
 by_cases h1 : 97 ≤ a <;> by_cases h2 : a ≤ 122 <;> by_cases h3 : 65 ≤ a <;> by_cases h4 : a ≤ 90 <;> by_cases h5 : 48 ≤ a <;> by_cases h6 : a ≤ 57 <;> simp only [h1, h2, h3, h4, h5, h6, if_true, if_false, decide_true, decide_false, Bool.and_true, Bool.and_false, Bool.true_and, Bool.false_and, Bool.or_true, Bool.true_or, Bool.or_false, Bool.false_or] <;>
  (by_cases h7 : a = 46 <;> by_cases h8 : a = 95 <;> first | (simp [h7, h8]; done) | (rw [show (a == 46) = false from by simpa using h7, show (a == 95) = false from by simpa using h8]; simp only [h7, h8, if_false, Bool.false_or]; rfl))
def badPart (p : List UInt8) : Bool := p == [] || p == [46] || p == [46, 46]
theorem libPart_letters {p : List UInt8} (h : p.all libLetter = true) : libPart p = !badPart p := by
 simp [libPart, badPart, h]
theorem pv_tail (n : Nat) (v : List UInt8) (x3 : Int) (lp : Int → Int → Option Bool) :
  (if (decide (v = ([] : List UInt8))) = true then ref2_PathValid_j3 n x3 lp true else if (decide (v = ([46] : List UInt8))) = true then ref2_PathValid_j3 n x3 lp true else ref2_PathValid_j3 n x3 lp (decide (v = ([46, 46] : List UInt8)))) =
  if badPart v = true then some false else ref2_PathValid_j1 n x3 lp x3 := by
 unfold ref2_PathValid_j3 badPart
 by_cases h1 : v = []
 ·simp [h1]
 ·by_cases h2 : v = [46]
  ·simp [h2]
  ·by_cases h3 : v = [46, 46]
   ·simp [h3]
   ·simp [h1, h2, h3]
theorem pv_l (s : List UInt8) (hs : s.length ≤ 60) : ∀ (m j e : Nat), j ≤ e → e ≤ s.length → j + 1 < m → (∀ x ∈ (s.take e).drop j, x ≠ 47 ∧ libLetter x = true) →
  ref2_PathValid_l1 200 s m (e : Int) ((j : Int) - 1) = some ((cutAt 47 (s.take e)).all libPart) := by
 intro m
 induction m with
 | zero => intro j e _ _ h; omega
 | succ m ih =>
  intro j e hje he hm hall
  rw [ref2_PathValid_l1]
  unfold ref2_PathValid_j2
  rw [if_pos (by simp; omega)]
  have hlet : ((s.take e).drop j).all libLetter = true := List.all_eq_true.2 fun x hx => (hall x hx).2
  have hfree : (47 : UInt8) ∉ (s.take e).drop j := fun hx => (hall _ hx).1 rfl
  have hcut : gcut s (j : Int) (e : Int) = some ((s.take e).drop j) := gcut_nat hje he
  by_cases hj : 1 ≤ j
  ·have hjl : j - 1 < s.length := by omega
   have e1 : (j : Int) - 1 = ((j - 1 : Nat) : Int) := by omega
   have hdrop : (s.take e).drop (j - 1) = s[j - 1] :: (s.take e).drop j := by
    have hl : j - 1 < (s.take e).length := by simp; omega
    rw [List.drop_eq_getElem_cons hl]
    have : j - 1 + 1 = j := by omega
    simp [this]
   rw [if_pos (by simp; omega), e1, gidx_nat, getElem?_lt hjl, bsome]
   by_cases hy : s[j - 1] = 47
   ·rw [if_neg (by simp [hy])]
    have e2 : ((j - 1 : Nat) : Int) + 1 = (j : Int) := by omega
    rw [gaddI (by omega), bsome, e2, hcut, bsome, pv_tail]
    have hsplit : s.take e = s.take (j - 1) ++ 47 :: (s.take e).drop j := by
     have h1 : s.take e = (s.take e).take (j - 1) ++ (s.take e).drop (j - 1) := (List.take_append_drop _ _).symm
     rw [hdrop, hy, List.take_take, Nat.min_eq_left (by omega)] at h1
     exact h1
    have hR : (cutAt 47 (s.take e)).all libPart = ((cutAt 47 (s.take (j - 1))).all libPart && !badPart ((s.take e).drop j)) := by
     rw [hsplit, cutAt_app, List.all_append, ← hsplit, cutAt_free 47 _ hfree]
     simp [libPart_letters hlet]
    rw [hR]
    by_cases hb : badPart ((s.take e).drop j) = true
    ·rw [if_pos hb, hb]; simp
    ·rw [if_neg hb]
     unfold ref2_PathValid_j1
     rw [gsubI (by omega), bsome]
     have := ih (j - 1) (j - 1) (Nat.le_refl _) (by omega) (by omega) (by intro x hx; rw [List.drop_eq_nil_of_le (by simp; omega)] at hx; cases hx)
     rw [this]
     simp [hb]
   ·have hyI : ((s[j - 1].toNat : Int) ≠ 47) := by
     intro e; apply hy
     have : s[j - 1].toNat = 47 := by omega
     exact UInt8.toNat_inj.1 this
    rw [if_pos (by simpa using hyI), bsome, pathByte_eq, bsome]
    by_cases hl : libLetter s[j - 1] = true
    ·have hl' : libLetterI (s[j - 1].toNat : Int) = true := hl
     rw [if_neg (by simp [hl'])]
     unfold ref2_PathValid_j1
     rw [gsubI (by omega), bsome]
     refine ih (j - 1) e (by omega) he (by omega) ?_
     intro x hx
     rw [hdrop, List.mem_cons] at hx
     rcases hx with rfl | hx
     ·exact ⟨hy, hl⟩
     ·exact hall x hx
    ·have hl' : libLetterI (s[j - 1].toNat : Int) = false := by simpa [libLetter] using hl
     rw [if_pos (by simp [hl'])]
     obtain ⟨p, hp, hxp⟩ := cutAt_mem 47 (s.take e) s[j - 1] (by
      have : s[j - 1] ∈ (s.take e).drop (j - 1) := by rw [hdrop]; simp
      exact List.mem_of_mem_drop this) hy
     have : (cutAt 47 (s.take e)).all libPart = false := by
      rw [List.all_eq_false]
      refine ⟨p, hp, ?_⟩
      have : p.all libLetter = false := by rw [List.all_eq_false]; exact ⟨_, hxp, by simpa using hl⟩
      simp [libPart, this]
     rw [this]
  ·have hj0 : j = 0 := by omega
   subst hj0
   rw [if_neg (by simp), if_neg (by simp)]
   have e2 : gadd (((0 : Nat) : Int) - 1) 1 = some ((0 : Nat) : Int) := by decide
   rw [e2, bsome, hcut, bsome, pv_tail]
   simp only [List.drop_zero] at hfree hlet ⊢
   rw [cutAt_free 47 _ hfree]
   by_cases hb : badPart (s.take e) = true
   ·rw [if_pos hb]; simp [libPart_letters hlet, hb]
   ·rw [if_neg hb]
    unfold ref2_PathValid_j1
    have e3 : gsub (((0 : Nat) : Int) - 1) 1 = some (-2) := by decide
    rw [e3, bsome]
    obtain ⟨m, rfl⟩ : ∃ m', m = m' + 1 := ⟨m - 1, by omega⟩
    rw [ref2_PathValid_l1, if_neg (by decide)]
    simp [libPart_letters hlet, hb]
theorem pathValid_eq (s : List UInt8) : ref2_PathValid 200 s = some (libValidPath s) := by
 unfold ref2_PathValid libValidPath
 by_cases h : 60 < s.length
 ·rw [if_pos (by simp; omega)]
  have : ¬ s.length ≤ 60 := by omega
  simp [this]
 ·rw [if_neg (by simp; omega), gsubI (by omega), bsome]
  have := pv_l s (by omega) 200 s.length s.length (Nat.le_refl _) (Nat.le_refl _) (by omega) (by intro x hx; rw [List.drop_eq_nil_of_le (by simp)] at hx; cases hx)
  rw [this, List.take_length]
  have : s.length ≤ 60 := by omega
  simp [this]
end Go.Proofs.YtlkknmhhefjmjaaGreatDoor
namespace Go.Proofs.YtlkknmhhefjmjaaGreatDoor
open Go.PW Go
theorem indexByte_mem (s : List UInt8) (c : UInt8) : 0 ≤ Lib.indexByte s c ↔ c ∈ s := by
 induction s with
 | nil => simp [Lib.indexByte]
 | cons x xs ih =>
  have hg := Lib.indexByte_ge xs c
  by_cases hx : x = c
  ·simp [Lib.indexByte, hx]
  ·have hx' : c ≠ x := fun e => hx e.symm
   simp only [Lib.indexByte, beq_iff_eq, hx, if_false, List.mem_cons, hx', false_or, ← ih]
   by_cases h1 : Lib.indexByte xs c = -1
   ·simp [h1]
   ·simp only [h1, if_false]; omega
theorem index10 (s : List UInt8) : (decide (0 ≤ libIndexByte s 10)) = decide ((10 : UInt8) ∈ s) := by
 have : libIndexByte s 10 = Lib.indexByte s 10 := rfl
 rw [this]
 simp [indexByte_mem]
theorem ne10 (y : UInt8) : (decide ((y.toNat : Int) = 10)) = decide (y = 10) := by
 have h : ((y.toNat : Int) = 10) ↔ y = 10 := by
  constructor
  ·intro e
   have : y.toNat = (10 : UInt8).toNat := by show y.toNat = 10; omega
   exact UInt8.toNat_inj.1 this
  ·rintro rfl; rfl
 simp [h]
theorem lc_l2 (n k : Nat) (lp : Int → Option Int) (e : List UInt8) (hk : k < 100000) (he : e.length < 100000) : ∀ (m i : Nat), e.length - i < m →
  ref6_lineCode_l2 n (k : Int) lp e m (i : Int) = if (10 : UInt8) ∈ e.drop i then some 5 else lp ((k + 1 : Nat) : Int) := by
 intro m
 induction m with
 | zero => intro i h; omega
 | succ m ih =>
  intro i h
  rw [ref6_lineCode_l2]
  by_cases hi : i < e.length
  ·rw [if_pos (lt_dec hi), gidx_nat, getElem?_lt hi, bsome, ne10, List.drop_eq_getElem_cons hi]
   by_cases h10 : e[i] = 10
   ·rw [if_pos (by simp [h10]), if_pos (by simp [h10])]
   ·rw [if_neg (by simp [h10]), gadd_nat (by omega), bsome, ih (i + 1) (by omega)]
    have : (10 : UInt8) ≠ e[i] := fun x => h10 x.symm
    simp only [List.mem_cons, this, false_or]
  ·rw [if_neg (nlt_dec hi), List.drop_eq_nil_of_le (by omega), gadd_nat (by omega), bsome, if_neg (by simp)]
theorem lineCode_l (l : List (List UInt8)) (hl : l.length ≤ 120) : ∀ (m i : Nat), ref6_lineCode_l1 200 l m (i : Int) = (lines_Validate_l1 200 l m (i : Int)).map (·.Code) := by
 intro m
 induction m with
 | zero => intro i; rfl
 | succ m ih =>
  intro i
  rw [ref6_lineCode_l1, lines_Validate_l1]
  by_cases hi : i < l.length
  ·rw [if_pos (lt_dec hi), if_pos (lt_dec hi), gidx_nat, getElem?_lt hi, bsome, bsome]
   by_cases h80 : 80 < l[i].length
   ·rw [if_pos (by simp; omega), if_pos (by simp; omega)]; rfl
   ·rw [if_neg (by simp; omega), if_neg (by simp; omega)]
    have hz := lc_l2 200 i (ref6_lineCode_l1 200 l m) l[i] (by omega) (by omega) 200 0 (by omega)
    have hz' : ref6_lineCode_l2 200 (i : Int) (ref6_lineCode_l1 200 l m) l[i] 200 0 = if (10 : UInt8) ∈ l[i] then some 5 else ref6_lineCode_l1 200 l m ((i + 1 : Nat) : Int) := by simpa using hz
    rw [hz']
    unfold strings_IndexByte
    rw [bsome, index10, gadd_nat (by omega), bsome, ih (i + 1)]
    by_cases h10 : (10 : UInt8) ∈ l[i]
    ·rw [if_pos h10, if_pos (by simp [h10])]; rfl
    ·rw [if_neg h10, if_neg (by simp [h10])]
  ·rw [if_neg (nlt_dec hi), if_neg (nlt_dec hi)]; rfl
theorem lineCode_eq (l : List (List UInt8)) : ref6_lineCode 200 l = (lines_Validate 200 l).map (·.Code) := by
 unfold ref6_lineCode lines_Validate
 by_cases h : 120 < l.length
 ·rw [if_pos (by simp; omega), if_pos (by simp; omega)]; rfl
 ·rw [if_neg (by simp; omega), if_neg (by simp; omega)]
  exact lineCode_l l (by omega) 200 0
theorem lf_l2 (n k : Nat) (lp : Int → Option SCodeIndex) (e : List UInt8) (hk : k < 100000) (he : e.length < 100000) : ∀ (m i : Nat), e.length - i < m →
  ref1_LinesFault_l2 n (k : Int) lp e m (i : Int) = if (10 : UInt8) ∈ e.drop i then some ⟨5, k⟩ else lp ((k + 1 : Nat) : Int) := by
 intro m
 induction m with
 | zero => intro i h; omega
 | succ m ih =>
  intro i h
  rw [ref1_LinesFault_l2]
  unfold ref1_At
  by_cases hi : i < e.length
  ·rw [if_pos (lt_dec hi), gidx_nat, getElem?_lt hi, bsome, ne10, List.drop_eq_getElem_cons hi]
   by_cases h10 : e[i] = 10
   ·rw [if_pos (by simp [h10]), if_pos (by simp [h10])]; rfl
   ·rw [if_neg (by simp [h10]), gadd_nat (by omega), bsome, ih (i + 1) (by omega)]
    have : (10 : UInt8) ≠ e[i] := fun x => h10 x.symm
    simp only [List.mem_cons, this, false_or]
  ·rw [if_neg (nlt_dec hi), List.drop_eq_nil_of_le (by omega), gadd_nat (by omega), bsome, if_neg (by simp)]
theorem linesFault_l (l : List (List UInt8)) (hl : l.length ≤ 120) : ∀ (m i : Nat), ref1_LinesFault_l1 200 l m (i : Int) = lines_Validate_l1 200 l m (i : Int) := by
 intro m
 induction m with
 | zero => intro i; rfl
 | succ m ih =>
  intro i
  rw [ref1_LinesFault_l1, lines_Validate_l1]
  unfold ref1_At
  by_cases hi : i < l.length
  ·rw [if_pos (lt_dec hi), if_pos (lt_dec hi), gidx_nat, getElem?_lt hi, bsome, bsome, bsome]
   by_cases h80 : 80 < l[i].length
   ·rw [if_pos (by simp; omega), if_pos (by simp; omega)]
   ·rw [if_neg (by simp; omega), if_neg (by simp; omega)]
    have hz := lf_l2 200 i (ref1_LinesFault_l1 200 l m) l[i] (by omega) (by omega) 200 0 (by omega)
    have hz' : ref1_LinesFault_l2 200 (i : Int) (ref1_LinesFault_l1 200 l m) l[i] 200 0 = if (10 : UInt8) ∈ l[i] then some ⟨5, i⟩ else ref1_LinesFault_l1 200 l m ((i + 1 : Nat) : Int) := by simpa using hz
    rw [hz']
    unfold strings_IndexByte
    rw [bsome, index10, gadd_nat (by omega), bsome, ih (i + 1)]
    by_cases h10 : (10 : UInt8) ∈ l[i]
    ·rw [if_pos h10, if_pos (by simp [h10])]
    ·rw [if_neg h10, if_neg (by simp [h10])]
  ·rw [if_neg (nlt_dec hi), if_neg (nlt_dec hi)]
theorem linesFault_eq (l : List (List UInt8)) : ref1_LinesFault 200 l = lines_Validate 200 l := by
 unfold ref1_LinesFault lines_Validate ref1_At
 by_cases h : 120 < l.length
 ·rw [if_pos (by simp; omega), if_pos (by simp; omega)]; rfl
 ·rw [if_neg (by simp; omega), if_neg (by simp; omega)]
  exact linesFault_l l (by omega) 200 0
def Rel (a b : List UInt8) : Prop := a = b ∨ (b ++ [47]) <+: a ∨ (a ++ [47]) <+: b
instance (a b : List UInt8) : Decidable (Rel a b) := by unfold Rel; infer_instance
theorem Rel.symm {a b : List UInt8} : Rel a b ↔ Rel b a := by unfold Rel; constructor <;> rintro (h | h | h) <;> simp [h]
theorem hasPrefix_eq (n : Nat) (a p : List UInt8) : strings_HasPrefix n a p = some (decide (p <+: a)) := by
 unfold strings_HasPrefix internal_stringslite_HasPrefix internal_stringslite_HasPrefix_j1
 by_cases h : p.length ≤ a.length
 ·rw [if_pos (by simp; omega), gcut_take h, bsome, bsome]
  congr 1
  rw [decide_eq_decide, List.prefix_iff_eq_take]
  exact eq_comm
 ·rw [if_neg (by simp; omega), bsome]
  congr 1
  symm
  rw [decide_eq_false_iff_not]
  intro hp
  exact h hp.length_le
theorem related_eq (n : Nat) (a b : List UInt8) (ha : a.length < big) (hb : b.length < big) : treepatch_Related n a b = some (decide (Rel a b)) := by
 unfold treepatch_Related treepatch_Related_j1 Rel
 by_cases h : a = b
 ·rw [if_pos (by simp [h])]; simp [h]
 ·rw [if_neg (by simp [h])]
  have g1 : gcat b [47] = some (b ++ [47]) := by unfold gcat; rw [if_pos (by simp; omega)]
  have g2 : gcat a [47] = some (a ++ [47]) := by unfold gcat; rw [if_pos (by simp; omega)]
  rw [g1, bsome, hasPrefix_eq, bsome, g2, bsome, hasPrefix_eq, bsome]
  by_cases h1 : (b ++ [47]) <+: a
  ·rw [if_pos (by simp [h1])]; simp [h1]
  ·rw [if_neg (by simp [h1])]; simp [h, h1]
theorem rel_core (n : Nat) (a b : List UInt8) (hl : a.length ≤ b.length) : ((gcut b 0 (a.length : Int)).bind fun s3 => if (decide (s3 = a)) = true then if (decide ((a.length : Int) = (b.length : Int))) = true then ref2_Related_j1 n true else (gidx b (a.length : Int)).bind fun y4 => ref2_Related_j1 n (decide ((y4.toNat : Int) = 47)) else ref2_Related_j1 n false) = some (decide (Rel a b)) := by
 unfold ref2_Related_j1 Rel
 rw [gcut_take hl, bsome]
 have hno : ¬ (b ++ [47]) <+: a := fun h => by have := h.length_le; simp at this; omega
 by_cases ht : b.take a.length = a
 ·rw [if_pos (by simp [ht])]
  by_cases he : a.length = b.length
  ·rw [if_pos (by simp [he])]
   have : a = b := by rw [he, List.take_length] at ht; exact ht.symm
   simp [this]
  ·rw [if_neg (by simp; omega), gidx_nat, getElem?_lt (show a.length < b.length by omega), bsome]
   have hne : a ≠ b := fun e => he (by rw [e])
   have hp : (a ++ [47]) <+: b ↔ b[a.length]'(by omega) = 47 := by
    rw [List.prefix_iff_eq_take]
    have : b.take (a ++ [47]).length = b.take a.length ++ [b[a.length]'(by omega)] := by
     have : (a ++ [(47 : UInt8)]).length = a.length + 1 := by simp
     rw [this, List.take_add_one, getElem?_lt (show a.length < b.length by omega)]
     rfl
    rw [this, ht]
    simp only [List.append_cancel_left_eq, List.cons.injEq, and_true]
    exact eq_comm
   have hq : ((b[a.length]'(by omega)).toNat : Int) = 47 ↔ b[a.length]'(by omega) = 47 := by
    constructor
    ·intro e
     exact UInt8.toNat_inj.1 (show _ = (47 : UInt8).toNat by show _ = 47; omega)
    ·intro e; rw [e]; rfl
   simp [hne, hno, hp, hq]
 ·rw [if_neg (by simp [ht])]
  have hne : a ≠ b := fun e => ht (by rw [e, List.take_length])
  have hp : ¬ (a ++ [47]) <+: b := fun h => ht (by
   obtain ⟨s, hs⟩ := h
   rw [← hs]; simp)
  simp [hne, hno, hp]
theorem related2_eq (a b : List UInt8) : ref2_Related 200 a b = some (decide (Rel a b)) := by
 rw [ref2_Related]
 by_cases h : b.length < a.length
 ·rw [if_pos (lt_dec h), ref2_Related, if_neg (nlt_dec (by omega)), rel_core 198 b a (by omega), bsome]
  congr 1
  rw [decide_eq_decide]
  exact Rel.symm
 ·rw [if_neg (nlt_dec h)]
  exact rel_core 199 a b (by omega)
end Go.Proofs.YtlkknmhhefjmjaaGreatDoor
namespace Go.Proofs.YtlkknmhhefjmjaaGreatDoor
open Go.PW Go
theorem opCode_eq (o : SKindText) : ref6_opCode 200 o = sandbox_checkOp 200 o := by
 obtain ⟨r, h1, _⟩ := linesV [o.Text]
 have h2 : ref6_lineCode 200 [o.Text] = some r.Code := by rw [lineCode_eq, h1]; rfl
 unfold ref6_opCode sandbox_checkOp ref6_opCode_j1 ref6_opCode_j2 sandbox_checkOp_j2 sandbox_checkOp_j3 sandbox_checkOp_j1 treepatch_ValidPath
 rw [pathValid_eq]
 simp only [bsome, h1, h2]
 by_cases k1 : o.Kind = 1 <;> by_cases k2 : o.Kind = 2 <;> by_cases k3 : o.Kind = 3 <;> by_cases k4 : o.Kind = 4 <;> by_cases k5 : o.Kind = 5 <;> simp [k1, k2, k3, k4, k5]
theorem action_l2 (a : SInputsOpsOutput) (hl : a.Ops.length ≤ 16) : ∀ (m i : Nat), ref6_ActionFault_l2 200 a m (i : Int) = sandbox_Validate_l2 200 a m (i : Int) := by
 intro m
 induction m with
 | zero => intro i; rfl
 | succ m ih =>
  intro i
  rw [ref6_ActionFault_l2, sandbox_Validate_l2]
  unfold ref6_fault
  by_cases hi : i < a.Ops.length
  ·rw [if_pos (lt_dec hi), if_pos (lt_dec hi), gidx_nat, getElem?_lt hi]
   simp only [bsome, opCode_eq]
   obtain ⟨r, h1⟩ := checkOp_ok a.Ops[i]
   rw [h1]
   simp only [bsome, gsubI (show -9223372036854775808 ≤ (-3 : Int) - (i : Int) ∧ (-3 : Int) - (i : Int) < 9223372036854775808 by omega), gadd_nat (show i < 1000000 by omega), ih (i + 1)]
  ·rw [if_neg (nlt_dec hi), if_neg (nlt_dec hi)]
theorem action_l1 (a : SInputsOpsOutput) (hl : a.Inputs.length ≤ 8) (ho : a.Ops.length ≤ 16) : ∀ (m i : Nat), ref6_ActionFault_l1 200 a m (i : Int) = sandbox_Validate_l1 200 a m (i : Int) := by
 intro m
 induction m with
 | zero => intro i; rfl
 | succ m ih =>
  intro i
  rw [ref6_ActionFault_l1, sandbox_Validate_l1]
  unfold treepatch_ValidPath ref6_fault
  by_cases hi : i < a.Inputs.length
  ·rw [if_pos (lt_dec hi), if_pos (lt_dec hi), gidx_nat, getElem?_lt hi]
   have tail : ∀ b : Bool, ref6_ActionFault_j2 200 (i : Int) (ref6_ActionFault_l1 200 a m) b = sandbox_Validate_j2 200 (i : Int) (sandbox_Validate_l1 200 a m) b := by
    intro b
    unfold ref6_ActionFault_j2 sandbox_Validate_j2 ref6_fault
    simp only [bsome, gadd_nat (show i < 1000000 by omega), ih (i + 1)]
   simp only [bsome, pathValid_eq, tail]
  ·rw [if_neg (nlt_dec hi), if_neg (nlt_dec hi)]
   simp only [bsome, pathValid_eq]
   have := action_l2 a ho 200 0
   rw [show ref6_ActionFault_l2 200 a 200 0 = sandbox_Validate_l2 200 a 200 0 from this]
theorem action_eq (a : SInputsOpsOutput) : ref6_ActionFault 200 a = sandbox_Validate 200 a := by
 unfold ref6_ActionFault sandbox_Validate ref6_ActionFault_j1 sandbox_Validate_j1 ref6_fault
 by_cases h1 : 8 < a.Inputs.length
 ·have d1 : decide ((8 : Int) < (a.Inputs.length : Int)) = true := by simp; omega
  simp only [d1, bsome, ↓reduceIte]
 ·have d1 : decide ((8 : Int) < (a.Inputs.length : Int)) = false := by simp; omega
  by_cases h2 : 16 < a.Ops.length
  ·have d2 : decide ((16 : Int) < (a.Ops.length : Int)) = true := by simp; omega
   simp only [d1, d2, bsome, ↓reduceIte, Bool.false_eq_true]
  ·have d2 : decide ((16 : Int) < (a.Ops.length : Int)) = false := by simp; omega
   simp only [d1, d2, bsome, ↓reduceIte, Bool.false_eq_true]
   exact action_l1 a (by omega) (by omega) 200 0
theorem clash_eq (l : List SPathLines) (x : List UInt8) (hl : l.length < 100000) (hx : x.length < big) (hf : ∀ f ∈ l, f.Path.length < big) : ∀ (m i : Nat), l.length - i < m → treepatch_Clash_l1 200 l x (-1) m (i : Int) = some (decide (∃ f ∈ l.drop i, Rel f.Path x)) := by
 intro m
 induction m with
 | zero => intro i h; omega
 | succ m ih =>
  intro i h
  rw [treepatch_Clash_l1]
  unfold treepatch_Clash_j1
  by_cases hi : i < l.length
  ·rw [if_pos (lt_dec hi), gidx_nat, getElem?_lt hi, bsome, if_pos (by simp), related_eq _ _ _ (hf _ (List.getElem_mem hi)) hx, bsome, gadd_nat (by omega), bsome, ih (i + 1) (by omega)]
   by_cases hr : Rel l[i].Path x
   ·rw [if_pos (by simp [hr])]
    congr 1; symm; rw [decide_eq_true_eq]
    exact ⟨l[i], by rw [List.drop_eq_getElem_cons hi]; exact List.mem_cons_self, hr⟩
   ·rw [if_neg (by simp [hr])]
    congr 1; rw [decide_eq_decide, List.drop_eq_getElem_cons hi]
    constructor
    ·rintro ⟨f, hm, h2⟩; exact ⟨f, List.mem_cons_of_mem _ hm, h2⟩
    ·rintro ⟨f, hm, h2⟩
     rcases List.mem_cons.1 hm with rfl | hm
     ·exact absurd h2 hr
     ·exact ⟨f, hm, h2⟩
  ·rw [if_neg (nlt_dec hi), List.drop_eq_nil_of_le (by omega)]
   simp
theorem tf_l2 (t : SFiles) (k : Nat) (lp : Int → Option SCodeIndex) (e : SPathLines) (hl : t.Files.length ≤ 24) (hk : k ≤ t.Files.length) : ∀ (m j : Nat), k - j < m → j ≤ k →
  ref2_TreeFault_l2 200 t (k : Int) lp e m (j : Int) = if ∃ f ∈ (t.Files.take k).drop j, Rel f.Path e.Path then some ⟨7, k⟩ else ((ref1_LinesCode 200 e.Lines).bind fun r13 => if (decide (r13 ≠ 0)) = true then some ⟨r13, k⟩ else lp ((k + 1 : Nat) : Int)) := by
 intro m
 induction m with
 | zero => intro j h; omega
 | succ m ih =>
  intro j h hj
  rw [ref2_TreeFault_l2]
  unfold ref1_At
  by_cases hi : j < k
  ·have hjl : j < t.Files.length := by omega
   have hlt : j < (t.Files.take k).length := by simp; omega
   have hg : (t.Files.take k)[j] = t.Files[j] := by simp
   rw [if_pos (lt_dec hi), gidx_nat, getElem?_lt hjl, bsome, related2_eq, gadd_nat (by omega)]
   simp only [bsome]
   rw [ih (j + 1) (by omega) (by omega), List.drop_eq_getElem_cons hlt, hg]
   by_cases hr : Rel t.Files[j].Path e.Path
   ·rw [if_pos (by simp [hr]), if_pos ⟨_, List.mem_cons_self, hr⟩]
   ·rw [if_neg (by simp [hr])]
    by_cases hx : ∃ f ∈ (t.Files.take k).drop (j + 1), Rel f.Path e.Path
    ·obtain ⟨f, hm, h2⟩ := hx
     rw [if_pos ⟨f, hm, h2⟩, if_pos ⟨f, List.mem_cons_of_mem _ hm, h2⟩]
    ·rw [if_neg hx, if_neg]
     rintro ⟨f, hm, h2⟩
     rcases List.mem_cons.1 hm with rfl | hm
     ·exact hr h2
     ·exact hx ⟨f, hm, h2⟩
  ·rw [if_neg (nlt_dec hi), List.drop_eq_nil_of_le (by simp; omega), if_neg (by simp)]
   simp only [bsome, gadd_nat (show k < 1000000 by omega)]
theorem tree_l1 (t : SFiles) (hl : t.Files.length ≤ 24) (hf : ∀ f ∈ t.Files, f.Path.length < big) : ∀ (m i : Nat), ref2_TreeFault_l1 200 t m (i : Int) = treepatch_Validate_l1 200 t m (i : Int) := by
 intro m
 induction m with
 | zero => intro i; rfl
 | succ m ih =>
  intro i
  rw [ref2_TreeFault_l1, treepatch_Validate_l1]
  unfold treepatch_ValidPath ref1_At
  by_cases hi : i < t.Files.length
  ·rw [if_pos (lt_dec hi), if_pos (lt_dec hi), gidx_nat, getElem?_lt hi]
   have tail : ∀ b : Bool, ref2_TreeFault_j1 200 t (i : Int) (ref2_TreeFault_l1 200 t m) t.Files[i] b = treepatch_Validate_j1 200 t (i : Int) (treepatch_Validate_l1 200 t m) t.Files[i] b := by
    intro b
    unfold ref2_TreeFault_j1 treepatch_Validate_j1 ref1_At
    cases b with
    | true => rw [if_pos rfl, if_pos rfl, bsome]
    | false =>
     rw [if_neg (by simp), if_neg (by simp)]
     have h1 := tf_l2 t i (ref2_TreeFault_l1 200 t m) t.Files[i] hl (by omega) 200 0 (by omega) (by omega)
     have h2 := clash_eq (t.Files.take i) t.Files[i].Path (by simp; omega) (hf _ (List.getElem_mem hi)) (fun f h => hf f (List.mem_of_mem_take h)) 200 0 (by simp; omega)
     have h2' : treepatch_Clash 200 (t.Files.take i) t.Files[i].Path (-1) = some (decide (∃ f ∈ t.Files.take i, Rel f.Path t.Files[i].Path)) := by unfold treepatch_Clash; simpa using h2
     have h1' : ref2_TreeFault_l2 200 t (i : Int) (ref2_TreeFault_l1 200 t m) t.Files[i] 200 0 = _ := h1
     rw [h1', gcut_take (by omega), bsome, h2', bsome, List.drop_zero]
     by_cases hx : ∃ f ∈ t.Files.take i, Rel f.Path t.Files[i].Path
     ·rw [if_pos hx, if_pos (by simpa using hx)]
     ·rw [if_neg hx, if_neg (by simpa using hx)]
      obtain ⟨r, h3, h4⟩ := linesV t.Files[i].Lines
      unfold ref1_LinesCode lines_Second
      rw [linesFault_eq, h3, bsome, bsome, bsome]
      rcases h4 with rfl | h4
      ·rw [if_neg (by simp), if_neg fault_none, bsome, if_neg fault_none, gadd_nat (by omega), bsome]
       exact ih (i + 1)
      ·rw [if_pos (by simp [h4]), if_pos (fault_ne h4), bsome, if_pos (fault_ne (r := ⟨r.Code, (i : Int)⟩) h4)]
   simp only [bsome, pathValid_eq, tail]
  ·rw [if_neg (nlt_dec hi), if_neg (nlt_dec hi)]
theorem tree_eq (t : SFiles) (hf : ∀ f ∈ t.Files, f.Path.length < big) : ref2_TreeFault 200 t = treepatch_Validate 200 t := by
 unfold ref2_TreeFault treepatch_Validate ref1_At
 by_cases h : 24 < t.Files.length
 ·rw [if_pos (by simp; omega), if_pos (by simp; omega), bsome]
 ·rw [if_neg (by simp; omega), if_neg (by simp; omega)]
  exact tree_l1 t (by omega) hf 200 0
theorem treeV_ok (t : SFiles) (hf : ∀ f ∈ t.Files, f.Path.length < big) : ∃ r, treepatch_Validate 200 t = some r ∧ Fine r := by
 unfold treepatch_Validate
 split
 ·exact ⟨_, rfl, .inr (by simp)⟩
 ·rename_i h
  simp at h
  exact treeV_l t (by omega) hf 200 0 (by omega)
end Go.Proofs.YtlkknmhhefjmjaaGreatDoor
namespace Go.Proofs.YtlkknmhhefjmjaaGreatDoor
open Go.PW Go
end Go.Proofs.YtlkknmhhefjmjaaGreatDoor
namespace Go.Proofs.YtlkknmhhefjmjaaGreatDoor
open Go.PW Go
theorem cmp_lt (a b : List UInt8) : Lib.compareBytes a b < 0 ↔ Op.bytesLess a b = true := by
 induction a generalizing b with
 | nil => cases b <;> simp [Lib.compareBytes, Op.bytesLess]
 | cons x a ih =>
  cases b with
  | nil => simp [Lib.compareBytes, Op.bytesLess]
  | cons y b =>
   unfold Lib.compareBytes Op.bytesLess
   by_cases h1 : x < y
   ·simp [h1]
   ·by_cases h2 : y < x
    ·have : x ≠ y := fun e => by subst e; exact absurd h2 h1
     simp [h1, h2, this]
    ·have : x = y := UInt8.le_antisymm (UInt8.not_lt.1 h2) (UInt8.not_lt.1 h1)
     subst this
     simp [h1, ih]
theorem cmp_eq0 (a b : List UInt8) : Lib.compareBytes a b = 0 ↔ a = b := by
 induction a generalizing b with
 | nil => cases b <;> simp [Lib.compareBytes]
 | cons x a ih =>
  cases b with
  | nil => simp [Lib.compareBytes]
  | cons y b =>
   unfold Lib.compareBytes
   by_cases h1 : x < y
   ·have : x ≠ y := fun e => by subst e; exact absurd h1 (UInt8.lt_irrefl _)
    simp [h1, this]
   ·by_cases h2 : y < x
    ·have : x ≠ y := fun e => by subst e; exact absurd h2 h1
     simp [h1, h2, this]
    ·have : x = y := UInt8.le_antisymm (UInt8.not_lt.1 h2) (UInt8.not_lt.1 h1)
     subst this
     simp [h1, ih]
theorem less_trans {a b c : List UInt8} (h1 : Op.bytesLess a b = true) (h2 : Op.bytesLess b c = true) : Op.bytesLess a c = true := by
 induction a generalizing b c with
 | nil => cases b <;> cases c <;> simp_all [Op.bytesLess]
 | cons x a ih =>
  cases b with
  | nil => simp [Op.bytesLess] at h1
  | cons y b =>
   cases c with
   | nil => simp [Op.bytesLess] at h2
   | cons z c =>
    simp only [Op.bytesLess, Bool.or_eq_true, Bool.and_eq_true, decide_eq_true_eq, beq_iff_eq] at h1 h2 ⊢
    rcases h1 with h1 | ⟨h1, h1'⟩
    ·rcases h2 with h2 | ⟨h2, h2'⟩
     ·exact .inl (UInt8.lt_trans h1 h2)
     ·subst h2; exact .inl h1
    ·subst h1
     rcases h2 with h2 | ⟨h2, h2'⟩
     ·exact .inl h2
     ·exact .inr ⟨h2, ih h1' h2'⟩
theorem less_irrefl (a : List UInt8) : Op.bytesLess a a = false := by
 induction a with
 | nil => rfl
 | cons x a ih => simp [Op.bytesLess, ih]
theorem less_total {a b : List UInt8} (h : (Op.bytesLess a b || a == b) = false) : Op.bytesLess b a = true := by
 induction a generalizing b with
 | nil => cases b <;> simp_all [Op.bytesLess]
 | cons x a ih =>
  cases b with
  | nil => rfl
  | cons y b =>
   simp only [Op.bytesLess, Bool.or_eq_false_iff, Bool.and_eq_false_iff, decide_eq_false_iff_not, beq_eq_false_iff_ne, ne_eq, List.cons.injEq, not_and, Bool.or_eq_true, Bool.and_eq_true, decide_eq_true_eq, beq_iff_eq] at h ⊢
   obtain ⟨⟨h1, h2⟩, h3⟩ := h
   by_cases he : x = y
   ·subst he
    refine .inr ⟨rfl, ih ?_⟩
    have h4 := h3 rfl
    rcases h2 with h2 | h2
    ·exact absurd rfl h2
    ·simp [h2, h4]
   ·refine .inl ?_
    rcases UInt8.lt_or_eq_of_le (UInt8.not_lt.1 h1) with h | h
    ·exact h
    ·exact absurd h.symm he
def Rise (fs : List SPathLines) : Prop := ∀ (i j : Nat) (hi : i < fs.length) (hj : j < fs.length), i < j → Op.bytesLess fs[i].Path fs[j].Path = true
theorem rise_of {fs : List SPathLines} (h : ∀ (i : Nat) (hi : i + 1 < fs.length), Op.bytesLess (fs[i]'(by omega)).Path fs[i + 1].Path = true) : Rise fs := by
 intro i j hi hj hij
 induction j with
 | zero => omega
 | succ j ih =>
  by_cases he : i = j
  ·subst he; exact h i hj
  ·exact less_trans (ih (by omega) (by omega)) (h j hj)
theorem treeV_rise (t : SFiles) (hl : t.Files.length ≤ 24) (hf : ∀ f ∈ t.Files, f.Path.length < big) : ∀ (m i : Nat), t.Files.length - i < m → treepatch_Validate_l1 200 t m (i : Int) = some ⟨0, 0⟩ →
  ∀ (j : Nat) (hj : j + 1 < t.Files.length), i ≤ j + 1 → Op.bytesLess (t.Files[j]'(by omega)).Path t.Files[j + 1].Path = true := by
 intro m
 induction m with
 | zero => intro i h; omega
 | succ m ih =>
  intro i h h0 j hj hij
  rw [treepatch_Validate_l1] at h0
  unfold treepatch_ValidPath at h0
  have hi : i < t.Files.length := by omega
  rw [if_pos (lt_dec hi), gidx_nat, getElem?_lt hi, bsome, bsome] at h0
  have tail : ∀ b : Bool, treepatch_Validate_j1 200 t (i : Int) (treepatch_Validate_l1 200 t m) t.Files[i] b = some ⟨0, 0⟩ → b = false ∧ treepatch_Validate_l1 200 t m ((i + 1 : Nat) : Int) = some ⟨0, 0⟩ := by
   intro b hb
   unfold treepatch_Validate_j1 at hb
   cases b with
   | true =>
    rw [if_pos rfl] at hb
    have := congrArg SCodeIndex.Code (Option.some.inj hb)
    simp at this
   | false =>
    refine ⟨rfl, ?_⟩
    rw [if_neg (by simp), gcut_take (by omega), bsome] at hb
    obtain ⟨r1, h1⟩ := clash_l 200 (t.Files.take i) t.Files[i].Path (-1) (by simp; omega) (hf _ (List.getElem_mem hi)) (fun f h => hf f (List.mem_of_mem_take h)) 200 0 (by simp; omega)
    have h1' : treepatch_Clash 200 (t.Files.take i) t.Files[i].Path (-1) = some r1 := h1
    rw [h1', bsome] at hb
    cases r1 with
    | true =>
     rw [if_pos rfl] at hb
     have := congrArg SCodeIndex.Code (Option.some.inj hb)
     simp at this
    | false =>
     rw [if_neg (by simp)] at hb
     obtain ⟨r2, h2, h3⟩ := linesSecond t.Files[i].Lines i
     rw [h2, bsome] at hb
     rcases h3 with rfl | h3
     ·rw [if_neg fault_none, gadd_nat (by omega), bsome] at hb
      exact hb
     ·rw [if_pos (fault_ne h3)] at hb
      have := congrArg SCodeIndex.Code (Option.some.inj hb)
      exact absurd this h3
  by_cases hv : libValidPath t.Files[i].Path = true
  ·rw [if_neg (by simp [hv])] at h0
   by_cases hp : 0 < i
   ·have e1 : ((i : Int) - 1) = ((i - 1 : Nat) : Int) := by omega
    rw [if_pos (by simp; omega), gsubI (by omega), bsome, e1, gidx_nat, getElem?_lt (by omega), bsome] at h0
    obtain ⟨h1, h2⟩ := tail _ h0
    by_cases he : i = j + 1
    ·subst he
     exact less_total h1
    ·exact ih (i + 1) (by omega) h2 j hj (by omega)
   ·rw [if_neg (by simp; omega)] at h0
    obtain ⟨_, h2⟩ := tail _ h0
    exact ih (i + 1) (by omega) h2 j hj (by omega)
  ·rw [if_pos (by simp [hv])] at h0
   have := congrArg SCodeIndex.Code (Option.some.inj h0)
   simp at this
theorem args_rise (a : SInputsOpsOutput) (t : SFiles) (hf : ∀ f ∈ t.Files, f.Path.length < big) (hv : sandbox_Validate 200 a = some ⟨0, 0⟩) (h : sandbox_Arguments 200 a t = some ⟨0, 0⟩) : t.Files.length ≤ 24 ∧ Rise t.Files := by
 unfold sandbox_Arguments treepatch_Second at h
 obtain ⟨q, h1, h2⟩ := treeV_ok t hf
 rw [hv, bsome, if_neg fault_none, h1, bsome] at h
 rcases h2 with rfl | h2
 ·unfold treepatch_Validate at h1
  by_cases hl : 24 < t.Files.length
  ·rw [if_pos (by simp; omega)] at h1
   have := congrArg SCodeIndex.Code (Option.some.inj h1)
   simp at this
  ·rw [if_neg (by simp; omega)] at h1
   refine ⟨by omega, rise_of fun i hi => treeV_rise t (by omega) hf 200 0 (by omega) h1 i hi (by omega)⟩
 ·rw [if_pos (fault_ne h2), bsome] at h
  have := congrArg SCodeIndex.Code (Option.some.inj h)
  exact absurd this h2
theorem find_spec_l (fs : List SPathLines) (x : List UInt8) (hl : fs.length ≤ 24) (hr : Rise fs) : ∀ (m i j : Nat), i ≤ j → j ≤ fs.length → j - i < m → (∀ (p : Nat) (hp : p < fs.length), p < i → Op.bytesLess fs[p].Path x = true) → (∀ (p : Nat) (hp : p < fs.length), j ≤ p → Op.bytesLess fs[p].Path x = false) →
  ∃ (k : Nat) (b : Bool), treepatch_Find_l1 200 fs x m (i : Int) (j : Int) = some ((k : Int), b) ∧ (b = true → ∃ hk : k < fs.length, fs[k].Path = x) ∧ (b = false → ∀ f ∈ fs, f.Path ≠ x) := by
 intro m
 induction m with
 | zero => intro i j _ _ h; omega
 | succ m ih =>
  intro i j hij hj h hlo hhi
  rw [treepatch_Find_l1]
  by_cases hlt : i < j
  ·have hmid : (i + j) / 2 < fs.length := by omega
   rw [if_pos (lt_dec hlt), gaddI (by omega), bsome]
   have e1 : (i : Int) + (j : Int) = ((i + j : Nat) : Int) := by omega
   rw [e1, half _ (by omega), gidx_nat, getElem?_lt hmid, bsome]
   unfold strings_Compare treepatch_Find_j5 libCompare
   rw [bsome, half _ (by omega)]
   by_cases hc : Lib.compareBytes fs[(i + j) / 2].Path x < 0
   ·rw [if_pos (by simpa using hc), gadd_nat (by omega), bsome]
    refine ih ((i + j) / 2 + 1) j (by omega) hj (by omega) ?_ hhi
    intro p hp hpl
    have hm := (cmp_lt _ _).1 hc
    by_cases he : p = (i + j) / 2
    ·subst he; exact hm
    ·exact less_trans (hr p _ hp hmid (by omega)) hm
   ·rw [if_neg (by simpa using hc)]
    refine ih i ((i + j) / 2) (by omega) (by omega) (by omega) hlo ?_
    intro p hp hpl
    have hm : Op.bytesLess fs[(i + j) / 2].Path x = false := by
     cases hb : Op.bytesLess fs[(i + j) / 2].Path x with
     | false => rfl
     | true => exact absurd ((cmp_lt _ _).2 hb) hc
    by_cases he : p = (i + j) / 2
    ·subst he; exact hm
    ·cases hb : Op.bytesLess fs[p].Path x with
     | false => rfl
     | true =>
      have := less_trans (hr _ p hmid hp (by omega)) hb
      rw [hm] at this; cases this
  ·have hie : i = j := by omega
   subst hie
   rw [if_neg (nlt_dec hlt)]
   unfold treepatch_Find_j2 treepatch_Find_j4 treepatch_Find_j3 treepatch_Find_j1 strings_Compare libCompare
   have none_of : ∀ f ∈ fs, f.Path = x → ∃ hk : i < fs.length, fs[i].Path = x := by
    intro f hm he
    obtain ⟨p, hp, rfl⟩ := List.getElem_of_mem hm
    have h1 : ¬ p < i := fun hpi => by have := hlo p hp hpi; rw [he, less_irrefl] at this; cases this
    by_cases hpe : p = i
    ·subst hpe; exact ⟨hp, he⟩
    ·have h2 := hr i p (by omega) hp (by omega)
     have h3 := hhi i (by omega) (Nat.le_refl _)
     rw [he] at h2
     rw [h2] at h3; cases h3
   by_cases hil : i < fs.length
   ·rw [if_pos (lt_dec hil), gidx_nat, getElem?_lt hil, bsome, bsome]
    refine ⟨i, _, rfl, ?_, ?_⟩
    ·intro hb
     exact ⟨hil, (cmp_eq0 _ _).1 (by simpa using hb)⟩
    ·intro hb f hm he
     obtain ⟨_, h2⟩ := none_of f hm he
     have : Lib.compareBytes fs[i].Path x = 0 := (cmp_eq0 _ _).2 h2
     simp [this] at hb
   ·rw [if_neg (nlt_dec hil)]
    refine ⟨i, false, rfl, by simp, ?_⟩
    intro _ f hm he
    obtain ⟨h1, _⟩ := none_of f hm he
    exact absurd h1 hil
theorem find_spec (fs : List SPathLines) (x : List UInt8) (hl : fs.length ≤ 24) (hr : Rise fs) : ∃ (k : Nat) (b : Bool), treepatch_Find 200 fs x = some ((k : Int), b) ∧ (b = true → ∃ hk : k < fs.length, fs[k].Path = x) ∧ (b = false → ∀ f ∈ fs, f.Path ≠ x) :=
 find_spec_l fs x hl hr 200 0 fs.length (by omega) (by omega) (by omega) (fun p _ h => by omega) (fun p hp h => by omega)
end Go.Proofs.YtlkknmhhefjmjaaGreatDoor
namespace Go.Proofs.YtlkknmhhefjmjaaGreatDoor
open Go.PW Go
theorem kinds_l2 (a : SInputsOpsOutput) (hl : a.Ops.length ≤ 16) : ∀ (m i : Nat), a.Ops.length - i < m → sandbox_Validate_l2 200 a m (i : Int) = some ⟨0, 0⟩ → ∀ o ∈ a.Ops.drop i, sandbox_checkOp 200 o = some 0 := by
 intro m
 induction m with
 | zero => intro i h; omega
 | succ m ih =>
  intro i h h0
  rw [sandbox_Validate_l2] at h0
  by_cases hi : i < a.Ops.length
  ·rw [if_pos (lt_dec hi), gidx_nat, getElem?_lt hi, bsome] at h0
   obtain ⟨r, h1⟩ := checkOp_ok a.Ops[i]
   rw [h1, bsome] at h0
   by_cases hr : r = 0
   ·rw [if_neg (by simp [hr]), gadd_nat (by omega), bsome] at h0
    rw [List.drop_eq_getElem_cons hi]
    intro o hm
    rcases List.mem_cons.1 hm with rfl | hm
    ·rw [h1, hr]
    ·exact ih (i + 1) (by omega) h0 o hm
   ·rw [if_pos (by simp [hr]), gsubI (by omega), bsome] at h0
    have := congrArg SCodeIndex.Code (Option.some.inj h0)
    exact absurd this hr
  ·rw [List.drop_eq_nil_of_le (by omega)]
   intro o hm; cases hm
theorem valid_l1 (a : SInputsOpsOutput) (hl : a.Inputs.length ≤ 8) : ∀ (m i : Nat), a.Inputs.length - i < m → sandbox_Validate_l1 200 a m (i : Int) = some ⟨0, 0⟩ → sandbox_Validate_l2 200 a 200 0 = some ⟨0, 0⟩ := by
 intro m
 induction m with
 | zero => intro i h; omega
 | succ m ih =>
  intro i h h0
  rw [sandbox_Validate_l1] at h0
  unfold treepatch_ValidPath at h0
  by_cases hi : i < a.Inputs.length
  ·rw [if_pos (lt_dec hi), gidx_nat, getElem?_lt hi, bsome, bsome] at h0
   have tail : ∀ b : Bool, sandbox_Validate_j2 200 (i : Int) (sandbox_Validate_l1 200 a m) b = some ⟨0, 0⟩ → sandbox_Validate_l2 200 a 200 0 = some ⟨0, 0⟩ := by
    intro b hb
    unfold sandbox_Validate_j2 at hb
    cases b with
    | true =>
     rw [if_pos rfl] at hb
     have := congrArg SCodeIndex.Code (Option.some.inj hb)
     simp at this
    | false =>
     rw [if_neg (by simp), gadd_nat (by omega), bsome] at hb
     exact ih (i + 1) (by omega) hb
   by_cases hv : libValidPath a.Inputs[i] = true
   ·rw [if_neg (by simp [hv])] at h0
    by_cases hp : 0 < i
    ·have e1 : ((i : Int) - 1) = ((i - 1 : Nat) : Int) := by omega
     rw [if_pos (by simp; omega), gsubI (by omega), bsome, e1, gidx_nat, getElem?_lt (by omega), bsome] at h0
     exact tail _ h0
    ·rw [if_neg (by simp; omega)] at h0
     exact tail _ h0
   ·rw [if_pos (by simp [hv])] at h0
    have := congrArg SCodeIndex.Code (Option.some.inj h0)
    simp at this
  ·rw [if_neg (nlt_dec hi), bsome] at h0
   by_cases hv : libValidPath a.Output = true
   ·rw [if_neg (by simp [hv])] at h0
    exact h0
   ·rw [if_pos (by simp [hv])] at h0
    have := congrArg SCodeIndex.Code (Option.some.inj h0)
    simp at this
theorem kinds_ok (a : SInputsOpsOutput) (h : sandbox_Validate 200 a = some ⟨0, 0⟩) : ∀ o ∈ a.Ops, o.Kind = 1 ∨ o.Kind = 2 ∨ o.Kind = 3 ∨ o.Kind = 4 ∨ o.Kind = 5 := by
 obtain ⟨r, h1, h2, h3⟩ := validate_ok a
 have e : (⟨0, 0⟩ : SCodeIndex) = r := Option.some.inj (h.symm.trans h1)
 obtain ⟨hi, ho⟩ := h3 e.symm
 have d1 : decide ((8 : Int) < (a.Inputs.length : Int)) = false := by simp; omega
 have d2 : decide ((16 : Int) < (a.Ops.length : Int)) = false := by simp; omega
 unfold sandbox_Validate sandbox_Validate_j1 at h
 simp only [d1, d2, Bool.false_eq_true, ↓reduceIte] at h
 have h4 := valid_l1 a hi 200 0 (by omega) h
 have h5 := kinds_l2 a ho 200 0 (by omega) h4
 intro o hm
 have h6 := h5 o (by simpa using hm)
 unfold sandbox_checkOp sandbox_checkOp_j2 sandbox_checkOp_j3 at h6
 by_cases k1 : o.Kind = 1
 ·exact .inl k1
 ·by_cases k2 : o.Kind = 2
  ·exact .inr (.inl k2)
  ·by_cases k3 : o.Kind = 3
   ·exact .inr (.inr (.inl k3))
   ·by_cases k4 : o.Kind = 4
    ·exact .inr (.inr (.inr (.inl k4)))
    ·by_cases k5 : o.Kind = 5
     ·exact .inr (.inr (.inr (.inr k5)))
     ·simp [k1, k2, k3, k4, k5] at h6
end Go.Proofs.YtlkknmhhefjmjaaGreatDoor
namespace Go.Proofs.YtlkknmhhefjmjaaGreatDoor
open Go.PW Go
theorem clone_eq (l : List (List UInt8)) (h : l.length * 16 ≤ big) : slices_Clone_string 200 l = some l := by
 unfold slices_Clone_string gapp
 rw [if_pos (by simpa using h), bsome]
 rfl
def Ahead (f g : SPathLines) : Prop := Op.bytesLess f.Path g.Path = true ∧ ¬ Rel f.Path g.Path
def TreeOk (fs : List SPathLines) : Prop := fs.Pairwise Ahead ∧ ∀ f ∈ fs, libValidPath f.Path = true ∧ lines_Validate 200 f.Lines = some ⟨0, 0⟩
theorem linesSecond_none {l : List (List UInt8)} {k : Int} (h : lines_Second 200 l k = some ⟨0, 0⟩) : lines_Validate 200 l = some ⟨0, 0⟩ := by
 obtain ⟨r, h1, h2⟩ := linesV l
 unfold lines_Second at h
 rw [h1, bsome] at h
 rcases h2 with rfl | h2
 ·exact h1
 ·rw [if_pos (fault_ne h2)] at h
  exact absurd (congrArg SCodeIndex.Code (Option.some.inj h)) h2
theorem tree_facts (t : SFiles) (hl : t.Files.length ≤ 24) (hf : ∀ f ∈ t.Files, f.Path.length < big) : ∀ (m i : Nat), t.Files.length - i < m → treepatch_Validate_l1 200 t m (i : Int) = some ⟨0, 0⟩ →
  ∀ (j : Nat) (hj : j < t.Files.length), i ≤ j → libValidPath t.Files[j].Path = true ∧ lines_Validate 200 t.Files[j].Lines = some ⟨0, 0⟩ ∧ ∀ f ∈ t.Files.take j, ¬ Rel f.Path t.Files[j].Path := by
 intro m
 induction m with
 | zero => intro i h; omega
 | succ m ih =>
  intro i h h0 j hj hij
  rw [treepatch_Validate_l1] at h0
  unfold treepatch_ValidPath at h0
  have hi : i < t.Files.length := by omega
  rw [if_pos (lt_dec hi), gidx_nat, getElem?_lt hi, bsome, bsome] at h0
  have tail : ∀ b : Bool, treepatch_Validate_j1 200 t (i : Int) (treepatch_Validate_l1 200 t m) t.Files[i] b = some ⟨0, 0⟩ →
    treepatch_Validate_l1 200 t m ((i + 1 : Nat) : Int) = some ⟨0, 0⟩ ∧ lines_Validate 200 t.Files[i].Lines = some ⟨0, 0⟩ ∧ ∀ f ∈ t.Files.take i, ¬ Rel f.Path t.Files[i].Path := by
   intro b hb
   unfold treepatch_Validate_j1 at hb
   cases b with
   | true =>
    rw [if_pos rfl] at hb
    have := congrArg SCodeIndex.Code (Option.some.inj hb)
    simp at this
   | false =>
    rw [if_neg (by simp), gcut_take (by omega), bsome] at hb
    have h2 := clash_eq (t.Files.take i) t.Files[i].Path (by simp; omega) (hf _ (List.getElem_mem hi)) (fun f h => hf f (List.mem_of_mem_take h)) 200 0 (by simp; omega)
    have h2' : treepatch_Clash 200 (t.Files.take i) t.Files[i].Path (-1) = some (decide (∃ f ∈ t.Files.take i, Rel f.Path t.Files[i].Path)) := by unfold treepatch_Clash; simpa using h2
    rw [h2', bsome] at hb
    by_cases hx : ∃ f ∈ t.Files.take i, Rel f.Path t.Files[i].Path
    ·rw [if_pos (by simpa using hx)] at hb
     have := congrArg SCodeIndex.Code (Option.some.inj hb)
     simp at this
    ·rw [if_neg (by simpa using hx)] at hb
     obtain ⟨r2, h3, h4⟩ := linesSecond t.Files[i].Lines i
     rw [h3, bsome] at hb
     rcases h4 with rfl | h4
     ·rw [if_neg fault_none, gadd_nat (by omega), bsome] at hb
      exact ⟨hb, linesSecond_none h3, fun f hm hr => hx ⟨f, hm, hr⟩⟩
     ·rw [if_pos (fault_ne h4)] at hb
      exact absurd (congrArg SCodeIndex.Code (Option.some.inj hb)) h4
  by_cases hv : libValidPath t.Files[i].Path = true
  ·rw [if_neg (by simp [hv])] at h0
   have key : treepatch_Validate_l1 200 t m ((i + 1 : Nat) : Int) = some ⟨0, 0⟩ ∧ lines_Validate 200 t.Files[i].Lines = some ⟨0, 0⟩ ∧ ∀ f ∈ t.Files.take i, ¬ Rel f.Path t.Files[i].Path := by
    by_cases hp : 0 < i
    ·have e1 : ((i : Int) - 1) = ((i - 1 : Nat) : Int) := by omega
     rw [if_pos (by simp; omega), gsubI (by omega), bsome, e1, gidx_nat, getElem?_lt (by omega), bsome] at h0
     exact tail _ h0
    ·rw [if_neg (by simp; omega)] at h0
     exact tail _ h0
   by_cases he : i = j
   ·subst he
    exact ⟨hv, key.2⟩
   ·exact ih (i + 1) (by omega) key.1 j hj (by omega)
  ·rw [if_pos (by simp [hv])] at h0
   have := congrArg SCodeIndex.Code (Option.some.inj h0)
   simp at this
theorem treeOk_of (a : SInputsOpsOutput) (t : SFiles) (hf : ∀ f ∈ t.Files, f.Path.length < big) (hv : sandbox_Validate 200 a = some ⟨0, 0⟩) (h : sandbox_Arguments 200 a t = some ⟨0, 0⟩) : TreeOk t.Files := by
 obtain ⟨hl, hr⟩ := args_rise a t hf hv h
 obtain ⟨q, h1, h2⟩ := treeV_ok t hf
 unfold sandbox_Arguments treepatch_Second at h
 rw [hv, bsome, if_neg fault_none, h1, bsome] at h
 have h1' : treepatch_Validate_l1 200 t 200 0 = some ⟨0, 0⟩ := by
  rcases h2 with rfl | h2
  ·unfold treepatch_Validate at h1
   rw [if_neg (by simp; omega)] at h1
   exact h1
  ·rw [if_pos (fault_ne h2), bsome] at h
   exact absurd (congrArg SCodeIndex.Code (Option.some.inj h)) h2
 have hF := tree_facts t hl hf 200 0 (by omega) h1'
 refine ⟨?_, ?_⟩
 ·rw [List.pairwise_iff_getElem]
  intro i j hi hj hij
  refine ⟨hr i j hi hj hij, (hF j hj (by omega)).2.2 _ ?_⟩
  rw [List.mem_take_iff_getElem]
  exact ⟨i, by omega, rfl⟩
 ·intro f hm
  obtain ⟨j, hj, rfl⟩ := List.getElem_of_mem hm
  exact ⟨(hF j hj (by omega)).1, (hF j hj (by omega)).2.1⟩
theorem treeV_of (fs : List SPathLines) (hl : fs.length ≤ 24) (hf : ∀ f ∈ fs, f.Path.length < big) (h : TreeOk fs) : ∀ (m i : Nat), fs.length - i < m → treepatch_Validate_l1 200 ⟨fs⟩ m (i : Int) = some ⟨0, 0⟩ := by
 have hp := List.pairwise_iff_getElem.1 h.1
 intro m
 induction m with
 | zero => intro i h; omega
 | succ m ih =>
  intro i hm
  rw [treepatch_Validate_l1]
  unfold treepatch_ValidPath
  by_cases hi : i < fs.length
  ·obtain ⟨hv, hL⟩ := h.2 _ (List.getElem_mem hi)
   rw [if_pos (lt_dec hi), gidx_nat, getElem?_lt hi, bsome, bsome, if_neg (by simp [hv])]
   have tail : treepatch_Validate_j1 200 ⟨fs⟩ (i : Int) (treepatch_Validate_l1 200 ⟨fs⟩ m) fs[i] false = some ⟨0, 0⟩ := by
    unfold treepatch_Validate_j1
    have h2 := clash_eq (fs.take i) fs[i].Path (by simp; omega) (hf _ (List.getElem_mem hi)) (fun f h => hf f (List.mem_of_mem_take h)) 200 0 (by simp; omega)
    have hno : ¬ ∃ f ∈ fs.take i, Rel f.Path fs[i].Path := by
     rintro ⟨f, hm, hr⟩
     rw [List.mem_take_iff_getElem] at hm
     obtain ⟨j, hj, rfl⟩ := hm
     exact (hp j i (by omega) hi (by omega)).2 hr
    have h2' : treepatch_Clash 200 (fs.take i) fs[i].Path (-1) = some false := by
     unfold treepatch_Clash
     have : decide (∃ f ∈ fs.take i, Rel f.Path fs[i].Path) = false := decide_eq_false hno
     rw [← this]; simpa using h2
    have hS : lines_Second 200 fs[i].Lines (i : Int) = some ⟨0, 0⟩ := by
     unfold lines_Second
     rw [hL, bsome, if_neg fault_none]
    rw [if_neg (by simp), gcut_take (by show i ≤ fs.length; omega), bsome, h2', bsome, if_neg (by simp), hS, bsome, if_neg fault_none, gadd_nat (by omega), bsome]
    exact ih (i + 1) (by omega)
   by_cases hp0 : 0 < i
   ·have e1 : ((i : Int) - 1) = ((i - 1 : Nat) : Int) := by omega
    have hA := (hp (i - 1) i (by omega) hi (by omega))
    have hless : (Op.bytesLess fs[i].Path (fs[i - 1]'(by omega)).Path || fs[i].Path == (fs[i - 1]'(by omega)).Path) = false := by
     cases hb : Op.bytesLess fs[i].Path (fs[i - 1]'(by omega)).Path with
     | true => have := less_trans hA.1 hb; rw [less_irrefl] at this; cases this
     | false =>
      have : fs[i].Path ≠ (fs[i - 1]'(by omega)).Path := fun e => hA.2 (by rw [e]; exact .inl rfl)
      simp [this]
    rw [if_pos (by simp; omega), gsubI (by omega), bsome, e1, gidx_nat, getElem?_lt (show i - 1 < fs.length by omega), bsome, hless]
    exact tail
   ·rw [if_neg (by simp; omega)]
    exact tail
  ·rw [if_neg (nlt_dec hi)]
theorem lines_len {l : List (List UInt8)} (h : lines_Validate 200 l = some ⟨0, 0⟩) : l.length ≤ 120 := by
 unfold lines_Validate at h
 by_cases hl : 120 < l.length
 ·rw [if_pos (by simp; omega)] at h
  have := congrArg SCodeIndex.Code (Option.some.inj h)
  simp at this
 ·omega
end Go.Proofs.YtlkknmhhefjmjaaGreatDoor
namespace Go.Proofs.YtlkknmhhefjmjaaGreatDoor
open Go.PW Go
end Go.Proofs.YtlkknmhhefjmjaaGreatDoor
namespace Go.Proofs.YtlkknmhhefjmjaaGreatDoor
open Go.PW Go
end Go.Proofs.YtlkknmhhefjmjaaGreatDoor
