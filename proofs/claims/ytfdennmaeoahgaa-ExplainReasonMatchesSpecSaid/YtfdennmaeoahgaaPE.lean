/- The closed example. -/
import Derived.Test.YtfdennmaeoahgaaD
import Derived.Test.YtfdennmaeoahgaaPwPlain
import Derived.Laws.RangeString
set_option linter.unusedVariables false
set_option linter.unusedSimpArgs false
namespace Go.Proofs.Ytfdennmaeoahgaa
open Go.PW Go
theorem explains_eq : law6_explains 6000 = some true := by decide +kernel
end Go.Proofs.Ytfdennmaeoahgaa
namespace Go.Proofs.Ytfdennmaeoahgaa
open Go.PW Go
theorem ref_in5 (n : Nat) (a b c : Int) : ref5_in n a b c = some (decide (b ≤ a ∧ a ≤ c)) := by
  unfold ref5_in ref5_in_j1
  by_cases h : b ≤ a <;> simp [h]
theorem wrap_byte (c : UInt8) : IntKind.wrap .i64 (c.toNat : Int) = (c.toNat : Int) := wrap_i64 (by have := c.toNat_lt; omega)
def isd (c : UInt8) : Bool := decide (48 ≤ c.toNat) && decide (c.toNat ≤ 57)
def okb (c : UInt8) : Bool := isd c || (decide (97 ≤ c.toNat) && decide (c.toNat ≤ 122)) || (decide (65 ≤ c.toNat) && decide (c.toNat ≤ 90)) || decide (c.toNat = 45)
theorem okb_ascii {c : UInt8} (h : okb c = true) : c.toNat < 128 := by
  unfold okb isd at h
  simp at h
  omega
def num (s : List UInt8) : Bool := s.all isd
def ident (s : List UInt8) : Bool := decide (1 ≤ s.length ∧ s.length ≤ 8) && s.all okb && (!(num s) || decide (s.length = 1) || decide (s.head? ≠ some 48))
theorem bsz (s : List UInt8) : (⟨s.toArray⟩ : ByteArray).size = s.length := rfl
theorem byte_at (s : List UInt8) (pos : Nat) (h : pos < (⟨s.toArray⟩ : ByteArray).size) : (⟨s.toArray⟩ : ByteArray)[pos]'h = s[pos]'(by rw [bsz] at h; exact h) := by
  simp [ByteArray.getElem_eq_getElem_data]
theorem nonDigits_from (s : List UInt8) (ha : ∀ c ∈ s, c.toNat < 128) : ∀ (f pos : Nat), pos ≤ s.length → s.length - pos ≤ f → (0 ≤ Lib.idxFuncFrom noDigit true ⟨s.toArray⟩ f pos ↔ (s.drop pos).any (fun c => !isd c) = true) := by
  intro f
  induction f with
  | zero =>
    intro pos h1 h2
    have : pos = s.length := by omega
    subst this
    simp [Lib.idxFuncFrom]
  | succ f ih =>
    intro pos h1 h2
    unfold Lib.idxFuncFrom
    by_cases hp : pos < s.length
    · have hps : pos < (⟨s.toArray⟩ : ByteArray).size := by rw [bsz]; exact hp
      have hasc : ((⟨s.toArray⟩ : ByteArray)[pos]'hps).toNat < 128 := by rw [byte_at]; exact ha _ (List.getElem_mem hp)
      rw [if_pos hps, decode_ascii _ _ hps hasc, byte_at, List.drop_eq_getElem_cons hp, List.any_cons]
      have e : noDigit s[pos].toNat = !isd s[pos] := by
        unfold noDigit isd
        by_cases a : s[pos].toNat < 48 <;> by_cases b : 57 < s[pos].toNat <;> simp [a, b] <;> omega
      simp only [e]
      cases hd : isd s[pos] with
      | true =>
        simp only [Bool.not_true, Bool.false_eq_true, if_false, Bool.false_or]
        exact ih (pos + 1) (by omega) (by omega)
      | false =>
        simp only [Bool.not_false, if_true, Bool.true_or, iff_true]
        omega
    · have : pos = s.length := by omega
      subst this
      rw [if_neg (by rw [bsz]; exact hp)]
      simp
theorem nonDigits_ascii {s : List UInt8} (ha : ∀ c ∈ s, c.toNat < 128) : libNonDigits s = !(num s) := by
  unfold libNonDigits Lib.idxFunc
  have h := nonDigits_from s ha (⟨s.toArray⟩ : ByteArray).size 0 (by omega) (by rw [bsz]; omega)
  rw [List.drop_zero] at h
  have e : num s = !(s.any fun c => !isd c) := by unfold num; rw [List.all_eq_not_any_not]
  rw [e, Bool.not_not]
  rw [Bool.eq_iff_iff, decide_eq_true_iff]
  exact h
theorem numeric_eq (n : Nat) {s : List UInt8} (ha : ∀ c ∈ s, c.toNat < 128) : version_numeric n s = some (num s) := by
  unfold version_numeric strings_ContainsFunc
  rw [bsome, nonDigits_ascii ha, Bool.not_not]
theorem id_byte (n : Nat) (x2 : Int) (lp : Int → Option Bool) (y : UInt8) :
    (if (decide ((y.toNat : Int) < 48)) = true then
        if (decide ((y.toNat : Int) < 97)) = true then
          if (decide ((y.toNat : Int) < 65)) = true then
            version_identifier_j2 n x2 lp (decide ((y.toNat : Int) ≠ 45))
          else
            if (decide (90 < (y.toNat : Int))) = true then
              version_identifier_j2 n x2 lp (decide ((y.toNat : Int) ≠ 45))
            else
              version_identifier_j2 n x2 lp false
        else
          if (decide (122 < (y.toNat : Int))) = true then
            if (decide ((y.toNat : Int) < 65)) = true then
              version_identifier_j2 n x2 lp (decide ((y.toNat : Int) ≠ 45))
            else
              if (decide (90 < (y.toNat : Int))) = true then
                version_identifier_j2 n x2 lp (decide ((y.toNat : Int) ≠ 45))
              else
                version_identifier_j2 n x2 lp false
          else
            version_identifier_j2 n x2 lp false
      else
        if (decide (57 < (y.toNat : Int))) = true then
          if (decide ((y.toNat : Int) < 97)) = true then
            if (decide ((y.toNat : Int) < 65)) = true then
              version_identifier_j2 n x2 lp (decide ((y.toNat : Int) ≠ 45))
            else
              if (decide (90 < (y.toNat : Int))) = true then
                version_identifier_j2 n x2 lp (decide ((y.toNat : Int) ≠ 45))
              else
                version_identifier_j2 n x2 lp false
          else
            if (decide (122 < (y.toNat : Int))) = true then
              if (decide ((y.toNat : Int) < 65)) = true then
                version_identifier_j2 n x2 lp (decide ((y.toNat : Int) ≠ 45))
              else
                if (decide (90 < (y.toNat : Int))) = true then
                  version_identifier_j2 n x2 lp (decide ((y.toNat : Int) ≠ 45))
                else
                  version_identifier_j2 n x2 lp false
            else
              version_identifier_j2 n x2 lp false
        else
          version_identifier_j2 n x2 lp false) = version_identifier_j2 n x2 lp (!okb y) := by
  have key : ∀ b : Bool, (b = true ↔ ¬ (okb y = true)) → version_identifier_j2 n x2 lp b = version_identifier_j2 n x2 lp (!okb y) := by
    intro b hb
    have : b = !okb y := by
      cases hh : okb y <;> cases b <;> simp [hh] at hb ⊢
    rw [this]
  simp only [decide_eq_true_eq]
  repeat' split
  all_goals
    refine key _ ?_
    simp only [okb, isd, decide_eq_true_eq, Bool.or_eq_true, Bool.and_eq_true, Bool.false_eq_true, false_iff, Classical.not_not, not_or, not_and, ne_eq]
    omega
theorem identifier_l1 (n : Nat) (s : List UInt8) (hl : s.length ≤ 8) (hpos : 1 ≤ s.length) : ∀ (m i : Nat), i ≤ s.length → s.length - i < m → (∀ c ∈ s.take i, okb c = true) →
    version_identifier_l1 n s m i = some ((s.drop i).all okb && (!(num s) || decide (s.length = 1) || decide (s.head? ≠ some 48))) := by
  intro m
  induction m with
  | zero => intro i _ h; omega
  | succ m ih =>
    intro i hi hm hall
    rw [version_identifier_l1]
    by_cases h : i < s.length
    · rw [if_pos (by rw [decide_eq_true_eq]; omega), gidx_nat, getElem?_lt h, bsome, id_byte, List.drop_eq_getElem_cons h, List.all_cons]
      unfold version_identifier_j2
      cases ho : okb s[i] with
      | false => simp
      | true =>
        rw [if_neg (by simp), gadd_nat (by omega), bsome, ih (i + 1) (by omega) (by omega) ?_]
        · simp
        · intro c hc
          rw [List.take_succ_eq_append_getElem h, List.mem_append, List.mem_singleton] at hc
          rcases hc with hc | rfl
          · exact hall c hc
          · exact ho
    · have e : i = s.length := by omega
      subst e
      rw [List.take_length] at hall
      rw [if_neg (by rw [decide_eq_true_eq]; omega), numeric_eq n fun c hc => okb_ascii (hall c hc), bsome, List.drop_length, List.all_nil]
      unfold version_identifier_j3
      cases hn : num s with
      | false => simp
      | true =>
        rw [if_neg (by simp)]
        by_cases h1 : s.length = 1
        · rw [if_pos (by rw [decide_eq_true_eq]; omega)]
          simp [h1]
        · rw [if_neg (by rw [decide_eq_true_eq]; omega)]
          match s, h1 with
          | [], _ => simp at hpos
          | x :: r, h1 =>
            rw [show (0 : Int) = ((0 : Nat) : Int) from rfl, gidx_nat]
            simp only [List.getElem?_cons_zero]
            rw [bsome]
            simp only [Bool.not_true, Bool.false_or, Bool.true_and, List.head?_cons]
            congr 1
            have : ((x.toNat : Int) ≠ 48) ↔ some x ≠ some 48 := by
              constructor
              · intro h e
                injection e with e
                subst e
                exact h rfl
              · intro h e
                refine h (congrArg some ?_)
                exact UInt8.toNat_inj.1 (by have : x.toNat = 48 := by omega
                                            rw [this]; rfl)
            have hr : r ≠ [] := fun e => h1 (by rw [e]; rfl)
            simp [hr, this]
end Go.Proofs.Ytfdennmaeoahgaa
namespace Go.Proofs.Ytfdennmaeoahgaa
open Go.PW Go
theorem identifier_eq {n : Nat} (hn : 1000 < n) (s : List UInt8) : version_identifier n s = some (ident s) := by
  unfold version_identifier version_identifier_j1 ident
  by_cases h0 : s.length = 0
  · rw [if_pos (by rw [decide_eq_true_eq]; omega), if_pos rfl]
    simp [h0]
  · rw [if_neg (by rw [decide_eq_true_eq]; omega)]
    by_cases h8 : 8 < s.length
    · rw [if_pos (by rw [decide_eq_true_eq]; omega)]
      rw [decide_eq_false (by omega)]; rfl
    · rw [if_neg (by rw [decide_eq_true_eq]; omega)]
      have := identifier_l1 n s (by omega) (by omega) n 0 (by omega) (by omega) (by simp)
      refine Eq.trans this ?_
      rw [decide_eq_true (show 1 ≤ s.length ∧ s.length ≤ 8 by omega)]
      simp
theorem rnum_l1 (n : Nat) (s : List UInt8) (hl : s.length ≤ 1000) : ∀ (m i : Nat), i ≤ s.length → s.length - i < m → ref5_Numeric_l1 n s m i = some ((s.drop i).all isd && decide (0 < s.length)) := by
  intro m
  induction m with
  | zero => intro i _ h; omega
  | succ m ih =>
    intro i hi hm
    rw [ref5_Numeric_l1]
    by_cases h : i < s.length
    · rw [if_pos (by rw [decide_eq_true_eq]; omega), gidx_nat, getElem?_lt h, bsome, bsome, List.drop_eq_getElem_cons h, List.all_cons]
      unfold ref5_Numeric_j1 isd
      by_cases a : s[i].toNat < 48
      · rw [if_pos (by rw [decide_eq_true_eq]; omega), if_pos rfl]
        simp; omega
      · rw [if_neg (by rw [decide_eq_true_eq]; omega)]
        by_cases b : 57 < s[i].toNat
        · rw [if_pos (by rw [decide_eq_true_eq]; omega)]
          simp; omega
        · rw [if_neg (by rw [decide_eq_true_eq]; omega), gadd_nat (by omega), bsome, ih (i + 1) (by omega) (by omega), decide_eq_true (show 48 ≤ s[i].toNat by omega), decide_eq_true (show s[i].toNat ≤ 57 by omega)]
          rfl
    · rw [if_neg (by rw [decide_eq_true_eq]; omega), List.drop_eq_nil_of_le (by omega)]
      simp
theorem rnum_eq {n : Nat} (hn : 1000 < n) {s : List UInt8} (hl : s.length ≤ 100) (hp : 0 < s.length) : ref5_Numeric n s = some (num s) := by
  unfold ref5_Numeric
  have := rnum_l1 n s (by omega) n 0 (by omega) (by omega)
  refine Eq.trans this ?_
  rw [decide_eq_true hp]
  simp [num]
theorem rid_byte (n : Nat) (x2 : Int) (lp : Int → Option Bool) (y : UInt8) :
    ((ref5_in n (IntKind.wrap .i64 (y.toNat : Int)) 48 57).bind fun r6 =>
      if (!r6) = true then
        (ref5_in n (IntKind.wrap .i64 (y.toNat : Int)) 97 122).bind fun r7 =>
        if (!r7) = true then
          (ref5_in n (IntKind.wrap .i64 (y.toNat : Int)) 65 90).bind fun r8 =>
          if (!r8) = true then
            ref5_Identifier_j2 n x2 lp (decide ((IntKind.wrap .i64 (y.toNat : Int)) ≠ 45))
          else
            ref5_Identifier_j2 n x2 lp false
        else
          ref5_Identifier_j2 n x2 lp false
      else
        ref5_Identifier_j2 n x2 lp false) = ref5_Identifier_j2 n x2 lp (!okb y) := by
  simp only [wrap_byte]
  have key : ∀ b : Bool, (b = true ↔ ¬ (okb y = true)) → ref5_Identifier_j2 n x2 lp b = ref5_Identifier_j2 n x2 lp (!okb y) := by
    intro b hb
    have : b = !okb y := by
      cases hh : okb y <;> cases b <;> simp [hh] at hb ⊢
    rw [this]
  rw [ref_in5, bsome]
  by_cases a : (48 : Int) ≤ y.toNat ∧ (y.toNat : Int) ≤ 57
  · rw [decide_eq_true a, if_neg (by simp)]
    refine key _ ?_
    simp only [okb, isd, decide_eq_true_eq, Bool.or_eq_true, Bool.and_eq_true, Bool.false_eq_true, false_iff, Classical.not_not, not_or, not_and, ne_eq]
    omega
  · rw [decide_eq_false a, if_pos (by simp), ref_in5, bsome]
    by_cases b : (97 : Int) ≤ y.toNat ∧ (y.toNat : Int) ≤ 122
    · rw [decide_eq_true b, if_neg (by simp)]
      refine key _ ?_
      simp only [okb, isd, decide_eq_true_eq, Bool.or_eq_true, Bool.and_eq_true, Bool.false_eq_true, false_iff, Classical.not_not, not_or, not_and, ne_eq]
      omega
    · rw [decide_eq_false b, if_pos (by simp), ref_in5, bsome]
      by_cases c : (65 : Int) ≤ y.toNat ∧ (y.toNat : Int) ≤ 90
      · rw [decide_eq_true c, if_neg (by simp)]
        refine key _ ?_
        simp only [okb, isd, decide_eq_true_eq, Bool.or_eq_true, Bool.and_eq_true, Bool.false_eq_true, false_iff, Classical.not_not, not_or, not_and, ne_eq]
        omega
      · rw [decide_eq_false c, if_pos (by simp)]
        refine key _ ?_
        simp only [okb, isd, decide_eq_true_eq, Bool.or_eq_true, Bool.and_eq_true, Bool.false_eq_true, false_iff, Classical.not_not, not_or, not_and, ne_eq]
        omega
theorem rid_l1 (n : Nat) (s : List UInt8) (hl : s.length ≤ 8) : ∀ (m i : Nat), i ≤ s.length → s.length - i < m → ref5_Identifier_l1 n s m i = some ((s.drop i).all okb) := by
  intro m
  induction m with
  | zero => intro i _ h; omega
  | succ m ih =>
    intro i hi hm
    rw [ref5_Identifier_l1]
    by_cases h : i < s.length
    · rw [if_pos (by rw [decide_eq_true_eq]; omega), gidx_nat, getElem?_lt h, bsome, rid_byte, List.drop_eq_getElem_cons h, List.all_cons]
      unfold ref5_Identifier_j2
      cases ho : okb s[i] with
      | false => simp
      | true =>
        rw [if_neg (by simp), gadd_nat (by omega), bsome, ih (i + 1) (by omega) (by omega)]
        simp
    · rw [if_neg (by rw [decide_eq_true_eq]; omega), List.drop_eq_nil_of_le (by omega)]
      simp
theorem head48 (x : UInt8) : ((x.toNat : Int) = 48) ↔ some x = some 48 := by
  constructor
  · intro h
    refine congrArg some ?_
    exact UInt8.toNat_inj.1 (by have : x.toNat = 48 := by omega
                                rw [this]; rfl)
  · intro e
    injection e with e
    subst e
    rfl
theorem ridentifier_eq {n : Nat} (hn : 1000 < n) (s : List UInt8) : ref5_Identifier n s = some (ident s) := by
  unfold ref5_Identifier ref5_Identifier_j1 ident
  rw [ref_in5, bsome]
  by_cases h : 1 ≤ s.length ∧ s.length ≤ 8
  · rw [decide_eq_true (show (1 : Int) ≤ s.length ∧ (s.length : Int) ≤ 8 by omega), if_neg (by simp), rnum_eq hn (by omega) (by omega), bsome, decide_eq_true h]
    have fin := rid_l1 n s h.2 n 0 (by omega) (by omega)
    simp only [List.drop_zero] at fin
    have fin' : ref5_Identifier_l1 n s n 0 = some (s.all okb) := fin
    cases hn' : num s with
    | false =>
      rw [if_neg (by simp), if_neg (by simp), fin']
      simp
    | true =>
      rw [if_pos rfl]
      by_cases h1 : s.length = 1
      · rw [if_neg (by rw [decide_eq_true_eq]; omega), if_neg (by simp), fin']
        simp [h1]
      · rw [if_pos (by rw [decide_eq_true_eq]; omega)]
        match s, h, h1, fin' with
        | x :: r, h, h1, fin' =>
          rw [show (0 : Int) = ((0 : Nat) : Int) from rfl, gidx_nat]
          simp only [List.getElem?_cons_zero]
          rw [bsome]
          have hr : r ≠ [] := fun e => h1 (by rw [e]; rfl)
          by_cases hx : (x.toNat : Int) = 48
          · have := (head48 x).1 hx
            rw [if_pos (by rw [decide_eq_true_eq]; exact hx)]
            simp at this
            simp [this, hr]
          · have h2 : some x ≠ some 48 := fun e => hx ((head48 x).2 e)
            rw [if_neg (by rw [decide_eq_true_eq]; exact hx)]
            refine Eq.trans fin' ?_
            simp only [List.head?_cons]
            simp [h2]
  · rw [decide_eq_false (show ¬ ((1 : Int) ≤ s.length ∧ (s.length : Int) ≤ 8) by omega), if_pos (by simp), if_pos rfl, decide_eq_false h]
    rfl
def sg (a b : Int) : Int := if a < b then -1 else if b < a then 1 else 0
theorem sg_neg (a b : Int) : sg a b = - sg b a := by unfold sg; split <;> split <;> first | omega | (split <;> omega)
theorem compare_eq (n : Nat) (a b : Int) : cmp_Compare_int n a b = some (sg a b) := by
  unfold cmp_Compare_int cmp_isNaN_int sg
  simp only [bsome, ne_eq, not_true_eq_false, decide_false, Bool.false_eq_true, if_false, decide_eq_true_eq]
  split
  · rfl
  · split <;> rfl
theorem sign3_eq (n : Nat) (a b : Int) : ref5_Sign3 n a b = some (sg a b) := by
  unfold ref5_Sign3 sg
  simp only [decide_eq_true_eq]
  split
  · rfl
  · split <;> rfl
theorem or2_eq {n : Nat} (hn : 10 < n) (a b : Int) : cmp_Or_int n [a, b] = some (if a ≠ 0 then a else b) := by
  unfold cmp_Or_int
  obtain ⟨k, rfl⟩ : ∃ k, n = k + 3 := ⟨n - 3, by omega⟩
  rw [cmp_Or_int_l1]
  simp only [List.length_cons, List.length_nil]
  rw [if_pos (by simp), show gidx [a, b] 0 = some a from rfl, bsome]
  by_cases ha : a ≠ 0
  · rw [if_pos (by simpa using ha), if_pos ha]
  · rw [if_neg (by simpa using ha), if_neg ha, show gadd 0 1 = some 1 from rfl, bsome, cmp_Or_int_l1]
    simp only [List.length_cons, List.length_nil]
    rw [if_pos (by simp), show gidx [a, b] 1 = some b from rfl, bsome]
    by_cases hb : b ≠ 0
    · rw [if_pos (by simpa using hb)]
    · rw [if_neg (by simpa using hb), show gadd 1 1 = some 2 from rfl, bsome, cmp_Or_int_l1]
      simp only [List.length_cons, List.length_nil]
      rw [if_neg (by simp)]
      have : b = 0 := Classical.not_not.1 hb
      rw [this]
theorem or3_eq {n : Nat} (hn : 10 < n) (a b c : Int) : cmp_Or_int n [a, b, c] = some (if a ≠ 0 then a else if b ≠ 0 then b else c) := by
  unfold cmp_Or_int
  obtain ⟨k, rfl⟩ : ∃ k, n = k + 4 := ⟨n - 4, by omega⟩
  rw [cmp_Or_int_l1]
  simp only [List.length_cons, List.length_nil]
  rw [if_pos (by simp), show gidx [a, b, c] 0 = some a from rfl, bsome]
  by_cases ha : a ≠ 0
  · rw [if_pos (by simpa using ha), if_pos ha]
  · rw [if_neg (by simpa using ha), if_neg ha, show gadd 0 1 = some 1 from rfl, bsome, cmp_Or_int_l1]
    simp only [List.length_cons, List.length_nil]
    rw [if_pos (by simp), show gidx [a, b, c] 1 = some b from rfl, bsome]
    by_cases hb : b ≠ 0
    · rw [if_pos (by simpa using hb), if_pos hb]
    · rw [if_neg (by simpa using hb), if_neg hb, show gadd 1 1 = some 2 from rfl, bsome, cmp_Or_int_l1]
      simp only [List.length_cons, List.length_nil]
      rw [if_pos (by simp), show gidx [a, b, c] 2 = some c from rfl, bsome]
      by_cases hc : c ≠ 0
      · rw [if_pos (by simpa using hc)]
      · rw [if_neg (by simpa using hc), show gadd 2 1 = some 3 from rfl, bsome, cmp_Or_int_l1]
        simp only [List.length_cons, List.length_nil]
        rw [if_neg (by simp)]
        have : c = 0 := Classical.not_not.1 hc
        rw [this]
def cb (a b : List UInt8) : Int := Lib.compareBytes a b
theorem cb_neg : ∀ (a b : List UInt8), cb a b = - cb b a
  | [], [] => rfl
  | [], _ :: _ => rfl
  | _ :: _, [] => rfl
  | x :: a, y :: b => by
    have ih := cb_neg a b
    unfold cb at ih ⊢
    unfold Lib.compareBytes
    by_cases h1 : x < y
    · have h2 : ¬ y < x := fun h => absurd (UInt8.lt_trans h1 h) (UInt8.lt_irrefl _)
      simp [h1, h2]
    · by_cases h2 : y < x
      · simp [h1, h2]
      · simp [h1, h2, ih]
def ci (a b : List UInt8) : Int :=
  if num a = true ∧ num b = true then (if sg a.length b.length ≠ 0 then sg a.length b.length else cb a b)
  else if num a = true then -1 else if num b = true then 1 else cb a b
theorem ci_neg (a b : List UInt8) : ci a b = - ci b a := by
  unfold ci
  rw [sg_neg (a.length : Int) b.length, cb_neg a b]
  by_cases ha : num a = true <;> by_cases hb : num b = true <;> simp [ha, hb]
  split <;> rfl
end Go.Proofs.Ytfdennmaeoahgaa
namespace Go.Proofs.Ytfdennmaeoahgaa
open Go.PW Go
def run {α S R : Type} (f : S → Nat → α → R ⊕ S) (fin : S → R) : S → Nat → List α → R
  | s, _, [] => fin s
  | s, i, x :: l => match f s i x with
    | .inl r => r
    | .inr s' => run f fin s' (i + 1) l
def nxt {R S : Type} (k : S → Option R) : R ⊕ S → Option R
  | .inl r => some r
  | .inr s' => k s'
theorem nxt_l {R S : Type} (k : S → Option R) (r : R) : nxt k (.inl r) = some r := rfl
theorem nxt_r {R S : Type} (k : S → Option R) (s : S) : nxt k (.inr s) = k s := rfl
theorem loop_eq {α S R : Type} {l : List α} {L : Nat → S → Int → Option R} (f : S → Nat → α → R ⊕ S) (fin : S → R) (I : S → Nat → Prop)
    (hstep : ∀ m s (i : Nat) x, I s i → i < l.length → l[i]? = some x → L (m + 1) s i = nxt (fun s' => L m s' ((i + 1 : Nat) : Int)) (f s i x))
    (hI : ∀ s i x s', I s i → l[i]? = some x → f s i x = .inr s' → I s' (i + 1))
    (hend : ∀ m s, I s l.length → L (m + 1) s (l.length : Int) = some (fin s)) :
    ∀ m s (i : Nat), I s i → i ≤ l.length → l.length - i < m → L m s i = some (run f fin s i (l.drop i)) := by
  intro m
  induction m with
  | zero => intro s i _ _ h; omega
  | succ m ih =>
    intro s i hi hl hm
    by_cases h : i = l.length
    · subst h
      rw [hend m s hi, List.drop_length]
      rfl
    · have hlt : i < l.length := by omega
      rw [hstep m s i l[i] hi hlt (List.getElem?_eq_getElem hlt), List.drop_eq_getElem_cons hlt]
      unfold run
      cases hf : f s i l[i] with
      | inl r => rfl
      | inr s' =>
        rw [nxt_r]
        exact ih s' (i + 1) (hI s i _ s' hi (List.getElem?_eq_getElem hlt) hf) (by omega) (by omega)
theorem loop_ex {R : Type} {L : Nat → Int → Option R} (B : Nat) (Q : R → Prop)
    (hstep : ∀ m (i : Nat), i < B → (∃ b, L m ((i + 1 : Nat) : Int) = some b ∧ Q b) → ∃ b, L (m + 1) i = some b ∧ Q b)
    (hend : ∀ m, ∃ b, L (m + 1) (B : Int) = some b ∧ Q b) :
    ∀ m (i : Nat), i ≤ B → B - i < m → ∃ b, L m i = some b ∧ Q b := by
  intro m
  induction m with
  | zero => intro i _ h; omega
  | succ m ih =>
    intro i h hm
    by_cases hb : i = B
    · subst hb; exact hend m
    · exact hstep m i (by omega) (ih (i + 1) (by omega) (by omega))
theorem run_pred {α S R : Type} {f : S → Nat → α → R ⊕ S} {fin : S → R} (Q : R → Prop) (hinl : ∀ s i x r, f s i x = .inl r → Q r) (hfin : ∀ s, Q (fin s)) : ∀ l s i, Q (run f fin s i l)
  | [], s, _ => hfin s
  | x :: l, s, i => by
    unfold run
    cases hf : f s i x with
    | inl r => exact hinl s i x r hf
    | inr s' => exact run_pred Q hinl hfin l s' (i + 1)
theorem run_all {α S R : Type} {f : S → Nat → α → R ⊕ S} {fin : S → R} (Q : R → Prop) (P : α → Prop) (hinl : ∀ s i x r, f s i x = .inl r → ¬ Q r) (hP : ∀ s i x s', f s i x = .inr s' → P x) : ∀ l s i, Q (run f fin s i l) → ∀ x ∈ l, P x
  | [], _, _, _, x, hx => by cases hx
  | x :: l, s, i, h, y, hy => by
    unfold run at h
    cases hf : f s i x with
    | inl r => rw [hf] at h; exact absurd h (hinl s i x r hf)
    | inr s' =>
      rw [hf] at h
      cases hy with
      | head => exact hP s i x s' hf
      | tail _ hy => exact run_all Q P hinl hP l s' (i + 1) h y hy
theorem get_lt {α : Type} {l : List α} {i : Nat} {x : α} (h : l[i]? = some x) : i < l.length := (List.getElem?_eq_some_iff.1 h).1
theorem get_mem {α : Type} {l : List α} {i : Nat} {x : α} (h : l[i]? = some x) : x ∈ l := List.mem_of_getElem? h
def vfault (v : SMajorMinorPatchPre) : SCodeIndex :=
  if 0 ≤ v.Major ∧ v.Major ≤ 1000000000 then
    if 0 ≤ v.Minor ∧ v.Minor ≤ 1000000000 then
      if 0 ≤ v.Patch ∧ v.Patch ≤ 1000000000 then
        if 4 < v.Pre.length then ⟨2, -1⟩ else run (S := Unit) (fun _ i x => if ident x = true then .inr () else .inl ⟨5, i⟩) (fun _ => ⟨0, 0⟩) () 0 v.Pre
      else ⟨3, 2⟩
    else ⟨3, 1⟩
  else ⟨3, 0⟩
theorem ifnot {α : Type} (p : Prop) [Decidable p] (a b : α) : (if (!decide p) = true then a else b) = if p then b else a := by
  by_cases h : p <;> simp [h]
theorem ifdec {α : Type} (p : Prop) [Decidable p] (a b : α) : (if decide p = true then a else b) = if p then a else b := by
  by_cases h : p <;> simp [h]
def okv (v : SMajorMinorPatchPre) : Prop := (vfault v).Code = 0
theorem vpre_l2 {n : Nat} (hn : 1000 < n) (v : SMajorMinorPatchPre) (hl : v.Pre.length ≤ 4) : version_Validate_l2 n v n 0 = some (run (S := Unit) (fun _ i x => if ident x = true then .inr () else .inl ⟨5, i⟩) (fun _ => ⟨0, 0⟩) () 0 v.Pre) := by
  refine loop_eq (l := v.Pre) (L := fun m _ i => version_Validate_l2 n v m i) _ _ (fun _ _ => True) ?_ (fun _ _ _ _ _ _ _ => trivial) ?_ n () 0 trivial (by omega) (by omega)
  · intro m s i x _ hi hx
    show version_Validate_l2 n v (m + 1) i = _
    simp only [version_Validate_l2]
    rw [if_pos (by rw [decide_eq_true_eq]; omega), gidx_nat, hx, bsome, identifier_eq hn, bsome]
    cases ident x with
    | true => rw [if_neg (by simp), gadd_nat (by omega), bsome, if_pos rfl, nxt_r]
    | false => rw [if_pos (by simp), if_neg (by simp), nxt_l]
  · intro m s _
    show version_Validate_l2 n v (m + 1) _ = _
    simp only [version_Validate_l2]
    rw [if_neg (by rw [decide_eq_true_eq]; omega)]
theorem vfault_l1 {n : Nat} (hn : 1000 < n) (v : SMajorMinorPatchPre) (hl : v.Pre.length ≤ 4) : ref5_VersionFault_l1 n v n 0 = some (run (S := Unit) (fun _ i x => if ident x = true then .inr () else .inl ⟨5, i⟩) (fun _ => ⟨0, 0⟩) () 0 v.Pre) := by
  refine loop_eq (l := v.Pre) (L := fun m _ i => ref5_VersionFault_l1 n v m i) _ _ (fun _ _ => True) ?_ (fun _ _ _ _ _ _ _ => trivial) ?_ n () 0 trivial (by omega) (by omega)
  · intro m s i x _ hi hx
    show ref5_VersionFault_l1 n v (m + 1) i = _
    simp only [ref5_VersionFault_l1]
    rw [if_pos (by rw [decide_eq_true_eq]; omega), gidx_nat, hx, bsome, ridentifier_eq hn, bsome]
    cases ident x with
    | true => rw [if_neg (by simp), gadd_nat (by omega), bsome, if_pos rfl, nxt_r]
    | false =>
      rw [if_pos (by simp), if_neg (by simp), nxt_l]
      unfold ref5_fault
      rw [bsome]
  · intro m s _
    show ref5_VersionFault_l1 n v (m + 1) _ = _
    simp only [ref5_VersionFault_l1]
    rw [if_neg (by rw [decide_eq_true_eq]; omega)]
theorem rvfault_eq {n : Nat} (hn : 1000 < n) (v : SMajorMinorPatchPre) : ref5_VersionFault n v = some (vfault v) := by
  unfold ref5_VersionFault vfault ref5_fault
  simp only [ref_in5, bsome, ifnot, ifdec]
  by_cases h1 : 0 ≤ v.Major ∧ v.Major ≤ 1000000000
  · rw [if_pos h1, if_pos h1]
    by_cases h2 : 0 ≤ v.Minor ∧ v.Minor ≤ 1000000000
    · rw [if_pos h2, if_pos h2]
      by_cases h3 : 0 ≤ v.Patch ∧ v.Patch ≤ 1000000000
      · rw [if_pos h3, if_pos h3]
        by_cases h4 : 4 < v.Pre.length
        · rw [if_pos (by omega), if_pos h4]
        · rw [if_neg (by omega), if_neg h4]
          exact vfault_l1 hn v (by omega)
      · rw [if_neg h3, if_neg h3]
    · rw [if_neg h2, if_neg h2]
  · rw [if_neg h1, if_neg h1]
theorem validate_l1 {n : Nat} (v : SMajorMinorPatchPre) (m : Nat) (i : Nat) (hi : i < 3) :
    version_Validate_l1 n v (m + 1) i = if 0 ≤ (if i = 0 then v.Major else if i = 1 then v.Minor else v.Patch) ∧ (if i = 0 then v.Major else if i = 1 then v.Minor else v.Patch) ≤ 1000000000 then version_Validate_l1 n v m ((i + 1 : Nat) : Int) else some ⟨3, i⟩ := by
  simp only [version_Validate_l1]
  rw [if_pos (by rw [decide_eq_true_eq]; omega), show garr 3 (i : Int) = some (i : Int) from if_pos (by omega), bsome]
  have e : (if (i : Int) = 0 then v.Major else (if (i : Int) = 1 then v.Minor else v.Patch)) = (if i = 0 then v.Major else if i = 1 then v.Minor else v.Patch) := by
    rcases (show i = 0 ∨ i = 1 ∨ i = 2 by omega) with h | h | h <;> subst h <;> simp
  rw [e]
  generalize (if i = 0 then v.Major else if i = 1 then v.Minor else v.Patch) = y
  unfold version_Validate_j1
  rw [gadd_nat (by omega), bsome]
  by_cases h1 : y < 0
  · rw [decide_eq_true h1, if_pos rfl, if_pos rfl, if_neg (by omega)]
  · rw [decide_eq_false h1, if_neg (by simp)]
    by_cases h2 : 1000000000 < y
    · rw [decide_eq_true h2, if_pos rfl, if_neg (by omega)]
    · rw [decide_eq_false h2, if_neg (by simp), if_pos (by omega)]
theorem validate_eq {n : Nat} (hn : 1000 < n) (v : SMajorMinorPatchPre) : version_Validate n v = some (vfault v) := by
  unfold version_Validate vfault
  obtain ⟨k, hk⟩ : ∃ k, n = k + 4 := ⟨n - 4, by omega⟩
  have e : version_Validate_l1 n v n 0 = version_Validate_l1 n v (k + 3 + 1) ((0 : Nat) : Int) := by rw [show k + 3 + 1 = n by omega]; rfl
  rw [e, validate_l1 v (k + 3) 0 (by omega)]
  simp only [if_pos]
  by_cases h1 : 0 ≤ v.Major ∧ v.Major ≤ 1000000000
  · rw [if_pos h1, if_pos h1, validate_l1 v (k + 2) 1 (by omega)]
    simp only [if_pos, Nat.one_ne_zero, if_false]
    by_cases h2 : 0 ≤ v.Minor ∧ v.Minor ≤ 1000000000
    · rw [if_pos h2, if_pos h2, validate_l1 v (k + 1) 2 (by omega)]
      simp only [if_pos, show ¬ (1 + 1 = 0) by omega, show ¬ (1 + 1 = 1) by omega, if_false]
      by_cases h3 : 0 ≤ v.Patch ∧ v.Patch ≤ 1000000000
      · rw [if_pos h3, if_pos h3]
        simp only [version_Validate_l1]
        rw [if_neg (by simp)]
        by_cases h4 : 4 < v.Pre.length
        · rw [if_pos (by rw [decide_eq_true_eq]; omega), if_pos h4]
        · rw [if_neg (by rw [decide_eq_true_eq]; omega), if_neg h4]
          exact vpre_l2 hn v (by omega)
      · rw [if_neg h3, if_neg h3]
        rfl
    · rw [if_neg h2, if_neg h2]
      rfl
  · rw [if_neg h1, if_neg h1]
    rfl
theorem vfault_zero {v : SMajorMinorPatchPre} (h : (vfault v).Code = 0) : vfault v = ⟨0, 0⟩ := by
  have : (vfault v).Code = 0 → vfault v = ⟨0, 0⟩ := by
    unfold vfault
    by_cases h1 : 0 ≤ v.Major ∧ v.Major ≤ 1000000000
    case neg => rw [if_neg h1]; intro h; cases h
    by_cases h2 : 0 ≤ v.Minor ∧ v.Minor ≤ 1000000000
    case neg => rw [if_pos h1, if_neg h2]; intro h; cases h
    by_cases h3 : 0 ≤ v.Patch ∧ v.Patch ≤ 1000000000
    case neg => rw [if_pos h1, if_pos h2, if_neg h3]; intro h; cases h
    rw [if_pos h1, if_pos h2, if_pos h3]
    split
    · intro h; cases h
    refine run_pred (fun r : SCodeIndex => r.Code = 0 → r = ⟨0, 0⟩) ?_ (fun _ _ => rfl) _ _ _
    intro s i x r hr
    split at hr
    · cases hr
    · injection hr with hr; subst hr; intro h; cases h
  exact this h
theorem okv_pre {v : SMajorMinorPatchPre} (h : okv v) : v.Pre.length ≤ 4 ∧ ∀ x ∈ v.Pre, ident x = true := by
  unfold okv vfault at h
  by_cases h1 : 0 ≤ v.Major ∧ v.Major ≤ 1000000000
  case neg => rw [if_neg h1] at h; cases h
  by_cases h2 : 0 ≤ v.Minor ∧ v.Minor ≤ 1000000000
  case neg => rw [if_pos h1, if_neg h2] at h; cases h
  by_cases h3 : 0 ≤ v.Patch ∧ v.Patch ≤ 1000000000
  case neg => rw [if_pos h1, if_pos h2, if_neg h3] at h; cases h
  rw [if_pos h1, if_pos h2, if_pos h3] at h
  split at h
  · cases h
  refine ⟨by omega, ?_⟩
  refine run_all (fun r : SCodeIndex => r.Code = 0) (fun x => ident x = true) ?_ ?_ _ _ _ h
  · intro s i x r hr
    split at hr
    · cases hr
    · injection hr with hr; subst hr; intro h; cases h
  · intro s i x r hr
    split at hr
    · assumption
    · cases hr
end Go.Proofs.Ytfdennmaeoahgaa
namespace Go.Proofs.Ytfdennmaeoahgaa
open Go.PW Go
theorem okb_of_ident {s : List UInt8} (h : ident s = true) : (1 ≤ s.length ∧ s.length ≤ 8) ∧ s.all okb = true ∧ (num s = true → s.length = 1 ∨ s.head? ≠ some 48) := by
  unfold ident at h
  simp only [Bool.and_eq_true, Bool.or_eq_true, decide_eq_true_eq, Bool.not_eq_true'] at h
  obtain ⟨⟨h1, h2⟩, h3⟩ := h
  refine ⟨h1, h2, fun hn => ?_⟩
  rcases h3 with (h3 | h3) | h3
  · rw [hn] at h3; cases h3
  · exact .inl h3
  · exact .inr h3
theorem ascii_of {s : List UInt8} (h : ident s = true) : ∀ c ∈ s, c.toNat < 128 := fun c hc => okb_ascii (List.all_eq_true.1 (okb_of_ident h).2.1 c hc)
def dv (c : UInt8) : Int := (c.toNat : Int) - 48
def va : Int → List UInt8 → Int
  | p, [] => p
  | p, c :: s => va (10 * p + dv c) s
theorem isd_dv {c : UInt8} (h : isd c = true) : 0 ≤ dv c ∧ dv c ≤ 9 := by
  unfold isd at h
  simp only [Bool.and_eq_true, decide_eq_true_eq] at h
  unfold dv
  omega
theorem num_cons {c : UInt8} {s : List UInt8} (h : num (c :: s) = true) : isd c = true ∧ num s = true := by
  unfold num at h ⊢
  simpa using h
theorem cb_cons (x y : UInt8) (a b : List UInt8) : cb (x :: a) (y :: b) = if x < y then -1 else if y < x then 1 else cb a b := rfl
theorem va_eqlen : ∀ (a b : List UInt8) (p q : Int), a.length = b.length → num a = true → num b = true → sg (va p a) (va q b) = if p = q then cb a b else sg p q
  | [], [], p, q, _, _, _ => by
    show sg p q = if p = q then (0 : Int) else sg p q
    split
    · rename_i h; subst h; unfold sg; simp
    · rfl
  | [], _ :: _, _, _, h, _, _ => by cases h
  | _ :: _, [], _, _, h, _, _ => by cases h
  | x :: a, y :: b, p, q, h, ha, hb => by
    have h1 := isd_dv (num_cons ha).1
    have h2 := isd_dv (num_cons hb).1
    show sg (va (10 * p + dv x) a) (va (10 * q + dv y) b) = _
    rw [va_eqlen a b _ _ (by simpa using h) (num_cons ha).2 (num_cons hb).2]
    by_cases hpq : p = q
    · subst hpq
      rw [if_pos rfl]
      rw [cb_cons]
      by_cases hxy : x = y
      · subst hxy
        rw [if_pos rfl, if_neg (UInt8.lt_irrefl _), if_neg (UInt8.lt_irrefl _)]
      · have hne : x.toNat ≠ y.toNat := fun e => hxy (UInt8.toNat_inj.1 e)
        rw [if_neg (by unfold dv; omega)]
        unfold sg dv
        by_cases hlt : x < y
        · have := UInt8.lt_iff_toNat_lt.1 hlt
          rw [if_pos (by omega), if_pos hlt]
        · have h3 : ¬ x.toNat < y.toNat := fun h => hlt (UInt8.lt_iff_toNat_lt.2 h)
          rw [if_neg (by omega), if_pos (by omega), if_neg hlt, if_pos (UInt8.lt_iff_toNat_lt.2 (by omega))]
    · rw [if_neg hpq, if_neg (by omega)]
      unfold sg
      by_cases hlt : p < q
      · rw [if_pos (by omega), if_pos hlt]
      · rw [if_neg (by omega), if_neg hlt, if_pos (by omega), if_pos (by omega)]
theorem va_short : ∀ (b a : List UInt8) (q : Int), a.length ≤ b.length → 1 ≤ q → num a = true → num b = true → va 0 a < va q b
  | b, a, q, h, hq, ha, hb => by
    by_cases he : a.length = b.length
    · have := va_eqlen a b 0 q he ha hb
      rw [if_neg (by omega)] at this
      unfold sg at this
      rw [if_pos (show (0 : Int) < q by omega)] at this
      split at this
      · assumption
      · split at this <;> omega
    · match b, h, hb, he with
      | [], h, _, he => exact absurd (by simpa using h) he
      | y :: b', h, hb, he =>
        have h2 := isd_dv (num_cons hb).1
        exact va_short b' a (10 * q + dv y) (by simp at h he ⊢; omega) (by omega) ha (num_cons hb).2
theorem val_lt {a b : List UInt8} (ha : num a = true) (hb : num b = true) (hz : b.length = 1 ∨ b.head? ≠ some 48) (h1 : 1 ≤ a.length) (hl : a.length < b.length) : va 0 a < va 0 b := by
  match b, hb, hz, hl with
  | [], _, _, hl => simp at hl
  | y :: b', hb, hz, hl =>
    have hy : 1 ≤ dv y := by
      have h2 := isd_dv (num_cons hb).1
      have hz' : (y :: b').head? ≠ some 48 := by
        rcases hz with hz | hz
        · simp at hl hz
          rw [hz] at hl
          simp at hl
          rw [hl] at h1
          simp at h1
        · exact hz
      have : y.toNat ≠ 48 := fun e => hz' (by rw [List.head?_cons]; congr 1; exact UInt8.toNat_inj.1 e)
      unfold dv at h2 ⊢
      omega
    show va 0 a < va (10 * 0 + dv y) b'
    exact va_short b' a _ (by simp at hl; omega) (by omega) ha (num_cons hb).2
theorem u8sub {c : UInt8} (h : isd c = true) : IntKind.wrap .i64 (ksub .u8 (c.toNat : Int) 48) = dv c := by
  have hd := isd_dv h
  unfold dv at hd ⊢
  unfold ksub
  rw [show IntKind.wrap .u8 ((c.toNat : Int) - 48) = (c.toNat : Int) - 48 from ?_, wrap_i64 (by omega)]
  simp only [IntKind.wrap]
  have : IntKind.u8.bits = 8 := rfl
  have h2 : IntKind.u8.signed = false := rfl
  simp [this, h2]
  omega
theorem value_l1 (n : Nat) (s : List UInt8) (hl : s.length ≤ 8) (hs : num s = true) : ∀ (m i : Nat) (p : Int), i ≤ s.length → s.length - i < m → 0 ≤ p → p < 10 ^ (12 - (8 - i)) → ref5_value_l1 n s m p i = some (va p (s.drop i))
  | 0, i, p, _, h, _, _ => by omega
  | m + 1, i, p, hi, hm, h0, hp => by
    simp only [ref5_value_l1]
    by_cases h : i = s.length
    · rw [if_neg (by rw [decide_eq_true_eq]; omega), h, List.drop_length]
      rfl
    · have hlt : i < s.length := by omega
      have hd0 : isd s[i] = true := List.all_eq_true.1 hs _ (List.getElem_mem hlt)
      have hd := isd_dv hd0
      have hb : p < 10 ^ 12 := Int.lt_of_lt_of_le hp (by exact_mod_cast Nat.pow_le_pow_right (by omega) (by omega))
      have hb' : p < 1000000000000 := hb
      rw [if_pos (by rw [decide_eq_true_eq]; omega), gmulI (by omega), bsome, gidx_nat, List.getElem?_eq_getElem hlt, bsome, u8sub hd0, gaddI (by omega), bsome, gadd_nat (by omega), bsome,
        value_l1 n s hl hs m (i + 1) _ (by omega) (by omega) (by omega) ?_, List.drop_eq_getElem_cons hlt]
      · rfl
      · rw [show 12 - (8 - (i + 1)) = (12 - (8 - i)) + 1 by omega, Int.pow_succ]
        omega
theorem value_eq {n : Nat} (hn : 1000 < n) {s : List UInt8} (hl : s.length ≤ 8) (hs : num s = true) : ref5_value n s = some (va 0 s) := by
  unfold ref5_value
  have := value_l1 n s hl hs n 0 0 (by omega) (by omega) (by omega) (by decide)
  simpa using this
theorem toNat_wrap (c : UInt8) : IntKind.wrap .i64 (c.toNat : Int) = (c.toNat : Int) := wrap_byte c
theorem idbytes_l1 (n : Nat) (a b : List UInt8) (hl : a.length ≤ 8) : ∀ (m i : Nat), i ≤ a.length → i ≤ b.length → a.length - i < m → ref5_identifiers_l1 n a b m i = some (let r := cb (a.drop i) (b.drop i); r)
  | 0, i, _, _, h => by omega
  | m + 1, i, hi, hj, hm => by
    simp only [ref5_identifiers_l1]
    unfold ref5_identifiers_j2
    simp only [sign3_eq, bsome, toNat_wrap]
    by_cases h : i = a.length
    · rw [if_neg (by rw [decide_eq_true_eq]; omega), if_neg (by simp), h, List.drop_length]
      congr 1
      by_cases h2 : a.length = b.length
      · rw [h2, List.drop_length]
        unfold sg cb Lib.compareBytes
        simp
      · have : a.length < b.length := by omega
        rw [List.drop_eq_getElem_cons this]
        unfold sg cb Lib.compareBytes
        rw [if_pos (by omega)]
    · have hlt : i < a.length := by omega
      rw [if_pos (by rw [decide_eq_true_eq]; omega)]
      by_cases h2 : i = b.length
      · rw [if_neg (by rw [decide_eq_true_eq]; omega)]
        congr 1
        rw [List.drop_eq_getElem_cons hlt, show b.drop i = [] by rw [h2, List.drop_length]]
        unfold sg cb Lib.compareBytes
        rw [if_neg (by omega), if_pos (by omega)]
      · have hlb : i < b.length := by omega
        rw [if_pos (by rw [decide_eq_true_eq]; omega), gidx_nat, gidx_nat, List.getElem?_eq_getElem hlt, List.getElem?_eq_getElem hlb]
        simp only [bsome]
        rw [gadd_nat (by omega), bsome, List.drop_eq_getElem_cons hlt, List.drop_eq_getElem_cons hlb]
        show _ = some (cb (a[i] :: a.drop (i + 1)) (b[i] :: b.drop (i + 1)))
        rw [show cb (a[i] :: a.drop (i + 1)) (b[i] :: b.drop (i + 1)) = if a[i] < b[i] then -1 else if b[i] < a[i] then 1 else cb (a.drop (i + 1)) (b.drop (i + 1)) from rfl]
        by_cases he : a[i] = b[i]
        · rw [if_neg (by rw [he]; simp), idbytes_l1 n a b hl m (i + 1) (by omega) (by omega) (by omega), he, if_neg (UInt8.lt_irrefl _), if_neg (UInt8.lt_irrefl _)]
        · have hne : a[i].toNat ≠ b[i].toNat := fun e => he (UInt8.toNat_inj.1 e)
          rw [if_pos (by rw [decide_eq_true_eq]; omega)]
          congr 1
          unfold sg
          by_cases hlt' : a[i] < b[i]
          · have := UInt8.lt_iff_toNat_lt.1 hlt'
            rw [if_pos (by omega), if_pos hlt']
          · have h3 : ¬ a[i].toNat < b[i].toNat := fun h => hlt' (UInt8.lt_iff_toNat_lt.2 h)
            rw [if_neg (by omega), if_pos (by omega), if_neg hlt', if_pos (UInt8.lt_iff_toNat_lt.2 (by omega))]
theorem sg_self (x : Int) : sg x x = 0 := by unfold sg; simp
theorem rids_eq {n : Nat} (hn : 1000 < n) {a b : List UInt8} (ha : ident a = true) (hb : ident b = true) : ref5_identifiers n a b = some (ci a b) := by
  obtain ⟨⟨la, la'⟩, -, za⟩ := okb_of_ident ha
  obtain ⟨⟨lb, lb'⟩, -, zb⟩ := okb_of_ident hb
  unfold ref5_identifiers ref5_identifiers_j1 ci
  rw [rnum_eq hn (by omega) (by omega), rnum_eq hn (by omega) (by omega)]
  simp only [bsome]
  have fin := idbytes_l1 n a b la' n 0 (by omega) (by omega) (by omega)
  simp only [List.drop_zero] at fin
  have fin' : ref5_identifiers_l1 n a b n 0 = some (cb a b) := fin
  cases h1 : num a with
  | false =>
    cases h2 : num b with
    | false => simp [fin']
    | true => simp
  | true =>
    rw [if_pos rfl]
    cases h2 : num b with
    | false => simp
    | true =>
      rw [if_pos rfl, value_eq hn la' h1, value_eq hn lb' h2]
      simp only [bsome, sign3_eq]
      rw [if_pos ⟨trivial, trivial⟩]
      congr 1
      by_cases he : a.length = b.length
      · rw [va_eqlen a b 0 0 he h1 h2, if_pos rfl, he, sg_self, if_neg (by simp)]
      · by_cases hlt : a.length < b.length
        · have := val_lt h1 h2 (zb h2) la hlt
          have e1 : sg (va 0 a) (va 0 b) = -1 := if_pos this
          have e2 : sg (a.length : Int) b.length = -1 := if_pos (by omega)
          rw [e1, e2]
          rfl
        · have := val_lt h2 h1 (za h1) lb (by omega)
          have e1 : sg (va 0 a) (va 0 b) = 1 := by unfold sg; rw [if_neg (by omega), if_pos this]
          have e2 : sg (a.length : Int) b.length = 1 := by unfold sg; rw [if_neg (by omega), if_pos (by omega)]
          rw [e1, e2]
          rfl
end Go.Proofs.Ytfdennmaeoahgaa
namespace Go.Proofs.Ytfdennmaeoahgaa
open Go.PW Go
def po : List (List UInt8) → List (List UInt8) → Int
  | [], [] => 0
  | [], _ :: _ => -1
  | _ :: _, [] => 1
  | x :: a, y :: b => if ci x y ≠ 0 then ci x y else po a b
theorem po_cons (x y : List UInt8) (a b : List (List UInt8)) : po (x :: a) (y :: b) = if ci x y ≠ 0 then ci x y else po a b := rfl
theorem po_neg : ∀ (a b : List (List UInt8)), po a b = - po b a
  | [], [] => rfl
  | [], _ :: _ => rfl
  | _ :: _, [] => rfl
  | x :: a, y :: b => by
    rw [po_cons, po_cons, ci_neg x y, po_neg a b]
    by_cases h : ci y x = 0 <;> simp [h]
theorem po_nil (b : List (List UInt8)) : po [] b = sg 0 b.length := by
  cases b with
  | nil => rfl
  | cons y b =>
    show (-1 : Int) = _
    unfold sg
    rw [if_pos (by simp only [List.length_cons]; omega)]
def vo (a b : SMajorMinorPatchPre) : Int :=
  if sg a.Major b.Major ≠ 0 then sg a.Major b.Major else if sg a.Minor b.Minor ≠ 0 then sg a.Minor b.Minor else if sg a.Patch b.Patch ≠ 0 then sg a.Patch b.Patch
  else if a.Pre.length = 0 ∨ b.Pre.length = 0 then sg b.Pre.length a.Pre.length else po a.Pre b.Pre
theorem vo_neg (a b : SMajorMinorPatchPre) : vo a b = - vo b a := by
  unfold vo
  rw [sg_neg a.Major b.Major, sg_neg a.Minor, sg_neg a.Patch, sg_neg (b.Pre.length : Int), po_neg a.Pre]
  by_cases h1 : sg b.Major a.Major = 0
  · by_cases h2 : sg b.Minor a.Minor = 0
    · by_cases h3 : sg b.Patch a.Patch = 0
      · by_cases h4 : a.Pre.length = 0 ∨ b.Pre.length = 0
        · simp only [h1, h2, h3, if_pos h4, if_pos (Or.comm.1 h4)]; simp
        · simp only [h1, h2, h3, if_neg h4, if_neg (fun h => h4 (Or.comm.1 h))]; simp
      · simp [h1, h2, h3]
    · simp [h1, h2]
  · simp [h1]
theorem order_l1 {n : Nat} (hn : 1000 < n) {a b : SMajorMinorPatchPre} (ha : okv a) (hb : okv b) : ∀ (m i : Nat), i ≤ a.Pre.length → i ≤ b.Pre.length → a.Pre.length - i < m → version_Order_l1 n a b m i = some (po (a.Pre.drop i) (b.Pre.drop i))
  | 0, i, _, _, h => by omega
  | m + 1, i, hi, hj, hm => by
    have hla := (okv_pre ha).1
    simp only [version_Order_l1]
    unfold version_Order_j1
    by_cases h : i = a.Pre.length
    · rw [if_neg (by rw [decide_eq_true_eq]; omega), h, List.drop_length, po_nil, List.length_drop]
      unfold sg
      by_cases h2 : a.Pre.length < b.Pre.length
      · rw [if_pos (by rw [decide_eq_true_eq]; omega), if_pos (by omega)]
      · rw [if_neg (by rw [decide_eq_true_eq]; omega), if_neg (by omega), if_neg (by omega)]
    · have hlt : i < a.Pre.length := by omega
      rw [if_pos (by rw [decide_eq_true_eq]; omega), gidx_nat, List.getElem?_eq_getElem hlt, bsome]
      by_cases h2 : i = b.Pre.length
      · rw [if_pos (by rw [decide_eq_true_eq]; omega), List.drop_eq_getElem_cons hlt, show b.Pre.drop i = [] by rw [h2, List.drop_length]]
        rfl
      · have hlb : i < b.Pre.length := by omega
        have ea := (okv_pre ha).2 _ (List.getElem_mem hlt)
        have eb := (okv_pre hb).2 _ (List.getElem_mem hlb)
        rw [if_neg (by rw [decide_eq_true_eq]; omega), gidx_nat, List.getElem?_eq_getElem hlb, bsome, List.drop_eq_getElem_cons hlt, List.drop_eq_getElem_cons hlb, po_cons, numeric_eq n (ascii_of ea), numeric_eq n (ascii_of eb)]
        simp only [bsome]
        have key : ∀ r, version_Order_j2 n i (version_Order_l1 n a b m) r = some (if r ≠ 0 then r else po (a.Pre.drop (i + 1)) (b.Pre.drop (i + 1))) := by
          intro r
          unfold version_Order_j2 version_Order_j1
          rw [gadd_nat (by omega), bsome, order_l1 hn ha hb m (i + 1) (by omega) (by omega) (by omega), ifdec]
          split <;> rfl
        unfold version_Order_j3 strings_Compare
        simp only [bsome, key, compare_eq, or2_eq (show 10 < n by omega)]
        unfold ci
        rw [show libCompare a.Pre[i] b.Pre[i] = cb a.Pre[i] b.Pre[i] from rfl]
        cases num a.Pre[i] <;> cases num b.Pre[i] <;> simp
theorem rorder_l1 {n : Nat} (hn : 1000 < n) {a b : SMajorMinorPatchPre} (ha : okv a) (hb : okv b) : ∀ (m i : Nat), i ≤ a.Pre.length → i ≤ b.Pre.length → a.Pre.length - i < m → ref5_VersionOrder_l1 n a b m i = some (po (a.Pre.drop i) (b.Pre.drop i))
  | 0, i, _, _, h => by omega
  | m + 1, i, hi, hj, hm => by
    have hla := (okv_pre ha).1
    simp only [ref5_VersionOrder_l1]
    unfold ref5_VersionOrder_j2
    simp only [sign3_eq, bsome]
    by_cases h : i = a.Pre.length
    · rw [if_neg (by rw [decide_eq_true_eq]; omega), if_neg (by simp), h, List.drop_length, po_nil, List.length_drop]
      unfold sg
      by_cases h2 : a.Pre.length < b.Pre.length
      · rw [if_pos (by omega), if_pos (by omega)]
      · rw [if_neg (by omega), if_neg (by omega), if_neg (by omega), if_neg (by omega)]
    · have hlt : i < a.Pre.length := by omega
      rw [if_pos (by rw [decide_eq_true_eq]; omega)]
      by_cases h2 : i = b.Pre.length
      · rw [if_neg (by rw [decide_eq_true_eq]; omega), List.drop_eq_getElem_cons hlt, show b.Pre.drop i = [] by rw [h2, List.drop_length]]
        unfold sg
        rw [if_neg (by omega), if_pos (by omega)]
        rfl
      · have hlb : i < b.Pre.length := by omega
        have ea := (okv_pre ha).2 _ (List.getElem_mem hlt)
        have eb := (okv_pre hb).2 _ (List.getElem_mem hlb)
        rw [if_pos (by rw [decide_eq_true_eq]; omega), gidx_nat, gidx_nat, List.getElem?_eq_getElem hlt, List.getElem?_eq_getElem hlb, bsome, bsome, List.drop_eq_getElem_cons hlt, List.drop_eq_getElem_cons hlb, po_cons, rids_eq hn ea eb, bsome, gadd_nat (by omega), bsome,
          rorder_l1 hn ha hb m (i + 1) (by omega) (by omega) (by omega), ifdec]
        split <;> rfl
theorem sg_ne {x y : Int} : sg x y ≠ 0 ↔ x ≠ y := by
  unfold sg
  split
  · simp; omega
  · split
    · simp; omega
    · simp; omega
theorem order_eq {n : Nat} (hn : 1000 < n) {a b : SMajorMinorPatchPre} (ha : okv a) (hb : okv b) : version_Order n a b = some (vo a b) := by
  have fin := order_l1 hn ha hb n 0 (by omega) (by omega) (by have := (okv_pre ha).1; omega)
  simp only [List.drop_zero] at fin
  have fin' : version_Order_l1 n a b n 0 = some (po a.Pre b.Pre) := fin
  unfold version_Order vo
  rw [fin']
  simp only [compare_eq, bsome, or3_eq (show 10 < n by omega), ifdec]
  by_cases h1 : sg a.Major b.Major = 0
  · by_cases h2 : sg a.Minor b.Minor = 0
    · by_cases h3 : sg a.Patch b.Patch = 0
      · simp only [h1, h2, h3]
        by_cases h4 : a.Pre.length = 0 <;> by_cases h5 : b.Pre.length = 0
        · simp [h4, h5, sg_self]
          rw [List.length_eq_zero_iff.1 h4, List.length_eq_zero_iff.1 h5]
          rfl
        · simp [h4, h5]
        · simp [h4, h5]
        · simp [h4, h5]
      · simp [h1, h2, h3]
    · simp [h1, h2]
  · simp [h1]
theorem rorder_eq {n : Nat} (hn : 1000 < n) {a b : SMajorMinorPatchPre} (ha : okv a) (hb : okv b) : ref5_VersionOrder n a b = some (vo a b) := by
  have la := (okv_pre ha).1
  have lb := (okv_pre hb).1
  have fin := rorder_l1 hn ha hb n 0 (by omega) (by omega) (by omega)
  simp only [List.drop_zero] at fin
  have fin' : ref5_VersionOrder_l1 n a b n 0 = some (po a.Pre b.Pre) := fin
  have j1 : ∀ c : Bool, c = decide (a.Pre.length = 0 ∨ b.Pre.length = 0) → ref5_VersionOrder_j1 n a b c = some (if a.Pre.length = 0 ∨ b.Pre.length = 0 then sg b.Pre.length a.Pre.length else po a.Pre b.Pre) := by
    intro c hc
    unfold ref5_VersionOrder_j1
    rw [hc, fin', gaddI (by omega)]
    simp only [sign3_eq, bsome, ifdec]
    split
    · have : sg (↑a.Pre.length + ↑b.Pre.length) 0 = if a.Pre.length = 0 ∧ b.Pre.length = 0 then 0 else 1 := by
        unfold sg
        split
        · omega
        · split
          · rw [if_neg (by omega)]
          · rw [if_pos (by omega)]
      rw [this]
      split
      · rename_i h
        rw [h.1, h.2, sg_self]
        rfl
      · rw [show ∀ x, gmul x 1 = gchk (x * 1) from fun _ => rfl]
        have hb : ∀ x y, -1 ≤ sg x y ∧ sg x y ≤ 1 := by
          intro x y; unfold sg; split
          · omega
          · split <;> omega
        have := hb b.Pre.length a.Pre.length
        rw [Int.mul_one, gchk_ok (by omega), bsome]
    · rfl
  unfold ref5_VersionOrder vo
  simp only [sign3_eq, bsome, ifdec]
  by_cases h1 : a.Major ≠ b.Major
  · rw [if_pos h1, if_pos (sg_ne.2 h1)]
  rw [if_neg h1, if_neg (fun h => h1 (sg_ne.1 h))]
  by_cases h2 : a.Minor ≠ b.Minor
  · rw [if_pos h2, if_pos (sg_ne.2 h2)]
  rw [if_neg h2, if_neg (fun h => h2 (sg_ne.1 h))]
  by_cases h3 : a.Patch ≠ b.Patch
  · rw [if_pos h3, if_pos (sg_ne.2 h3)]
  rw [if_neg h3, if_neg (fun h => h3 (sg_ne.1 h))]
  by_cases h4 : a.Pre.length = 0
  · rw [if_pos (by omega)]
    exact j1 _ (by simp [h4])
  · rw [if_neg (by omega)]
    refine j1 _ ?_
    by_cases h5 : b.Pre.length = 0
    · simp [h5]
    · rw [decide_eq_false (show ¬ ((b.Pre.length : Int) = 0) by omega), decide_eq_false (by omega)]
def isz (v : SMajorMinorPatchPre) : Bool := decide (v.Major = 0 ∧ v.Minor = 0 ∧ v.Patch = 0 ∧ v.Pre.length = 0)
theorem zero_eq (n : Nat) (v : SMajorMinorPatchPre) : version_Zero n v = some (isz v) := by
  unfold version_Zero version_Zero_j1 isz
  simp only [ifdec]
  by_cases h1 : v.Major = 0 <;> by_cases h2 : v.Minor = 0 <;> by_cases h3 : v.Patch = 0 <;> simp [h1, h2, h3]
theorem samezero_eq {n : Nat} (hn : 1000 < n) (v : SMajorMinorPatchPre) : ref5_SameVersion n v (⟨0, 0, 0, ([] : List (List UInt8))⟩ : SMajorMinorPatchPre) = some (isz v) := by
  obtain ⟨k, rfl⟩ : ∃ k, n = k + 1 := ⟨n - 1, by omega⟩
  unfold ref5_SameVersion ref5_SameVersion_j1 isz
  simp only [ref5_SameVersion_l1, ifdec]
  by_cases h1 : v.Major = 0 <;> by_cases h2 : v.Minor = 0 <;> by_cases h3 : v.Patch = 0 <;> by_cases h4 : v.Pre = [] <;> simp [h1, h2, h3, h4]
end Go.Proofs.Ytfdennmaeoahgaa
namespace Go.Proofs.Ytfdennmaeoahgaa
open Go.PW Go
theorem etaV (v : SMajorMinorPatchPre) : (⟨v.Major, v.Minor, v.Patch, v.Pre⟩ : SMajorMinorPatchPre) = v := rfl
theorem etaR (r : SIntervals) : (⟨r.Intervals⟩ : SIntervals) = r := rfl
theorem etaI (r : SLowHighUnbounded) : (⟨r.Low, r.High, r.Unbounded⟩ : SLowHighUnbounded) = r := rfl
theorem beqF (c : SCodeIndex) : ((c.Code == 0 && (c.Index == 0 && true)) != true) = !decide (c = ⟨0, 0⟩) := by
  obtain ⟨a, b⟩ := c
  by_cases h1 : a = 0 <;> by_cases h2 : b = 0 <;> simp [h1, h2]
theorem vfault_iff (v : SMajorMinorPatchPre) : vfault v = ⟨0, 0⟩ ↔ (vfault v).Code = 0 := ⟨fun h => by rw [h], vfault_zero⟩
def icheck (x : SLowHighUnbounded) : Int :=
  if (vfault x.Low).Code = 0 then
    if x.Unbounded = true then (if isz x.High = true then 0 else 5)
    else if (vfault x.High).Code = 0 then (if 0 ≤ vo x.Low x.High then 5 else 0) else (vfault x.High).Code
  else (vfault x.Low).Code
theorem check_eq {n : Nat} (hn : 1000 < n) (x : SLowHighUnbounded) : verrange_check n x = some (icheck x) := by
  unfold verrange_check icheck
  simp only [etaV, validate_eq hn, bsome, beqF, vfault_iff, ifnot, zero_eq]
  by_cases h1 : (vfault x.Low).Code = 0
  · rw [if_pos h1, if_pos h1]
    cases hu : x.Unbounded with
    | true =>
      rw [if_pos rfl, if_pos rfl]
      cases isz x.High <;> rfl
    | false =>
      simp only [Bool.false_eq_true, if_false]
      by_cases h2 : (vfault x.High).Code = 0
      · rw [if_pos h2, if_pos h2, order_eq hn h1 h2, bsome, ifdec]
        split <;> rfl
      · rw [if_neg h2, if_neg h2]
  · rw [if_neg h1, if_neg h1]
def bad (l : List SLowHighUnbounded) (i : Nat) (x : SLowHighUnbounded) : Bool :=
  match i with
  | 0 => false
  | j + 1 => match l[j]? with
    | some e => e.Unbounded || decide (0 ≤ vo e.High x.Low)
    | none => false
theorem bad_succ {l : List SLowHighUnbounded} {j : Nat} {x e : SLowHighUnbounded} (h : l[j]? = some e) : bad l (j + 1) x = (e.Unbounded || decide (0 ≤ vo e.High x.Low)) := by
  show (match l[j]? with | some e => e.Unbounded || decide (0 ≤ vo e.High x.Low) | none => false) = _
  rw [h]
def istep (l : List SLowHighUnbounded) (_ : Unit) (i : Nat) (x : SLowHighUnbounded) : SCodeIndex ⊕ Unit :=
  if icheck x = 0 then (if bad l i x = true then .inl ⟨5, i⟩ else .inr ()) else .inl ⟨icheck x, i⟩
def rfault (r : SIntervals) : SCodeIndex :=
  if 12 < r.Intervals.length then ⟨2, -1⟩ else run (istep r.Intervals) (fun _ => ⟨0, 0⟩) () 0 r.Intervals
def okr (r : SIntervals) : Prop := (rfault r).Code = 0
theorem okI {x : SLowHighUnbounded} (h : icheck x = 0) : okv x.Low ∧ (x.Unbounded = false → okv x.High) := by
  unfold icheck at h
  by_cases h1 : (vfault x.Low).Code = 0
  · rw [if_pos h1] at h
    refine ⟨h1, fun hu => ?_⟩
    rw [if_neg (by rw [hu]; simp)] at h
    by_cases h2 : (vfault x.High).Code = 0
    · exact h2
    · rw [if_neg h2] at h; exact absurd h h2
  · rw [if_neg h1] at h; exact absurd h h1
theorem istep_r {l : List SLowHighUnbounded} {s : Unit} {i : Nat} {x : SLowHighUnbounded} {s' : Unit} (h : istep l s i x = .inr s') : icheck x = 0 := by
  unfold istep at h
  by_cases h1 : icheck x = 0
  · exact h1
  · rw [if_neg h1] at h; cases h
theorem istep_l {l : List SLowHighUnbounded} {s : Unit} {i : Nat} {x : SLowHighUnbounded} {r : SCodeIndex} (h : istep l s i x = .inl r) : r.Code ≠ 0 := by
  unfold istep at h
  by_cases h1 : icheck x = 0
  · rw [if_pos h1] at h
    split at h
    · injection h with h; subst h; simp
    · cases h
  · rw [if_neg h1] at h
    injection h with h; subst h; exact h1
theorem okr_all {r : SIntervals} (h : okr r) : r.Intervals.length ≤ 12 ∧ ∀ x ∈ r.Intervals, icheck x = 0 := by
  unfold okr rfault at h
  split at h
  · cases h
  exact ⟨by omega, run_all (fun r : SCodeIndex => r.Code = 0) (fun x => icheck x = 0) (fun _ _ _ _ h => istep_l h) (fun _ _ _ _ h => istep_r h) _ _ _ h⟩
theorem rfault_zero {r : SIntervals} (h : (rfault r).Code = 0) : rfault r = ⟨0, 0⟩ := by
  have : (rfault r).Code = 0 → rfault r = ⟨0, 0⟩ := by
    unfold rfault
    split
    · intro h; cases h
    exact run_pred (fun r : SCodeIndex => r.Code = 0 → r = ⟨0, 0⟩) (fun _ _ _ _ h h0 => absurd h0 (istep_l h)) (fun _ _ => rfl) _ _ _
  exact this h
theorem rfault_iff (v : SIntervals) : rfault v = ⟨0, 0⟩ ↔ (rfault v).Code = 0 := ⟨fun h => by rw [h], rfault_zero⟩
def okUpto (l : List SLowHighUnbounded) (_ : Unit) (i : Nat) : Prop := ∀ j < i, ∀ y, l[j]? = some y → icheck y = 0
theorem okUpto_next {l : List SLowHighUnbounded} (s : Unit) (i : Nat) (x : SLowHighUnbounded) (s' : Unit) (h : okUpto l s i) (hx : l[i]? = some x) (hf : istep l s i x = .inr s') : okUpto l s' (i + 1) := by
  intro j hj y hy
  by_cases e : j = i
  · subst e; rw [hx] at hy; injection hy with hy; subst hy; exact istep_r hf
  · exact h j (by omega) y hy
theorem rangeValidate_eq {n : Nat} (hn : 1000 < n) (r : SIntervals) : verrange_Validate n r = some (rfault r) := by
  unfold verrange_Validate rfault
  rw [ifdec]
  by_cases hl : 12 < r.Intervals.length
  · rw [if_pos (by omega), if_pos hl]
  rw [if_neg (by omega), if_neg hl]
  refine loop_eq (l := r.Intervals) (L := fun m _ i => verrange_Validate_l1 n r m i) _ _ (okUpto r.Intervals) ?_ okUpto_next ?_ n () 0 (fun j h => by omega) (by omega) (by omega)
  · intro m s i x hok hi hx
    show verrange_Validate_l1 n r (m + 1) i = _
    simp only [verrange_Validate_l1]
    rw [if_pos (by rw [decide_eq_true_eq]; omega), gidx_nat, hx]
    simp only [bsome, etaV, etaI, check_eq hn]
    have j1 : ∀ c : Int, verrange_Validate_j1 n i (verrange_Validate_l1 n r m) c = nxt (fun _ => verrange_Validate_l1 n r m ((i + 1 : Nat) : Int)) (if c = 0 then .inr () else .inl ⟨c, i⟩) := by
      intro c
      unfold verrange_Validate_j1
      rw [ifdec, gadd_nat (by omega), bsome]
      by_cases hc : c = 0
      · rw [if_neg (by simpa using hc), if_pos hc, nxt_r]
      · rw [if_pos hc, if_neg hc, nxt_l]
    rw [ifdec]
    unfold istep
    by_cases hc : icheck x = 0
    · rw [if_pos hc, if_pos hc]
      unfold verrange_Validate_j2 verrange_Validate_j3
      cases i with
      | zero =>
        rw [if_neg (by simp), j1, if_pos hc]
        rfl
      | succ j =>
        rw [if_pos (by rw [decide_eq_true_eq]; omega), gsubI (by omega), bsome, show ((j + 1 : Nat) : Int) - 1 = (j : Int) by omega, gidx_nat, getElem?_lt (show j < r.Intervals.length by omega), bsome]
        have hp := okI (hok j (by omega) _ (getElem?_lt (show j < r.Intervals.length by omega)))
        have hb : bad r.Intervals (j + 1) x = (r.Intervals[j].Unbounded || decide (0 ≤ vo r.Intervals[j].High x.Low)) := bad_succ (getElem?_lt (show j < r.Intervals.length by omega))
        rw [hb]
        cases hu : r.Intervals[j].Unbounded with
        | true => rw [if_pos rfl, if_pos rfl, j1, if_neg (by omega), if_pos (by simp)]
        | false =>
          rw [if_neg (by simp), etaV, order_eq hn (hp.2 hu) (okI hc).1, bsome, Bool.false_or]
          by_cases hv : 0 ≤ vo r.Intervals[j].High x.Low
          · rw [decide_eq_true hv, if_pos rfl, if_pos rfl, j1, if_neg (by omega)]
          · rw [decide_eq_false hv, if_neg (by simp), if_neg (by simp), j1, if_pos hc]
    · rw [if_neg hc, if_neg hc]
      unfold verrange_Validate_j2
      rw [if_neg (by simp), j1, if_neg hc]
  · intro m s _
    show verrange_Validate_l1 n r (m + 1) _ = _
    simp only [verrange_Validate_l1]
    rw [if_neg (by rw [decide_eq_true_eq]; omega)]
theorem rangeFault_eq {n : Nat} (hn : 1000 < n) (r : SIntervals) : ref5_RangeFault n r = some (rfault r) := by
  unfold ref5_RangeFault rfault ref5_fault
  rw [ifdec]
  by_cases hl : 12 < r.Intervals.length
  · rw [if_pos (by omega), if_pos hl, bsome]
  rw [if_neg (by omega), if_neg hl]
  refine loop_eq (l := r.Intervals) (L := fun m _ i => ref5_RangeFault_l1 n r m i) _ _ (okUpto r.Intervals) ?_ okUpto_next ?_ n () 0 (fun j h => by omega) (by omega) (by omega)
  · intro m s i x hok hi hx
    show ref5_RangeFault_l1 n r (m + 1) i = _
    simp only [ref5_RangeFault_l1]
    rw [if_pos (by rw [decide_eq_true_eq]; omega), gidx_nat, hx]
    simp only [bsome, etaV, rvfault_eq hn, samezero_eq hn]
    have j3 : ∀ c : Bool, ref5_RangeFault_j3 n i (ref5_RangeFault_l1 n r m) c = nxt (fun _ => ref5_RangeFault_l1 n r m ((i + 1 : Nat) : Int)) (if c = true then .inl ⟨5, i⟩ else .inr ()) := by
      intro c
      unfold ref5_RangeFault_j3 ref5_fault
      rw [gadd_nat (by omega), bsome, bsome]
      cases c <;> rfl
    have j2 : okv x.Low → ref5_RangeFault_j2 n r i (ref5_RangeFault_l1 n r m) x = nxt (fun _ => ref5_RangeFault_l1 n r m ((i + 1 : Nat) : Int)) (if bad r.Intervals i x = true then .inl ⟨5, i⟩ else .inr ()) := by
      intro hlow
      unfold ref5_RangeFault_j2
      cases i with
      | zero =>
        rw [if_neg (by simp), j3]
        rfl
      | succ j =>
        have hj : j < r.Intervals.length := by omega
        rw [if_pos (by rw [decide_eq_true_eq]; omega), gsubI (by omega), bsome, show ((j + 1 : Nat) : Int) - 1 = (j : Int) by omega, gidx_nat, getElem?_lt hj, bsome]
        have hp := okI (hok j (by omega) _ (getElem?_lt hj))
        have hb : bad r.Intervals (j + 1) x = (r.Intervals[j].Unbounded || decide (0 ≤ vo r.Intervals[j].High x.Low)) := bad_succ (getElem?_lt hj)
        rw [hb]
        cases hu : r.Intervals[j].Unbounded with
        | true =>
          rw [if_pos rfl, j3, if_pos rfl, if_pos (by simp)]
        | false =>
          simp only [bsome]
          rw [if_neg (by simp), gidx_nat, getElem?_lt hj, bsome, etaV, rorder_eq hn (hp.2 hu) hlow, bsome, Bool.false_or, j3]
    unfold istep icheck ref5_fault
    by_cases h1 : (vfault x.Low).Code = 0
    · rw [if_neg (by simp [h1]), if_pos h1]
      unfold ref5_RangeFault_j1 ref5_fault
      simp only [bsome]
      cases hu : x.Unbounded with
      | true =>
        rw [if_pos rfl, if_pos rfl]
        cases hz : isz x.High with
        | false =>
          simp [nxt]
        | true =>
          simp only [Bool.not_true, Bool.false_eq_true, if_false, if_true]
          exact j2 h1
      | false =>
        simp only [Bool.not_false, Bool.false_eq_true, if_false, if_true, etaV, rvfault_eq hn, bsome]
        by_cases h2 : (vfault x.High).Code = 0
        · rw [if_neg (by simp [h2]), rorder_eq hn h1 h2, bsome, ifdec, if_pos h2]
          by_cases hv : 0 ≤ vo x.Low x.High
          · rw [if_pos hv, if_pos hv, if_neg (by simp), nxt_l]
          · rw [if_neg hv, if_neg hv, if_pos rfl, j2 h1]
        · rw [if_pos (by simpa using h2), if_neg h2, if_neg h2, nxt_l]
    · rw [if_pos (by simpa using h1), if_neg h1, if_neg h1, nxt_l, bsome]
  · intro m s _
    show ref5_RangeFault_l1 n r (m + 1) _ = _
    simp only [ref5_RangeFault_l1]
    rw [if_neg (by rw [decide_eq_true_eq]; omega)]
end Go.Proofs.Ytfdennmaeoahgaa
namespace Go.Proofs.Ytfdennmaeoahgaa
open Go.PW Go
theorem run_ok {α R : Type} {f : Unit → Nat → α → R ⊕ Unit} {z : R} : ∀ {l : List α} {i : Nat}, (∀ k x, l[k]? = some x → f () (i + k) x = .inr ()) → run f (fun _ => z) () i l = z
  | [], _, _ => rfl
  | x :: l, i, h => by
    unfold run
    have h0 := h 0 x rfl
    rw [Nat.add_zero] at h0
    rw [h0]
    refine run_ok fun k y hy => ?_
    have := h (k + 1) y hy
    rw [show i + (k + 1) = i + 1 + k by omega] at this
    exact this
theorem run_inv {α R : Type} {f : Unit → Nat → α → R ⊕ Unit} {z : R} (Q : R → Prop) (hinl : ∀ i x r, f () i x = .inl r → ¬ Q r) : ∀ {l : List α} {i : Nat}, Q (run f (fun _ => z) () i l) → ∀ k x, l[k]? = some x → f () (i + k) x = .inr ()
  | [], _, _, k, x, h => by simp at h
  | y :: l, i, hq, k, x, h => by
    unfold run at hq
    cases hf : f () i y with
    | inl r => rw [hf] at hq; exact absurd hq (hinl i y r hf)
    | inr s =>
      rw [hf] at hq
      match k, h with
      | 0, h => injection h with h; subst h; exact hf
      | k + 1, h =>
        have := run_inv Q hinl hq k x h
        rw [show i + (k + 1) = i + 1 + k by omega]
        exact this
def pbad (l : List SPackageRange) (i : Nat) (x : SPackageRange) : Bool :=
  match i with
  | 0 => false
  | j + 1 => match l[j]? with
    | some e => decide (x.Package ≤ e.Package)
    | none => false
theorem pbad_succ {l : List SPackageRange} {j : Nat} {x e : SPackageRange} (h : l[j]? = some e) : pbad l (j + 1) x = decide (x.Package ≤ e.Package) := by
  show (match l[j]? with | some e => decide (x.Package ≤ e.Package) | none => false) = _
  rw [h]
def nstep (np : Int) (l : List SPackageRange) (_ : Unit) (i : Nat) (x : SPackageRange) : Int ⊕ Unit :=
  if 0 ≤ x.Package ∧ x.Package < np then
    if (rfault x.Range).Code = 0 then (if pbad l i x = true then .inl 5 else .inr ()) else .inl (rfault x.Range).Code
  else .inl 3
def ncode (np : Int) (l : List SPackageRange) : Int := if 4 < l.length then 2 else run (nstep np l) (fun _ => 0) () 0 l
theorem needs_eq {n : Nat} (hn : 1000 < n) (np : Int) (l : List SPackageRange) : solver_Needs n l np = some (ncode np l) := by
  unfold solver_Needs ncode
  rw [ifdec]
  by_cases hl : 4 < l.length
  · rw [if_pos (by omega), if_pos hl]
  rw [if_neg (by omega), if_neg hl]
  refine loop_eq (l := l) (L := fun m _ i => solver_Needs_l1 n l np m i) _ _ (fun _ _ => True) ?_ (fun _ _ _ _ _ _ _ => trivial) ?_ n () 0 trivial (by omega) (by omega)
  · intro m s i x _ hi hx
    show solver_Needs_l1 n l np (m + 1) i = _
    simp only [solver_Needs_l1]
    rw [if_pos (by rw [decide_eq_true_eq]; omega), gidx_nat, hx, bsome]
    have j2 : ∀ c : Bool, solver_Needs_j2 n i (solver_Needs_l1 n l np m) c = nxt (fun _ => solver_Needs_l1 n l np m ((i + 1 : Nat) : Int)) (if c = true then .inl 5 else .inr ()) := by
      intro c
      unfold solver_Needs_j2
      rw [gadd_nat (by omega), bsome]
      cases c <;> rfl
    have j1 : ∀ c : Bool, solver_Needs_j1 n l i (solver_Needs_l1 n l np m) x c = nxt (fun _ => solver_Needs_l1 n l np m ((i + 1 : Nat) : Int)) (if c = true then .inl 3 else if (rfault x.Range).Code = 0 then (if pbad l i x = true then .inl 5 else .inr ()) else .inl (rfault x.Range).Code) := by
      intro c
      unfold solver_Needs_j1
      cases c with
      | true => rfl
      | false =>
        simp only [Bool.false_eq_true, if_false]
        rw [etaR, rangeValidate_eq hn, bsome, beqF]
        simp only [ifnot, rfault_iff]
        by_cases h1 : (rfault x.Range).Code = 0
        · rw [if_pos h1, if_pos h1]
          cases i with
          | zero =>
            rw [if_neg (by simp), j2]
            rfl
          | succ j =>
            have hj : j < l.length := by omega
            rw [if_pos (by rw [decide_eq_true_eq]; omega), gsubI (by omega), bsome, show ((j + 1 : Nat) : Int) - 1 = (j : Int) by omega, gidx_nat, getElem?_lt hj, bsome, j2, pbad_succ (getElem?_lt hj)]
        · rw [if_neg h1, if_neg h1, nxt_l]
    unfold nstep
    rw [j1, j1, ifdec, if_pos rfl]
    by_cases h0 : x.Package < 0
    · rw [if_pos h0, if_neg (by omega)]
    · rw [if_neg h0]
      by_cases h1 : np ≤ x.Package
      · rw [decide_eq_true h1, if_pos rfl, if_neg (by omega)]
      · rw [decide_eq_false h1, if_neg (by simp), if_pos (show 0 ≤ x.Package ∧ x.Package < np by omega)]
  · intro m s _
    show solver_Needs_l1 n l np (m + 1) _ = _
    simp only [solver_Needs_l1]
    rw [if_neg (by rw [decide_eq_true_eq]; omega)]
theorem rneeds_eq {n : Nat} (hn : 1000 < n) {np : Int} (hp : 0 ≤ np ∧ np ≤ 1000) (l : List SPackageRange) : ref5_NeedsCode n np l = some (ncode np l) := by
  unfold ref5_NeedsCode ncode
  rw [ifdec]
  by_cases hl : 4 < l.length
  · rw [if_pos (by omega), if_pos hl]
  rw [if_neg (by omega), if_neg hl]
  refine loop_eq (l := l) (L := fun m _ i => ref5_NeedsCode_l1 n np l m i) _ _ (fun _ _ => True) ?_ (fun _ _ _ _ _ _ _ => trivial) ?_ n () 0 trivial (by omega) (by omega)
  · intro m s i x _ hi hx
    show ref5_NeedsCode_l1 n np l (m + 1) i = _
    simp only [ref5_NeedsCode_l1]
    rw [if_pos (by rw [decide_eq_true_eq]; omega), gidx_nat, hx, bsome, gsubI (by omega), bsome, ref_in5, bsome, etaR, rangeFault_eq hn, bsome]
    have j1 : ∀ c : Bool, ref5_NeedsCode_j1 n i (ref5_NeedsCode_l1 n np l m) c = nxt (fun _ => ref5_NeedsCode_l1 n np l m ((i + 1 : Nat) : Int)) (if c = true then .inl 5 else .inr ()) := by
      intro c
      unfold ref5_NeedsCode_j1
      rw [gadd_nat (by omega), bsome]
      cases c <;> rfl
    unfold nstep
    rw [ifnot, ifdec]
    by_cases h0 : 0 ≤ x.Package ∧ x.Package < np
    · rw [if_pos (by omega), if_pos h0]
      by_cases h1 : (rfault x.Range).Code = 0
      · rw [if_neg (by simp [h1]), if_pos h1]
        cases i with
        | zero =>
          rw [if_neg (by simp), j1]
          rfl
        | succ j =>
          have hj : j < l.length := by omega
          rw [if_pos (by rw [decide_eq_true_eq]; omega), gsubI (by omega), bsome, show ((j + 1 : Nat) : Int) - 1 = (j : Int) by omega, gidx_nat, getElem?_lt hj, bsome, j1, pbad_succ (getElem?_lt hj)]
      · rw [if_pos h1, if_neg h1, nxt_l]
    · rw [if_neg (by omega), if_neg h0, nxt_l]
  · intro m s _
    show ref5_NeedsCode_l1 n np l (m + 1) _ = _
    simp only [ref5_NeedsCode_l1]
    rw [if_neg (by rw [decide_eq_true_eq]; omega)]
theorem nstep_l {np : Int} {l : List SPackageRange} {i : Nat} {x : SPackageRange} {r : Int} (h : nstep np l () i x = .inl r) : ¬ r = 0 := by
  unfold nstep at h
  split at h
  · split at h
    · split at h
      · injection h with h; omega
      · cases h
    · injection h with h; omega
  · injection h with h; omega
theorem nstep_r {np : Int} {l : List SPackageRange} {i : Nat} {x : SPackageRange} : nstep np l () i x = .inr () ↔ (0 ≤ x.Package ∧ x.Package < np) ∧ okr x.Range ∧ pbad l i x = false := by
  unfold nstep okr
  by_cases h1 : 0 ≤ x.Package ∧ x.Package < np
  · rw [if_pos h1]
    by_cases h2 : (rfault x.Range).Code = 0
    · rw [if_pos h2]
      cases pbad l i x <;> simp [h1, h2]
    · rw [if_neg h2]; simp [h2]
  · rw [if_neg h1]; simp; intro a b; exact absurd ⟨a, b⟩ h1
theorem ncode_iff {np : Int} {l : List SPackageRange} : ncode np l = 0 ↔ l.length ≤ 4 ∧ (∀ x ∈ l, (0 ≤ x.Package ∧ x.Package < np) ∧ okr x.Range) ∧ l.Pairwise (fun a b => a.Package < b.Package) := by
  constructor
  · intro h
    unfold ncode at h
    by_cases hl : 4 < l.length
    · rw [if_pos hl] at h; cases h
    rw [if_neg hl] at h
    have hk := run_inv (fun r => r = 0) (fun _ _ _ h => nstep_l h) h
    have hk' : ∀ k x, l[k]? = some x → (0 ≤ x.Package ∧ x.Package < np) ∧ okr x.Range ∧ pbad l k x = false := by
      intro k x hx
      have := hk k x hx
      rw [Nat.zero_add] at this
      exact nstep_r.1 this
    refine ⟨by omega, fun x hx => ?_, ?_⟩
    · obtain ⟨k, hk⟩ := List.getElem?_of_mem hx
      exact ⟨(hk' k x hk).1, (hk' k x hk).2.1⟩
    · rw [List.pairwise_iff_getElem]
      intro i j hi hj hij
      induction j with
      | zero => omega
      | succ j ih =>
        have hb := (hk' (j + 1) _ (getElem?_lt hj)).2.2
        rw [pbad_succ (getElem?_lt (show j < l.length by omega)), decide_eq_false_iff_not] at hb
        by_cases e : i = j
        · subst e; omega
        · have := ih (by omega) (by omega)
          omega
  · rintro ⟨h1, h2, h3⟩
    unfold ncode
    rw [if_neg (by omega)]
    refine run_ok fun k x hx => ?_
    rw [Nat.zero_add]
    refine nstep_r.2 ⟨(h2 x (get_mem hx)).1, (h2 x (get_mem hx)).2, ?_⟩
    match k, hx with
    | 0, _ => rfl
    | j + 1, hx =>
      have hj := get_lt hx
      rw [pbad_succ (getElem?_lt (show j < l.length by omega)), decide_eq_false_iff_not]
      rw [List.pairwise_iff_getElem] at h3
      have := h3 j (j + 1) (by omega) hj (by omega)
      rw [getElem?_lt hj] at hx
      injection hx with hx
      rw [hx] at this
      omega
theorem ncode_sub {np : Int} {l l' : List SPackageRange} (h : ncode np l = 0) (hs : l'.Sublist l) : ncode np l' = 0 := by
  obtain ⟨h1, h2, h3⟩ := ncode_iff.1 h
  exact ncode_iff.2 ⟨by have := hs.length_le; omega, fun x hx => h2 x (hs.subset hx), h3.sublist hs⟩
def vbad (l : List SVersionNeeds) (i : Nat) (x : SVersionNeeds) : Bool :=
  match i with
  | 0 => false
  | j + 1 => match l[j]? with
    | some e => decide (vo x.Version e.Version ≤ 0)
    | none => false
theorem vbad_succ {l : List SVersionNeeds} {j : Nat} {x e : SVersionNeeds} (h : l[j]? = some e) : vbad l (j + 1) x = decide (vo x.Version e.Version ≤ 0) := by
  show (match l[j]? with | some e => decide (vo x.Version e.Version ≤ 0) | none => false) = _
  rw [h]
def rstep (np : Int) (l : List SVersionNeeds) (_ : Unit) (i : Nat) (x : SVersionNeeds) : Int ⊕ Unit :=
  if (vfault x.Version).Code = 0 then
    if vbad l i x = true then .inl 5 else if ncode np x.Needs = 0 then .inr () else .inl (ncode np x.Needs)
  else .inl (vfault x.Version).Code
def rcode (np : Int) (l : List SVersionNeeds) : Int := if 4 < l.length then 2 else run (rstep np l) (fun _ => 0) () 0 l
theorem rstep_l {np : Int} {l : List SVersionNeeds} {i : Nat} {x : SVersionNeeds} {r : Int} (h : rstep np l () i x = .inl r) : ¬ r = 0 := by
  unfold rstep at h
  split at h
  · split at h
    · injection h with h; omega
    · split at h
      · cases h
      · injection h with h; omega
  · injection h with h; omega
theorem rstep_r {np : Int} {l : List SVersionNeeds} {i : Nat} {x : SVersionNeeds} : rstep np l () i x = .inr () ↔ okv x.Version ∧ ncode np x.Needs = 0 ∧ vbad l i x = false := by
  unfold rstep okv
  by_cases h1 : (vfault x.Version).Code = 0
  · rw [if_pos h1]
    by_cases h2 : ncode np x.Needs = 0
    · cases vbad l i x <;> simp [h1, h2]
    · cases vbad l i x <;> simp [h2]
  · rw [if_neg h1]; simp [h1]
def okUptoV (l : List SVersionNeeds) (_ : Unit) (i : Nat) : Prop := ∀ j < i, ∀ y, l[j]? = some y → okv y.Version
theorem okUptoV_next {np : Int} {l : List SVersionNeeds} (s : Unit) (i : Nat) (x : SVersionNeeds) (s' : Unit) (h : okUptoV l s i) (hx : l[i]? = some x) (hf : rstep np l s i x = .inr s') : okUptoV l s' (i + 1) := by
  intro j hj y hy
  by_cases e : j = i
  · subst e; rw [hx] at hy; injection hy with hy; subst hy; exact (rstep_r.1 hf).1
  · exact h j (by omega) y hy
theorem releases_eq {n : Nat} (hn : 1000 < n) (np : Int) (l : List SVersionNeeds) : solver_releases n l np = some (rcode np l) := by
  unfold solver_releases rcode
  rw [ifdec]
  by_cases hl : 4 < l.length
  · rw [if_pos (by omega), if_pos hl]
  rw [if_neg (by omega), if_neg hl]
  refine loop_eq (l := l) (L := fun m _ i => solver_releases_l1 n l np m i) _ _ (okUptoV l) ?_ okUptoV_next ?_ n () 0 (fun j h => by omega) (by omega) (by omega)
  · intro m s i x hok hi hx
    show solver_releases_l1 n l np (m + 1) i = _
    simp only [solver_releases_l1]
    rw [if_pos (by rw [decide_eq_true_eq]; omega), gidx_nat, hx]
    simp only [bsome, etaV, validate_eq hn, beqF, vfault_iff, ifnot]
    have j1 : ∀ c : Bool, solver_releases_j1 n np i (solver_releases_l1 n l np m) x c = nxt (fun _ => solver_releases_l1 n l np m ((i + 1 : Nat) : Int)) (if c = true then .inl 5 else if ncode np x.Needs = 0 then .inr () else .inl (ncode np x.Needs)) := by
      intro c
      unfold solver_releases_j1
      rw [gadd_nat (by omega), bsome, needs_eq hn, bsome]
      cases c with
      | true => rfl
      | false =>
        simp only [Bool.false_eq_true, if_false]
        rw [ifdec]
        by_cases h : ncode np x.Needs = 0
        · rw [if_neg (fun e => e h), if_pos h, nxt_r]
        · rw [if_pos h, if_neg h, nxt_l]
    unfold rstep
    by_cases h1 : (vfault x.Version).Code = 0
    · rw [if_pos h1, if_pos h1]
      cases i with
      | zero =>
        rw [if_neg (by simp), j1]
        rfl
      | succ j =>
        have hj : j < l.length := by omega
        rw [if_pos (by rw [decide_eq_true_eq]; omega), gsubI (by omega), bsome, show ((j + 1 : Nat) : Int) - 1 = (j : Int) by omega, gidx_nat, getElem?_lt hj, bsome, order_eq hn h1 (hok j (by omega) _ (getElem?_lt hj)), bsome, j1, vbad_succ (getElem?_lt hj)]
    · rw [if_neg h1, if_neg h1, nxt_l]
  · intro m s _
    show solver_releases_l1 n l np (m + 1) _ = _
    simp only [solver_releases_l1]
    rw [if_neg (by rw [decide_eq_true_eq]; omega)]
theorem rreleases_eq {n : Nat} (hn : 1000 < n) {np : Int} (hp : 0 ≤ np ∧ np ≤ 1000) (l : List SVersionNeeds) : ref5_ReleasesCode n np l = some (rcode np l) := by
  unfold ref5_ReleasesCode rcode
  rw [ifdec]
  by_cases hl : 4 < l.length
  · rw [if_pos (by omega), if_pos hl]
  rw [if_neg (by omega), if_neg hl]
  refine loop_eq (l := l) (L := fun m _ i => ref5_ReleasesCode_l1 n np l m i) _ _ (okUptoV l) ?_ okUptoV_next ?_ n () 0 (fun j h => by omega) (by omega) (by omega)
  · intro m s i x hok hi hx
    show ref5_ReleasesCode_l1 n np l (m + 1) i = _
    simp only [ref5_ReleasesCode_l1]
    rw [if_pos (by rw [decide_eq_true_eq]; omega), gidx_nat, hx]
    simp only [bsome, etaV, rvfault_eq hn]
    have j1 : ∀ c : Bool, ref5_ReleasesCode_j1 n np i (ref5_ReleasesCode_l1 n np l m) x c = nxt (fun _ => ref5_ReleasesCode_l1 n np l m ((i + 1 : Nat) : Int)) (if c = true then .inl 5 else if ncode np x.Needs = 0 then .inr () else .inl (ncode np x.Needs)) := by
      intro c
      unfold ref5_ReleasesCode_j1
      rw [gadd_nat (by omega), bsome, rneeds_eq hn hp, bsome]
      cases c with
      | true => rfl
      | false =>
        simp only [Bool.false_eq_true, if_false]
        rw [ifdec]
        by_cases h : ncode np x.Needs = 0
        · rw [if_neg (fun e => e h), if_pos h, nxt_r]
        · rw [if_pos h, if_neg h, nxt_l]
    unfold rstep
    rw [ifdec]
    by_cases h1 : (vfault x.Version).Code = 0
    · rw [if_neg (fun e => e h1), if_pos h1]
      cases i with
      | zero =>
        rw [if_neg (by simp), j1]
        rfl
      | succ j =>
        have hj : j < l.length := by omega
        rw [if_pos (by rw [decide_eq_true_eq]; omega), gsubI (by omega), bsome, show ((j + 1 : Nat) : Int) - 1 = (j : Int) by omega, gidx_nat, getElem?_lt hj, bsome, rorder_eq hn (hok j (by omega) _ (getElem?_lt hj)) h1, bsome, j1, vbad_succ (getElem?_lt hj), vo_neg x.Version]
        have : decide (0 ≤ vo l[j].Version x.Version) = decide (-vo l[j].Version x.Version ≤ 0) := by
          by_cases h : 0 ≤ vo l[j].Version x.Version
          · rw [decide_eq_true h, decide_eq_true (by omega)]
          · rw [decide_eq_false h, decide_eq_false (by omega)]
        rw [this]
    · rw [if_pos h1, if_neg h1, nxt_l]
  · intro m s _
    show ref5_ReleasesCode_l1 n np l (m + 1) _ = _
    simp only [ref5_ReleasesCode_l1]
    rw [if_neg (by rw [decide_eq_true_eq]; omega)]
theorem rcode_iff {np : Int} {l : List SVersionNeeds} : rcode np l = 0 ↔ l.length ≤ 4 ∧ ∀ k x, l[k]? = some x → okv x.Version ∧ ncode np x.Needs = 0 ∧ vbad l k x = false := by
  constructor
  · intro h
    unfold rcode at h
    by_cases hl : 4 < l.length
    · rw [if_pos hl] at h; cases h
    rw [if_neg hl] at h
    refine ⟨by omega, fun k x hx => ?_⟩
    have := run_inv (fun r => r = 0) (fun _ _ _ h => rstep_l h) h k x hx
    rw [Nat.zero_add] at this
    exact rstep_r.1 this
  · rintro ⟨h1, h2⟩
    unfold rcode
    rw [if_neg (by omega)]
    refine run_ok fun k x hx => ?_
    rw [Nat.zero_add]
    exact rstep_r.2 (h2 k x hx)
def ustep (np : Int) (_ : Unit) (i : Nat) (x : List SVersionNeeds) : SCodeIndex ⊕ Unit := if rcode np x = 0 then .inr () else .inl ⟨rcode np x, i⟩
def ufault (u : SPackages) : SCodeIndex := if 6 < u.Packages.length then ⟨2, -1⟩ else run (ustep u.Packages.length) (fun _ => ⟨0, 0⟩) () 0 u.Packages
def afault (u : SPackages) (w : List SPackageRange) : SCodeIndex :=
  if (ufault u).Code = 0 then (if ncode u.Packages.length w = 0 then ⟨0, 0⟩ else ⟨ncode u.Packages.length w, -2⟩) else ufault u
theorem ustep_l {np : Int} {i : Nat} {x : List SVersionNeeds} {r : SCodeIndex} (h : ustep np () i x = .inl r) : ¬ r.Code = 0 := by
  unfold ustep at h
  split at h
  · cases h
  · injection h with h; subst h; assumption
theorem ufault_iff (u : SPackages) : ufault u = ⟨0, 0⟩ ↔ (ufault u).Code = 0 := by
  refine ⟨fun h => by rw [h], fun h => ?_⟩
  have : (ufault u).Code = 0 → ufault u = ⟨0, 0⟩ := by
    unfold ufault
    split
    · intro h; cases h
    exact run_pred (fun r : SCodeIndex => r.Code = 0 → r = ⟨0, 0⟩) (fun _ _ _ _ h h0 => absurd h0 (ustep_l h)) (fun _ _ => rfl) _ _ _
  exact this h
theorem uvalidate_eq {n : Nat} (hn : 1000 < n) (u : SPackages) : solver_Validate n u = some (ufault u) := by
  unfold solver_Validate ufault
  rw [ifdec]
  by_cases hl : 6 < u.Packages.length
  · rw [if_pos (by omega), if_pos hl]
  rw [if_neg (by omega), if_neg hl]
  refine loop_eq (l := u.Packages) (L := fun m _ i => solver_Validate_l1 n u m i) _ _ (fun _ _ => True) ?_ (fun _ _ _ _ _ _ _ => trivial) ?_ n () 0 trivial (by omega) (by omega)
  · intro m s i x _ hi hx
    show solver_Validate_l1 n u (m + 1) i = _
    simp only [solver_Validate_l1]
    rw [if_pos (by rw [decide_eq_true_eq]; omega), gidx_nat, hx, bsome, releases_eq hn, bsome, gadd_nat (by omega), bsome, ifdec]
    unfold ustep
    by_cases h : rcode u.Packages.length x = 0
    · rw [if_neg (fun e => e h), if_pos h, nxt_r]
    · rw [if_pos h, if_neg h, nxt_l]
  · intro m s _
    show solver_Validate_l1 n u (m + 1) _ = _
    simp only [solver_Validate_l1]
    rw [if_neg (by rw [decide_eq_true_eq]; omega)]
theorem ruvalidate_eq {n : Nat} (hn : 1000 < n) (u : SPackages) : ref5_UniverseFault n u = some (ufault u) := by
  unfold ref5_UniverseFault ufault ref5_fault
  rw [ifdec]
  by_cases hl : 6 < u.Packages.length
  · rw [if_pos (by omega), if_pos hl, bsome]
  rw [if_neg (by omega), if_neg hl]
  refine loop_eq (l := u.Packages) (L := fun m _ i => ref5_UniverseFault_l1 n u m i) _ _ (fun _ _ => True) ?_ (fun _ _ _ _ _ _ _ => trivial) ?_ n () 0 trivial (by omega) (by omega)
  · intro m s i x _ hi hx
    show ref5_UniverseFault_l1 n u (m + 1) i = _
    simp only [ref5_UniverseFault_l1]
    unfold ref5_fault
    rw [if_pos (by rw [decide_eq_true_eq]; omega), gidx_nat, hx, bsome, rreleases_eq hn (by omega), bsome, gadd_nat (by omega), bsome, ifdec, bsome]
    unfold ustep
    by_cases h : rcode u.Packages.length x = 0
    · rw [if_neg (fun e => e h), if_pos h, nxt_r]
    · rw [if_pos h, if_neg h, nxt_l]
  · intro m s _
    show ref5_UniverseFault_l1 n u (m + 1) _ = _
    simp only [ref5_UniverseFault_l1]
    rw [if_neg (by rw [decide_eq_true_eq]; omega)]
theorem args_eq {n : Nat} (hn : 1000 < n) (u : SPackages) (w : List SPackageRange) : solver_Arguments n u w = some (afault u w) := by
  unfold solver_Arguments afault
  rw [uvalidate_eq hn, needs_eq hn, bsome, beqF]
  simp only [bsome, ufault_iff, ifnot, ifdec]
  by_cases h1 : (ufault u).Code = 0
  · rw [if_pos h1, if_pos h1]
    by_cases h2 : ncode u.Packages.length w = 0
    · rw [if_neg (fun e => e h2), if_pos h2]
    · rw [if_pos h2, if_neg h2]
  · rw [if_neg h1, if_neg h1]
theorem ufault_small {u : SPackages} (h : (ufault u).Code = 0) : u.Packages.length ≤ 6 := by
  unfold ufault at h
  split at h
  · cases h
  · omega
theorem wants_eq {n : Nat} (hn : 1000 < n) (u : SPackages) (w : List SPackageRange) : ref5_WantsFault n u w = some (afault u w) := by
  unfold ref5_WantsFault ref5_WantsFault_j1 ref5_fault afault
  rw [ruvalidate_eq hn, bsome]
  simp only [bsome, ifdec]
  by_cases h1 : (ufault u).Code = 0
  · rw [if_pos h1, if_pos h1, rneeds_eq hn (by have := ufault_small h1; omega), bsome]
    by_cases h2 : ncode u.Packages.length w = 0
    · rw [if_neg (fun e => e h2), if_pos h2, (ufault_iff u).2 h1]
    · rw [if_pos h2, if_neg h2]
  · rw [if_neg h1, if_neg h1]
def okU (u : SPackages) (w : List SPackageRange) : Prop := (afault u w).Code = 0
theorem afault_iff (u : SPackages) (w : List SPackageRange) : afault u w = ⟨0, 0⟩ ↔ okU u w := by
  refine ⟨fun h => by unfold okU; rw [h], fun h => ?_⟩
  unfold okU afault at h
  unfold afault
  by_cases h1 : (ufault u).Code = 0
  · rw [if_pos h1] at h ⊢
    by_cases h2 : ncode u.Packages.length w = 0
    · rw [if_pos h2]
    · rw [if_neg h2] at h; exact absurd h h2
  · rw [if_neg h1] at h; exact absurd h h1
theorem okU_iff {u : SPackages} {w : List SPackageRange} : okU u w ↔ u.Packages.length ≤ 6 ∧ (∀ x ∈ u.Packages, rcode u.Packages.length x = 0) ∧ ncode u.Packages.length w = 0 := by
  unfold okU afault
  constructor
  · intro h
    by_cases h1 : (ufault u).Code = 0
    · rw [if_pos h1] at h
      by_cases h2 : ncode u.Packages.length w = 0
      · refine ⟨ufault_small h1, fun x hx => ?_, h2⟩
        unfold ufault at h1
        split at h1
        · cases h1
        refine run_all (fun r : SCodeIndex => r.Code = 0) (fun x => rcode u.Packages.length x = 0) (fun _ _ _ _ h => ustep_l h) ?_ _ _ _ h1 x hx
        intro s i x s' h
        unfold ustep at h
        split at h
        · assumption
        · cases h
      · rw [if_neg h2] at h; exact absurd h h2
    · rw [if_neg h1] at h; exact absurd h h1
  · rintro ⟨h1, h2, h3⟩
    have : (ufault u).Code = 0 := by
      unfold ufault
      rw [if_neg (by omega), run_ok]
      intro k x hx
      unfold ustep
      rw [if_pos (h2 x (get_mem hx))]
    rw [if_pos this, if_pos h3]
end Go.Proofs.Ytfdennmaeoahgaa
namespace Go.Proofs.Ytfdennmaeoahgaa
open Go.PW Go
def fold {α S : Type} (g : S → Nat → α → S) : S → Nat → List α → S
  | s, _, [] => s
  | s, i, x :: l => fold g (g s i x) (i + 1) l
theorem loop_acc {α S R : Type} {l : List α} {L : Nat → S → Int → Option R} (g : S → Nat → α → S) (fin : S → Option R) (I : S → Nat → Prop)
    (hstep : ∀ m s (i : Nat) x, I s i → i < l.length → l[i]? = some x → L (m + 1) s i = L m (g s i x) ((i + 1 : Nat) : Int))
    (hI : ∀ s i x, I s i → i < l.length → l[i]? = some x → I (g s i x) (i + 1))
    (hend : ∀ m s, I s l.length → L (m + 1) s (l.length : Int) = fin s) :
    ∀ m s (i : Nat), I s i → i ≤ l.length → l.length - i < m → L m s i = fin (fold g s i (l.drop i)) := by
  intro m
  induction m with
  | zero => intro s i _ _ h; omega
  | succ m ih =>
    intro s i hi hl hm
    by_cases h : i = l.length
    · subst h
      rw [hend m s hi, List.drop_length]
      rfl
    · have hlt : i < l.length := by omega
      have hx := getElem?_lt hlt
      rw [hstep m s i l[i] hi hlt hx, List.drop_eq_getElem_cons hlt]
      exact ih _ (i + 1) (hI s i _ hi hlt hx) (by omega) (by omega)
theorem vastNeeds_ex {n : Nat} (hn : 1000 < n) (l : List SPackageRange) : ∃ b, law6_vastNeeds n l = some b := by
  have h := loop_ex (L := fun m i => law6_vastNeeds_l1 n l m i) 20 (fun _ => True) ?_ ?_ n 0 (by omega) (by omega)
  · obtain ⟨b, hb, -⟩ := h; exact ⟨b, hb⟩
  · intro m i hi ⟨b, hb, _⟩
    have hb : law6_vastNeeds_l1 n l m ((i + 1 : Nat) : Int) = some b := hb
    show ∃ b, law6_vastNeeds_l1 n l (m + 1) i = some b ∧ True
    simp only [law6_vastNeeds_l1]
    unfold law6_vastNeeds_j1
    rw [ifdec]
    by_cases h1 : i < l.length
    · rw [if_pos (by omega), if_pos (by rw [decide_eq_true_eq]; omega), gidx_nat, getElem?_lt h1, bsome, ifdec]
      by_cases h2 : 40 < l[i].Range.Intervals.length
      · rw [if_pos (by omega)]; exact ⟨_, rfl, trivial⟩
      · rw [if_neg (by omega)]
        refine loop_ex (L := fun k j => law6_vastNeeds_l2 n i (law6_vastNeeds_l1 n l m) l[i] k j) l[i].Range.Intervals.length (fun _ => True) ?_ ?_ n 0 (by omega) (by omega)
        · intro k j hj ⟨c, hc, _⟩
          have hc : law6_vastNeeds_l2 n i (law6_vastNeeds_l1 n l m) l[i] k ((j + 1 : Nat) : Int) = some c := hc
          show ∃ b, law6_vastNeeds_l2 n i (law6_vastNeeds_l1 n l m) l[i] (k + 1) j = some b ∧ True
          simp only [law6_vastNeeds_l2]
          have j2 : ∀ x : Bool, ∃ b, law6_vastNeeds_j2 n j (law6_vastNeeds_l2 n i (law6_vastNeeds_l1 n l m) l[i] k) x = some b ∧ True := by
            intro x
            unfold law6_vastNeeds_j2
            rw [gadd_nat (by omega), bsome, hc]
            cases x
            · exact ⟨_, if_neg (by simp), trivial⟩
            · exact ⟨_, if_pos rfl, trivial⟩
          rw [if_pos (by rw [decide_eq_true_eq]; omega), gidx_nat, getElem?_lt hj, bsome]
          split
          · exact j2 _
          · exact j2 _
        · intro k
          show ∃ b, law6_vastNeeds_l2 n i (law6_vastNeeds_l1 n l m) l[i] (k + 1) _ = some b ∧ True
          simp only [law6_vastNeeds_l2]
          rw [if_neg (by rw [decide_eq_true_eq]; omega), gadd_nat (by omega), bsome, hb]
          exact ⟨_, rfl, trivial⟩
    · rw [if_neg (by omega), if_neg (by simp)]; exact ⟨_, rfl, trivial⟩
  · intro m
    show ∃ b, law6_vastNeeds_l1 n l (m + 1) (20 : Nat) = some b ∧ True
    simp only [law6_vastNeeds_l1]
    unfold law6_vastNeeds_j1
    split
    · rw [if_neg (by simp)]; exact ⟨_, rfl, trivial⟩
    · rw [if_neg (by simp)]; exact ⟨_, rfl, trivial⟩
theorem vast_ex {n : Nat} (hn : 1000 < n) (u : SPackages) (w : List SPackageRange) : ∃ b, law6_vast n u w = some b := by
  have fin : ∀ k : Int, ∀ lp, ∃ b, law6_vast_j1 n u w k lp false = some b ∧ True := by
    intro k lp
    unfold law6_vast_j1 law6_vast_j3
    rw [if_neg (by simp)]
    obtain ⟨b, hb⟩ := vastNeeds_ex hn w
    rw [hb, bsome]
    split
    · exact ⟨_, rfl, trivial⟩
    · exact ⟨_, rfl, trivial⟩
  have h := loop_ex (L := fun m i => law6_vast_l1 n u w m i) 20 (fun _ => True) ?_ ?_ n 0 (by omega) (by omega)
  · obtain ⟨b, hb, -⟩ := h; exact ⟨b, hb⟩
  · intro m i hi ⟨b, hb, _⟩
    have hb : law6_vast_l1 n u w m ((i + 1 : Nat) : Int) = some b := hb
    show ∃ b, law6_vast_l1 n u w (m + 1) i = some b ∧ True
    simp only [law6_vast_l1]
    rw [ifdec]
    by_cases h1 : i < u.Packages.length
    · rw [if_pos (by omega), decide_eq_true (show (i : Int) < 20 by omega)]
      unfold law6_vast_j1
      rw [if_pos rfl, gidx_nat, getElem?_lt h1, bsome, ifdec]
      by_cases h2 : 20 < u.Packages[i].length
      · rw [if_pos (by omega)]; exact ⟨_, rfl, trivial⟩
      · rw [if_neg (by omega)]
        refine loop_ex (L := fun k j => law6_vast_l2 n i (law6_vast_l1 n u w m) u.Packages[i] k j) u.Packages[i].length (fun _ => True) ?_ ?_ n 0 (by omega) (by omega)
        · intro k j hj ⟨c, hc, _⟩
          have hc : law6_vast_l2 n i (law6_vast_l1 n u w m) u.Packages[i] k ((j + 1 : Nat) : Int) = some c := hc
          show ∃ b, law6_vast_l2 n i (law6_vast_l1 n u w m) u.Packages[i] (k + 1) j = some b ∧ True
          simp only [law6_vast_l2]
          have j2 : ∀ x : Bool, ∃ b, law6_vast_j2 n j (law6_vast_l2 n i (law6_vast_l1 n u w m) u.Packages[i] k) x = some b ∧ True := by
            intro x
            unfold law6_vast_j2
            rw [gadd_nat (by omega), bsome, hc]
            cases x
            · exact ⟨_, if_neg (by simp), trivial⟩
            · exact ⟨_, if_pos rfl, trivial⟩
          rw [if_pos (by rw [decide_eq_true_eq]; omega), gidx_nat, getElem?_lt hj, bsome]
          split
          · exact j2 _
          · obtain ⟨d, hd⟩ := vastNeeds_ex hn u.Packages[i][j].Needs
            rw [hd, bsome]
            exact j2 _
        · intro k
          show ∃ b, law6_vast_l2 n i (law6_vast_l1 n u w m) u.Packages[i] (k + 1) _ = some b ∧ True
          simp only [law6_vast_l2]
          rw [if_neg (by rw [decide_eq_true_eq]; omega), gadd_nat (by omega), bsome, hb]
          exact ⟨_, rfl, trivial⟩
    · rw [if_neg (by omega)]; exact fin _ _
  · intro m
    show ∃ b, law6_vast_l1 n u w (m + 1) (20 : Nat) = some b ∧ True
    simp only [law6_vast_l1]
    split
    · rw [decide_eq_false (by omega)]; exact fin _ _
    · exact fin _ _
def cR : List SVersionNeeds → Nat
  | [] => 0
  | x :: l => x.Needs.length + cR l
def cU : List (List SVersionNeeds) → Nat
  | [] => 0
  | x :: l => cR x + cU l
def cnt (u : SPackages) (w : List SPackageRange) : Nat := w.length + cU u.Packages
theorem cR_le : ∀ {l : List SVersionNeeds}, (∀ x ∈ l, x.Needs.length ≤ 4) → cR l ≤ 4 * l.length
  | [], _ => by simp [cR]
  | x :: l, h => by
    have h1 := h x (by simp)
    have h2 := cR_le (l := l) (fun y hy => h y (by simp [hy]))
    simp only [cR, List.length_cons]
    omega
theorem cU_le : ∀ {l : List (List SVersionNeeds)}, (∀ x ∈ l, cR x ≤ 16) → cU l ≤ 16 * l.length
  | [], _ => by simp [cU]
  | x :: l, h => by
    have h1 := h x (by simp)
    have h2 := cU_le (l := l) (fun y hy => h y (by simp [hy]))
    simp only [cU, List.length_cons]
    omega
theorem ncode_len {np : Int} {l : List SPackageRange} (h : ncode np l = 0) : l.length ≤ 4 := (ncode_iff.1 h).1
theorem rel_needs {np : Int} {l : List SVersionNeeds} (h : rcode np l = 0) : l.length ≤ 4 ∧ ∀ x ∈ l, okv x.Version ∧ ncode np x.Needs = 0 := by
  refine ⟨(rcode_iff.1 h).1, fun x hx => ?_⟩
  obtain ⟨k, hk⟩ := List.getElem?_of_mem hx
  exact ⟨((rcode_iff.1 h).2 k x hk).1, ((rcode_iff.1 h).2 k x hk).2.1⟩
theorem cR_16 {np : Int} {l : List SVersionNeeds} (h : rcode np l = 0) : cR l ≤ 16 := by
  have := cR_le (l := l) (fun x hx => ncode_len ((rel_needs h).2 x hx).2)
  have := (rel_needs h).1
  omega
theorem cnt_le {u : SPackages} {w : List SPackageRange} (h : okU u w) : cnt u w ≤ 100 := by
  obtain ⟨h1, h2, h3⟩ := okU_iff.1 h
  have := cU_le (l := u.Packages) (fun x hx => cR_16 (h2 x hx))
  have := ncode_len h3
  unfold cnt
  omega
theorem fold_cR : ∀ (l : List SVersionNeeds) (c : Int) (i : Nat), fold (fun (s : Int) _ (x : SVersionNeeds) => s + x.Needs.length) c i l = c + cR l
  | [], c, i => by simp [fold, cR]
  | x :: l, c, i => by
    show fold _ (c + x.Needs.length) (i + 1) l = _
    rw [fold_cR l, cR]
    omega
theorem fold_cU : ∀ (l : List (List SVersionNeeds)) (c : Int) (i : Nat), fold (fun (s : Int) _ (x : List SVersionNeeds) => s + cR x) c i l = c + cU l
  | [], c, i => by simp [fold, cU]
  | x :: l, c, i => by
    show fold _ (c + cR x) (i + 1) l = _
    rw [fold_cU l, cU]
    omega
theorem count_eq {n : Nat} (hn : 1000 < n) {u : SPackages} {w : List SPackageRange} (h : okU u w) : explain_count n u w = some (cnt u w : Int) := by
  obtain ⟨h1, h2, h3⟩ := okU_iff.1 h
  have h4 := ncode_len h3
  have key := loop_acc (l := u.Packages) (L := fun m (s : Int) i => explain_count_l1 n u m s i) (fun s _ x => s + cR x) (fun s => some s) (fun s i => 0 ≤ s ∧ s ≤ 4 + 16 * i) ?_ ?_ ?_ n (w.length : Int) 0 (by omega) (by omega) (by omega)
  · unfold explain_count cnt
    refine Eq.trans key ?_
    rw [List.drop_zero, fold_cU]
    simp
  · intro m s i x hs hi hx
    show explain_count_l1 n u (m + 1) s i = explain_count_l1 n u m _ _
    simp only [explain_count_l1]
    have hr := h2 x (get_mem hx)
    rw [if_pos (by rw [decide_eq_true_eq]; omega), gidx_nat, hx, bsome]
    have hk := loop_acc (l := x) (L := fun k (s : Int) j => explain_count_l2 n i (explain_count_l1 n u m) x k s j) (fun s _ y => s + y.Needs.length) (fun s => explain_count_l1 n u m s ((i + 1 : Nat) : Int)) (fun s j => 0 ≤ s ∧ s ≤ 4 + 16 * i + 4 * j) ?_ ?_ ?_ n s 0 (by omega) (by omega) (by have := (rel_needs hr).1; omega)
    · refine Eq.trans hk ?_
      rw [List.drop_zero, fold_cR]
    · intro k s j y hs hj hy
      have hy4 := ncode_len ((rel_needs hr).2 y (get_mem hy)).2
      have := (rel_needs hr).1
      show explain_count_l2 n i (explain_count_l1 n u m) x (k + 1) s j = explain_count_l2 n i (explain_count_l1 n u m) x k _ _
      simp only [explain_count_l2]
      rw [if_pos (by rw [decide_eq_true_eq]; omega), gidx_nat, hy, bsome, gaddI (by omega), bsome, gadd_nat (by omega), bsome]
    · intro s j y hs hj hy
      have hy4 := ncode_len ((rel_needs hr).2 y (get_mem hy)).2
      constructor <;> omega
    · intro k s _
      show explain_count_l2 n i (explain_count_l1 n u m) x (k + 1) s _ = _
      simp only [explain_count_l2]
      rw [if_neg (by rw [decide_eq_true_eq]; omega), gadd_nat (by omega), bsome]
  · intro s i x hs hi hx
    have := cR_16 (h2 x (get_mem hx))
    constructor <;> omega
  · intro m s _
    show explain_count_l1 n u (m + 1) s _ = _
    simp only [explain_count_l1]
    rw [if_neg (by rw [decide_eq_true_eq]; omega)]
theorem rcount_eq {n : Nat} (hn : 1000 < n) {u : SPackages} {w : List SPackageRange} (h : okU u w) : ref6_ConstraintCount n u w = some (cnt u w : Int) := by
  obtain ⟨h1, h2, h3⟩ := okU_iff.1 h
  have h4 := ncode_len h3
  have key := loop_acc (l := u.Packages) (L := fun m (s : Int) i => ref6_ConstraintCount_l1 n u m s i) (fun s _ x => s + cR x) (fun s => some s) (fun s i => 0 ≤ s ∧ s ≤ 4 + 16 * i) ?_ ?_ ?_ n (w.length : Int) 0 (by omega) (by omega) (by omega)
  · unfold ref6_ConstraintCount cnt
    refine Eq.trans key ?_
    rw [List.drop_zero, fold_cU]
    simp
  · intro m s i x hs hi hx
    show ref6_ConstraintCount_l1 n u (m + 1) s i = ref6_ConstraintCount_l1 n u m _ _
    simp only [ref6_ConstraintCount_l1]
    have hr := h2 x (get_mem hx)
    rw [if_pos (by rw [decide_eq_true_eq]; omega)]
    have hk := loop_acc (l := x) (L := fun k (s : Int) j => ref6_ConstraintCount_l2 n u i (ref6_ConstraintCount_l1 n u m) k s j) (fun s _ y => s + y.Needs.length) (fun s => ref6_ConstraintCount_l1 n u m s ((i + 1 : Nat) : Int)) (fun s j => 0 ≤ s ∧ s ≤ 4 + 16 * i + 4 * j) ?_ ?_ ?_ n s 0 (by omega) (by omega) (by have := (rel_needs hr).1; omega)
    · refine Eq.trans hk ?_
      rw [List.drop_zero, fold_cR]
    · intro k s j y hs hj hy
      have hy4 := ncode_len ((rel_needs hr).2 y (get_mem hy)).2
      have := (rel_needs hr).1
      show ref6_ConstraintCount_l2 n u i (ref6_ConstraintCount_l1 n u m) (k + 1) s j = ref6_ConstraintCount_l2 n u i (ref6_ConstraintCount_l1 n u m) k _ _
      simp only [ref6_ConstraintCount_l2]
      rw [gidx_nat, hx, bsome, if_pos (by rw [decide_eq_true_eq]; omega), gidx_nat, hy, bsome, gaddI (by omega), bsome, gadd_nat (by omega), bsome]
    · intro s j y hs hj hy
      have hy4 := ncode_len ((rel_needs hr).2 y (get_mem hy)).2
      constructor <;> omega
    · intro k s _
      show ref6_ConstraintCount_l2 n u i (ref6_ConstraintCount_l1 n u m) (k + 1) s _ = _
      simp only [ref6_ConstraintCount_l2]
      rw [gidx_nat, hx, bsome, if_neg (by rw [decide_eq_true_eq]; omega), gadd_nat (by omega), bsome]
  · intro s i x hs hi hx
    have := cR_16 (h2 x (get_mem hx))
    constructor <;> omega
  · intro m s _
    show ref6_ConstraintCount_l1 n u (m + 1) s _ = _
    simp only [ref6_ConstraintCount_l1]
    rw [if_neg (by rw [decide_eq_true_eq]; omega)]
end Go.Proofs.Ytfdennmaeoahgaa
namespace Go.Proofs.Ytfdennmaeoahgaa
open Go.PW Go
theorem has_l1 {n : Nat} (l : List Int) (x : Int) (hl : l.length ≤ 900) : ∀ (m i : Nat), i ≤ l.length → l.length - i < m → ref5_Has_l1 n l x m i = some (decide (x ∈ l.drop i))
  | 0, i, _, h => by omega
  | m + 1, i, hi, hm => by
    simp only [ref5_Has_l1]
    by_cases h : i = l.length
    · rw [if_neg (by rw [decide_eq_true_eq]; omega), h, List.drop_length]
      simp
    · have hlt : i < l.length := by omega
      rw [if_pos (by rw [decide_eq_true_eq]; omega), gidx_nat, getElem?_lt hlt, bsome, ifdec, List.drop_eq_getElem_cons hlt]
      by_cases he : l[i] = x
      · rw [if_pos he, decide_eq_true (List.mem_cons.2 (.inl he.symm))]
      · rw [if_neg he, gadd_nat (by omega), bsome, has_l1 l x hl m (i + 1) (by omega) (by omega)]
        congr 1
        exact decide_eq_decide.2 ⟨fun h => List.mem_cons.2 (.inr h), fun h => (List.mem_cons.1 h).resolve_left (fun e => he e.symm)⟩
theorem rhas_eq {n : Nat} (hn : 1000 < n) {l : List Int} (hl : l.length ≤ 900) (x : Int) : ref5_Has n l x = some (decide (x ∈ l)) := by
  have := has_l1 (n := n) l x hl n 0 (by omega) (by omega)
  simpa [ref5_Has] using this
theorem vcopy_eq {n : Nat} {v : SMajorMinorPatchPre} (h : v.Pre.length ≤ 4) : version_Copy n v = some v := by
  unfold version_Copy slices_Clone_string
  rw [gapp_ok (by simp; omega), bsome, bsome, List.nil_append]
theorem fold_app {α : Type} : ∀ (l w : List α) (i : Nat), fold (fun (s : List α) _ (x : α) => s ++ [x]) w i l = w ++ l
  | [], w, i => by simp [fold]
  | x :: l, w, i => by
    show fold _ (w ++ [x]) (i + 1) l = _
    rw [fold_app l]
    simp
theorem pre_len {x : SLowHighUnbounded} (h : icheck x = 0) : x.Low.Pre.length ≤ 4 ∧ x.High.Pre.length ≤ 4 := by
  refine ⟨(okv_pre (okI h).1).1, ?_⟩
  cases hu : x.Unbounded with
  | false => exact (okv_pre ((okI h).2 hu)).1
  | true =>
    have h1 : (vfault x.Low).Code = 0 := (okI h).1
    unfold icheck at h
    rw [if_pos h1, if_pos hu] at h
    cases hz : isz x.High with
    | false => rw [hz] at h; simp at h
    | true =>
      unfold isz at hz
      rw [decide_eq_true_eq] at hz
      omega
theorem rcopy_eq {n : Nat} (hn : 1000 < n) {r : SIntervals} (h : okr r) : verrange_Copy n r = some r := by
  obtain ⟨h1, h2⟩ := okr_all h
  have key := loop_acc (l := r.Intervals) (L := fun m (s : List SLowHighUnbounded) i => verrange_Copy_l1 n r m s i) (fun s _ x => s ++ [x]) (fun s => some (⟨s⟩ : SIntervals)) (fun s i => s.length = i) ?_ ?_ ?_ n [] 0 rfl (by omega) (by omega)
  · unfold verrange_Copy
    refine Eq.trans key ?_
    rw [List.drop_zero, fold_app]
    rfl
  · intro m s i x hs hi hx
    show verrange_Copy_l1 n r (m + 1) s i = verrange_Copy_l1 n r m _ _
    simp only [verrange_Copy_l1]
    have hp := pre_len (h2 x (get_mem hx))
    rw [if_pos (by rw [decide_eq_true_eq]; omega), gidx_nat, hx, bsome, vcopy_eq hp.1, vcopy_eq hp.2, bsome, bsome, gapp_ok (by simp; omega), bsome, gadd_nat (by omega), bsome]
  · intro s i x hs hi hx
    simp [hs]
  · intro m s _
    show verrange_Copy_l1 n r (m + 1) s _ = _
    simp only [verrange_Copy_l1]
    rw [if_neg (by rw [decide_eq_true_eq]; omega)]
def fl (p : Int → Bool) : Int → List SPackageRange → List SPackageRange
  | _, [] => []
  | b, x :: l => if p b = true then x :: fl p (b + 1) l else fl p (b + 1) l
def frel (p : Int → Bool) : Int → List SVersionNeeds → List SVersionNeeds
  | _, [] => []
  | b, x :: l => ⟨x.Version, fl p b x.Needs⟩ :: frel p (b + x.Needs.length) l
def fpk (p : Int → Bool) : Int → List (List SVersionNeeds) → List (List SVersionNeeds)
  | _, [] => []
  | b, x :: l => frel p b x :: fpk p (b + cR x) l
theorem fl_cons (p : Int → Bool) (b : Int) (x : SPackageRange) (l : List SPackageRange) : fl p b (x :: l) = if p b = true then x :: fl p (b + 1) l else fl p (b + 1) l := rfl
theorem frel_cons (p : Int → Bool) (b : Int) (x : SVersionNeeds) (l : List SVersionNeeds) : frel p b (x :: l) = ⟨x.Version, fl p b x.Needs⟩ :: frel p (b + x.Needs.length) l := rfl
theorem fpk_cons (p : Int → Bool) (b : Int) (x : List SVersionNeeds) (l : List (List SVersionNeeds)) : fpk p b (x :: l) = frel p b x :: fpk p (b + cR x) l := rfl
theorem cR_cons (x : SVersionNeeds) (l : List SVersionNeeds) : cR (x :: l) = x.Needs.length + cR l := rfl
theorem cU_cons (x : List SVersionNeeds) (l : List (List SVersionNeeds)) : cU (x :: l) = cR x + cU l := rfl
def KU (p : Int → Bool) (u : SPackages) (w : List SPackageRange) : SPackages := ⟨fpk p w.length u.Packages⟩
def KW (p : Int → Bool) (w : List SPackageRange) : List SPackageRange := fl p 0 w
theorem fold_fl (p : Int → Bool) : ∀ (l : List SPackageRange) (b : Int) (w : List SPackageRange) (i : Nat), fold (fun (s : Int × List SPackageRange) _ (x : SPackageRange) => (s.1 + 1, if p s.1 = true then s.2 ++ [x] else s.2)) (b, w) i l = (b + l.length, w ++ fl p b l)
  | [], b, w, i => by simp [fold, fl]
  | x :: l, b, w, i => by
    show fold _ (b + 1, if p b = true then w ++ [x] else w) (i + 1) l = _
    rw [fold_fl p l]
    rw [fl_cons]
    congr 1
    · simp only [List.length_cons]; omega
    · cases p b <;> simp
theorem fl_len (p : Int → Bool) : ∀ (l : List SPackageRange) (b : Int), (fl p b l).Sublist l
  | [], _ => List.Sublist.slnil
  | x :: l, b => by
    rw [fl_cons]
    split
    · exact (fl_len p l _).cons_cons x
    · exact (fl_len p l _).cons x
theorem fold_frel (p : Int → Bool) : ∀ (l : List SVersionNeeds) (b : Int) (w : List SVersionNeeds) (i : Nat), fold (fun (s : Int × List SVersionNeeds) _ (x : SVersionNeeds) => (s.1 + x.Needs.length, s.2 ++ [⟨x.Version, fl p s.1 x.Needs⟩])) (b, w) i l = (b + cR l, w ++ frel p b l)
  | [], b, w, i => by simp [fold, frel, cR]
  | x :: l, b, w, i => by
    show fold _ (b + x.Needs.length, w ++ [⟨x.Version, fl p b x.Needs⟩]) (i + 1) l = _
    rw [fold_frel p l]
    rw [frel_cons, cR_cons]
    congr 1
    · omega
    · simp
theorem fold_fpk (p : Int → Bool) : ∀ (l : List (List SVersionNeeds)) (b : Int) (w : List (List SVersionNeeds)) (i : Nat), fold (fun (s : Int × List (List SVersionNeeds)) _ (x : List SVersionNeeds) => (s.1 + cR x, s.2 ++ [frel p s.1 x])) (b, w) i l = (b + cU l, w ++ fpk p b l)
  | [], b, w, i => by simp [fold, fpk, cU]
  | x :: l, b, w, i => by
    show fold _ (b + cR x, w ++ [frel p b x]) (i + 1) l = _
    rw [fold_fpk p l]
    rw [fpk_cons, cU_cons]
    congr 1
    · omega
    · simp
theorem frel_len (p : Int → Bool) : ∀ (l : List SVersionNeeds) (b : Int), (frel p b l).length = l.length
  | [], _ => rfl
  | x :: l, b => by rw [frel_cons, List.length_cons, frel_len p l, List.length_cons]
theorem fpk_len (p : Int → Bool) : ∀ (l : List (List SVersionNeeds)) (b : Int), (fpk p b l).length = l.length
  | [], _ => rfl
  | x :: l, b => by rw [fpk_cons, List.length_cons, fpk_len p l, List.length_cons]
theorem frel_get (p : Int → Bool) : ∀ (l : List SVersionNeeds) (b : Int) (k : Nat) (x : SVersionNeeds), l[k]? = some x → ∃ c, (frel p b l)[k]? = some ⟨x.Version, fl p c x.Needs⟩
  | [], _, k, x, h => by simp at h
  | y :: l, b, 0, x, h => by injection h with h; subst h; exact ⟨b, rfl⟩
  | y :: l, b, k + 1, x, h => frel_get p l _ k x h
theorem fpk_get (p : Int → Bool) : ∀ (l : List (List SVersionNeeds)) (b : Int) (k : Nat) (x : List SVersionNeeds), l[k]? = some x → ∃ c, (fpk p b l)[k]? = some (frel p c x)
  | [], _, k, x, h => by simp at h
  | y :: l, b, 0, x, h => by injection h with h; subst h; exact ⟨b, rfl⟩
  | y :: l, b, k + 1, x, h => fpk_get p l _ k x h
theorem frel_rcode (p : Int → Bool) {np : Int} {l : List SVersionNeeds} (b : Int) (h : rcode np l = 0) : rcode np (frel p b l) = 0 := by
  obtain ⟨h1, h2⟩ := rcode_iff.1 h
  refine rcode_iff.2 ⟨by rw [frel_len]; exact h1, fun k y hy => ?_⟩
  have hk : k < l.length := by rw [← frel_len p l b]; exact get_lt hy
  obtain ⟨c, hc⟩ := frel_get p l b k _ (getElem?_lt hk)
  rw [hc] at hy
  injection hy with hy
  subst hy
  obtain ⟨g1, g2, g3⟩ := h2 k _ (getElem?_lt hk)
  refine ⟨g1, ncode_sub g2 (fl_len p _ _), ?_⟩
  match k, hk, g3 with
  | 0, _, _ => rfl
  | j + 1, hk, g3 =>
    obtain ⟨d, hd⟩ := frel_get p l b j _ (getElem?_lt (show j < l.length by omega))
    rw [vbad_succ (getElem?_lt (show j < l.length by omega))] at g3
    rw [vbad_succ hd]
    exact g3
theorem keep_ok (p : Int → Bool) {u : SPackages} {w : List SPackageRange} (h : okU u w) : okU (KU p u w) (KW p w) := by
  obtain ⟨h1, h2, h3⟩ := okU_iff.1 h
  have hl : (KU p u w).Packages.length = u.Packages.length := fpk_len p _ _
  refine okU_iff.2 ⟨by omega, fun y hy => ?_, by rw [hl]; exact ncode_sub h3 (fl_len p _ _)⟩
  obtain ⟨k, hk⟩ := List.getElem?_of_mem hy
  have hlt : k < u.Packages.length := by rw [← hl]; exact get_lt hk
  obtain ⟨c, hc⟩ := fpk_get p u.Packages w.length k _ (getElem?_lt hlt)
  rw [show (KU p u w).Packages[k]? = _ from hc] at hk
  injection hk with hk
  rw [← hk, hl]
  exact frel_rcode p c (h2 _ (get_mem (getElem?_lt hlt)))
theorem cR_drop {l : List SVersionNeeds} {i : Nat} {x : SVersionNeeds} (h : l[i]? = some x) : cR (l.drop i) = x.Needs.length + cR (l.drop (i + 1)) := by
  have hl := get_lt h
  rw [List.drop_eq_getElem_cons hl]
  rw [getElem?_lt hl] at h
  injection h with h
  rw [h]
  rfl
theorem cU_drop {l : List (List SVersionNeeds)} {i : Nat} {x : List SVersionNeeds} (h : l[i]? = some x) : cU (l.drop i) = cR x + cU (l.drop (i + 1)) := by
  have hl := get_lt h
  rw [List.drop_eq_getElem_cons hl]
  rw [getElem?_lt hl] at h
  injection h with h
  rw [h]
  rfl
theorem filter2_eq {n : Nat} (hn : 1000 < n) (l : List SPackageRange) (k : List Bool) (b N : Int) (p : Int → Bool) (hp : ∀ c, 0 ≤ c → c < N → explain_Reason_1_m1 n c k = some (p c)) (hl : l.length ≤ 4) (hr : ∀ x ∈ l, okr x.Range) (hb : 0 ≤ b ∧ b + l.length ≤ N) (hN : N ≤ 1000) :
    explain_filter_1_m2 n l k b = some (fl p b l, b + l.length) := by
  have key := loop_acc (l := l) (L := fun m (s : Int × List SPackageRange) i => explain_filter_1_m2_l1 n l k m s.1 s.2 i) (fun s _ x => (s.1 + 1, if p s.1 = true then s.2 ++ [x] else s.2)) (fun s => some (s.2, s.1)) (fun s i => s.1 = b + i ∧ s.2.length ≤ i) ?_ ?_ ?_ n (b, []) 0 ⟨by simp, by simp⟩ (by omega) (by omega)
  · unfold explain_filter_1_m2
    refine Eq.trans key ?_
    rw [List.drop_zero, fold_fl]
    rfl
  · intro m s i x hs hi hx
    obtain ⟨b', w'⟩ := s
    obtain ⟨hb', hw'⟩ := hs
    simp only [] at hb' hw'
    show explain_filter_1_m2_l1 n l k (m + 1) b' w' i = explain_filter_1_m2_l1 n l k m (b' + 1) (if p b' = true then w' ++ [x] else w') _
    simp only [explain_filter_1_m2_l1]
    have j1 : ∀ w, explain_filter_1_m2_j1 n b' i (explain_filter_1_m2_l1 n l k m) w = explain_filter_1_m2_l1 n l k m (b' + 1) w ((i + 1 : Nat) : Int) := by
      intro w
      unfold explain_filter_1_m2_j1
      rw [gaddI (by omega), bsome, gadd_nat (by omega), bsome]
    rw [if_pos (by rw [decide_eq_true_eq]; omega), gidx_nat, hx, bsome, hp b' (by omega) (by omega), bsome]
    cases p b' with
    | true => rw [if_pos rfl, if_pos rfl, etaR, rcopy_eq hn (hr x (get_mem hx)), bsome, gapp_ok (by simp; omega), bsome, j1]
    | false => rw [if_neg (by simp), if_neg (by simp), j1]
  · intro s i x hs hi hx
    refine ⟨by simp only []; omega, ?_⟩
    simp only []
    split
    · simp; omega
    · omega
  · intro m s _
    show explain_filter_1_m2_l1 n l k (m + 1) s.1 s.2 _ = _
    simp only [explain_filter_1_m2_l1]
    rw [if_neg (by rw [decide_eq_true_eq]; omega)]
theorem reason_l3_eq {n : Nat} (hn : 1000 < n) (w4 : List Bool) (x6 : Int) (N : Int) (p : Int → Bool) (hp : ∀ c, 0 ≤ c → c < N → explain_Reason_1_m1 n c (gset w4 x6 true) = some (p c)) (hN : N ≤ 1000) {np : Int} (w14 : List (List SVersionNeeds)) (i : Nat) (hw14 : w14.length ≤ 100) (hi6 : i ≤ 100) (lp : Int → List (List SVersionNeeds) → Int → Option (List Int × SCodeIndex)) (x : List SVersionNeeds) (hx : rcode np x = 0) (b : Int) (hb : 0 ≤ b ∧ b + cR x ≤ N) :
    explain_Reason_l3 n w4 x6 w14 i lp x n b [] 0 = lp (b + cR x) (w14 ++ [frel p b x]) ((i + 1 : Nat) : Int) := by
  have hl := rel_needs hx
  have key := loop_acc (l := x) (L := fun m (s : Int × List SVersionNeeds) j => explain_Reason_l3 n w4 x6 w14 i lp x m s.1 s.2 j) (fun s _ y => (s.1 + y.Needs.length, s.2 ++ [⟨y.Version, fl p s.1 y.Needs⟩])) (fun s => lp s.1 (w14 ++ [s.2]) ((i + 1 : Nat) : Int)) (fun s j => (0 ≤ s.1 ∧ s.1 + cR (x.drop j) ≤ N) ∧ s.2.length = j) ?_ ?_ ?_ n (b, []) 0 ⟨hb, rfl⟩ (by omega) (by omega)
  · refine Eq.trans key ?_
    rw [List.drop_zero, fold_frel]
    rfl
  · intro m s j y hs hj hy
    obtain ⟨b', w'⟩ := s
    obtain ⟨hb', hw'⟩ := hs
    simp only [] at hb' hw'
    show explain_Reason_l3 n w4 x6 w14 i lp x (m + 1) b' w' j = explain_Reason_l3 n w4 x6 w14 i lp x m (b' + y.Needs.length) (w' ++ [⟨y.Version, fl p b' y.Needs⟩]) _
    simp only [explain_Reason_l3]
    have hy' := hl.2 y (get_mem hy)
    have hc := cR_drop hy
    rw [if_pos (by rw [decide_eq_true_eq]; omega), gidx_nat, hy, bsome, etaV, vcopy_eq (okv_pre hy'.1).1, bsome, filter2_eq hn y.Needs (gset w4 x6 true) b' N p hp (ncode_len hy'.2) (fun z hz => ((ncode_iff.1 hy'.2).2.1 z hz).2) (by omega) hN, bsome, gapp_ok (by simp; omega), bsome, gadd_nat (by omega), bsome]
  · intro s j y hs hj hy
    have hc := cR_drop hy
    refine ⟨by simp only []; omega, by simp [hs.2]⟩
  · intro m s hs
    show explain_Reason_l3 n w4 x6 w14 i lp x (m + 1) s.1 s.2 _ = _
    simp only [explain_Reason_l3]
    rw [if_neg (by rw [decide_eq_true_eq]; omega), gapp_ok (by simp; omega), bsome, gadd_nat (by omega), bsome]
theorem reason_l2_eq {n : Nat} (hn : 1000 < n) (w4 : List Bool) (w5 : List Int) (x6 : Int) (lp : List Bool → List Int → Int → Option (List Int × SCodeIndex)) (N : Int) (p : Int → Bool) (hp : ∀ c, 0 ≤ c → c < N → explain_Reason_1_m1 n c (gset w4 x6 true) = some (p c)) (hN : N ≤ 1000) (u : SPackages) (hu : u.Packages.length ≤ 6 ∧ ∀ x ∈ u.Packages, rcode u.Packages.length x = 0) (r : List SPackageRange × Int) (b : Int) (hb : 0 ≤ b ∧ b + cU u.Packages ≤ N) :
    explain_Reason_l2 n u w4 w5 x6 lp r n b [] 0 = explain_Reason_j2 n w4 w5 x6 lp (fpk p b u.Packages) r.1 := by
  have key := loop_acc (l := u.Packages) (L := fun m (s : Int × List (List SVersionNeeds)) i => explain_Reason_l2 n u w4 w5 x6 lp r m s.1 s.2 i) (fun s _ x => (s.1 + cR x, s.2 ++ [frel p s.1 x])) (fun s => explain_Reason_j2 n w4 w5 x6 lp s.2 r.1) (fun s i => (0 ≤ s.1 ∧ s.1 + cU (u.Packages.drop i) ≤ N) ∧ s.2.length = i) ?_ ?_ ?_ n (b, []) 0 ⟨hb, rfl⟩ (by omega) (by omega)
  · refine Eq.trans key ?_
    rw [List.drop_zero, fold_fpk]
    rfl
  · intro m s i x hs hi hx
    obtain ⟨b', w'⟩ := s
    obtain ⟨hb', hw'⟩ := hs
    simp only [] at hb' hw'
    show explain_Reason_l2 n u w4 w5 x6 lp r (m + 1) b' w' i = explain_Reason_l2 n u w4 w5 x6 lp r m (b' + cR x) (w' ++ [frel p b' x]) _
    simp only [explain_Reason_l2]
    have hc := cU_drop hx
    rw [if_pos (by rw [decide_eq_true_eq]; omega), gidx_nat, hx, bsome, reason_l3_eq hn w4 x6 N p hp hN w' i (by omega) (by omega) _ x (hu.2 x (get_mem hx)) b' (by omega)]
  · intro s i x hs hi hx
    have hc := cU_drop hx
    refine ⟨by simp only []; omega, by simp [hs.2]⟩
  · intro m s hs
    show explain_Reason_l2 n u w4 w5 x6 lp r (m + 1) s.1 s.2 _ = _
    simp only [explain_Reason_l2]
    rw [if_neg (by rw [decide_eq_true_eq]; omega)]
end Go.Proofs.Ytfdennmaeoahgaa
namespace Go.Proofs.Ytfdennmaeoahgaa
open Go.PW Go
def kbad (l : List Int) (i : Nat) (x : Int) : Bool :=
  match i with
  | 0 => false
  | j + 1 => match l[j]? with
    | some e => decide (x ≤ e)
    | none => false
theorem kbad_succ {l : List Int} {j : Nat} {x e : Int} (h : l[j]? = some e) : kbad l (j + 1) x = decide (x ≤ e) := by
  show (match l[j]? with | some e => decide (x ≤ e) | none => false) = _
  rw [h]
def kstep (c : Int) (l : List Int) (_ : Unit) (i : Nat) (x : Int) : SCodeIndex ⊕ Unit :=
  if 0 ≤ x ∧ x < c then (if kbad l i x = true then .inl ⟨5, -3⟩ else .inr ()) else .inl ⟨3, -3⟩
def kfault (c : Int) (l : List Int) : SCodeIndex := run (kstep c l) (fun _ => ⟨0, 0⟩) () 0 l
theorem kstep_l {c : Int} {l : List Int} {s : Unit} {i : Nat} {x : Int} {r : SCodeIndex} (h : kstep c l s i x = .inl r) : r.Code ≠ 0 := by
  unfold kstep at h
  split at h
  · split at h
    · injection h with h; subst h; simp
    · cases h
  · injection h with h; subst h; simp
theorem kstep_r {c : Int} {l : List Int} {s s' : Unit} {i : Nat} {x : Int} (h : kstep c l s i x = .inr s') : (0 ≤ x ∧ x < c) ∧ kbad l i x = false := by
  unfold kstep at h
  by_cases h1 : 0 ≤ x ∧ x < c
  · rw [if_pos h1] at h
    refine ⟨h1, ?_⟩
    cases hb : kbad l i x with
    | false => rfl
    | true => rw [hb, if_pos rfl] at h; cases h
  · rw [if_neg h1] at h; cases h
theorem kfault_iff {c : Int} {l : List Int} : (kfault c l).Code = 0 ↔ (∀ x ∈ l, 0 ≤ x ∧ x < c) ∧ l.Pairwise (· < ·) := by
  constructor
  · intro h
    have hk := run_inv (f := kstep c l) (fun r : SCodeIndex => r.Code = 0) (fun i x r h => kstep_l h) h
    have hk' : ∀ k x, l[k]? = some x → (0 ≤ x ∧ x < c) ∧ kbad l k x = false := by
      intro k x hx
      have := hk k x hx
      rw [Nat.zero_add] at this
      exact kstep_r this
    refine ⟨fun x hx => ?_, ?_⟩
    · obtain ⟨k, hk⟩ := List.getElem?_of_mem hx
      exact (hk' k x hk).1
    · rw [List.pairwise_iff_getElem]
      intro i j hi hj hij
      induction j with
      | zero => omega
      | succ j ih =>
        have hb := (hk' (j + 1) _ (getElem?_lt hj)).2
        rw [kbad_succ (getElem?_lt (show j < l.length by omega)), decide_eq_false_iff_not] at hb
        by_cases e : i = j
        · subst e; omega
        · have := ih (by omega) (by omega)
          omega
  · rintro ⟨h2, h3⟩
    unfold kfault
    rw [run_ok]
    intro k x hx
    rw [Nat.zero_add]
    unfold kstep
    rw [if_pos (h2 x (get_mem hx)), if_neg]
    match k, hx with
    | 0, _ => simp [kbad]
    | j + 1, hx =>
      have hj := get_lt hx
      rw [kbad_succ (getElem?_lt (show j < l.length by omega)), decide_eq_true_eq]
      rw [List.pairwise_iff_getElem] at h3
      have := h3 j (j + 1) (by omega) hj (by omega)
      rw [getElem?_lt hj] at hx
      injection hx with hx
      rw [hx] at this
      omega
theorem kfault_len {c : Nat} {l : List Int} (h : (kfault c l).Code = 0) : l.length ≤ c := by
  obtain ⟨h1, h2⟩ := kfault_iff.1 h
  rw [List.pairwise_iff_getElem] at h2
  have : ∀ k (hk : k < l.length), (k : Int) ≤ l[k] := by
    intro k
    induction k with
    | zero => intro hk; exact (h1 _ (List.getElem_mem hk)).1
    | succ k ih =>
      intro hk
      have := ih (by omega)
      have := h2 k (k + 1) (by omega) hk (by omega)
      omega
  by_cases h0 : l.length = 0
  · omega
  · have h3 := this (l.length - 1) (by omega)
    have h4 := (h1 _ (List.getElem_mem (show l.length - 1 < l.length by omega))).2
    omega
def inKp (l : List Int) (b : Int) : Bool := decide (b ∈ l)
  where okU' (u : SPackages) (w : List SPackageRange) : Bool := decide ((afault u w).Code = 0)
def mapL {R R' : Type} (h : R → R') : R ⊕ Unit → R' ⊕ Unit
  | .inl r => .inl (h r)
  | .inr s => .inr s
theorem run_map {α R R' : Type} (f : Unit → Nat → α → R ⊕ Unit) (h : R → R') (z : R) (z' : R') (Q : R → Prop) (hz : Q z) (hl : ∀ s i x r, f s i x = .inl r → ¬ Q r) : ∀ (l : List α) (i : Nat),
    (Q (run f (fun _ => z) () i l) ∧ run f (fun _ => z) () i l = z ∧ run (fun s i x => mapL h (f s i x)) (fun _ => z') () i l = z') ∨
    (¬ Q (run f (fun _ => z) () i l) ∧ run (fun s i x => mapL h (f s i x)) (fun _ => z') () i l = h (run f (fun _ => z) () i l))
  | [], _ => .inl ⟨hz, rfl, rfl⟩
  | x :: l, i => by
    unfold run
    cases hf : f () i x with
    | inl r => exact .inr ⟨hl _ _ _ _ hf, rfl⟩
    | inr s => exact run_map f h z z' Q hz hl l (i + 1)
theorem fold_part (p : Int → Bool) (a : Int) : ∀ (l w : List SPackageRange) (i : Nat), fold (fun (s : List SPackageRange) i (x : SPackageRange) => if p (a + i) = true then s ++ [x] else s) w i l = w ++ fl p (a + i) l
  | [], w, i => by simp [fold, fl]
  | x :: l, w, i => by
    show fold _ (if p (a + i) = true then w ++ [x] else w) (i + 1) l = _
    rw [fold_part p a l, fl_cons, show a + ((i + 1 : Nat) : Int) = a + i + 1 by omega]
    cases p (a + i) <;> simp
theorem part_eq {n : Nat} (hn : 1000 < n) (l : List SPackageRange) (k : List Int) (hk : k.length ≤ 900) (hl : l.length ≤ 4) (a : Int) (ha : 0 ≤ a ∧ a ≤ 1000) : ref6_part n l a k = some (fl (inKp k) a l) := by
  have key := loop_acc (l := l) (L := fun m (s : List SPackageRange) i => ref6_part_l1 n l a k m s i) (fun s i x => if inKp k (a + i) = true then s ++ [x] else s) (fun s => some s) (fun s i => s.length ≤ i) ?_ ?_ ?_ n [] 0 (by simp) (by omega) (by omega)
  · unfold ref6_part
    refine Eq.trans key ?_
    rw [List.drop_zero, fold_part]
    simp
  · intro m s i x hs hi hx
    show ref6_part_l1 n l a k (m + 1) s i = ref6_part_l1 n l a k m (if inKp k (a + i) = true then s ++ [x] else s) _
    simp only [ref6_part_l1]
    unfold ref6_part_j1
    rw [if_pos (by rw [decide_eq_true_eq]; omega), gaddI (by omega), bsome, rhas_eq hn hk, bsome, gidx_nat, hx, bsome, gapp_ok (by simp; omega), bsome, gadd_nat (by omega), bsome, bsome]
    unfold inKp
    split <;> rfl
  · intro s i x hs hi hx
    split
    · simp; omega
    · omega
  · intro m s _
    show ref6_part_l1 n l a k (m + 1) s _ = _
    simp only [ref6_part_l1]
    rw [if_neg (by rw [decide_eq_true_eq]; omega)]
theorem kept_eq {n : Nat} (hn : 1000 < n) {u : SPackages} {w : List SPackageRange} (hok : okU u w) (k : List Int) (hk : k.length ≤ 900) : ref6_Kept n u w k = some (KU (inKp k) u w, KW (inKp k) w) := by
  have hc := cnt_le hok
  obtain ⟨h1, h2, h3⟩ := okU_iff.1 hok
  have hw4 := ncode_len h3
  have key := loop_acc (l := u.Packages) (L := fun m (s : Int × List (List SVersionNeeds)) i => ref6_Kept_l1 n u w k m s.2 s.1 i) (fun s _ x => (s.1 + cR x, s.2 ++ [frel (inKp k) s.1 x])) (fun s => some ((⟨s.2⟩ : SPackages), fl (inKp k) 0 w)) (fun s i => (0 ≤ s.1 ∧ s.1 + cU (u.Packages.drop i) ≤ 100) ∧ s.2.length = i) ?_ ?_ ?_ n ((w.length : Int), []) 0 ⟨by unfold cnt at hc; simp only [List.drop_zero]; omega, rfl⟩ (by omega) (by omega)
  · unfold ref6_Kept
    refine Eq.trans key ?_
    rw [List.drop_zero, fold_fpk]
    rfl
  · intro m s i x hs hi hx
    obtain ⟨b', w'⟩ := s
    obtain ⟨hb', hw'⟩ := hs
    simp only [] at hb' hw'
    show ref6_Kept_l1 n u w k (m + 1) w' b' i = ref6_Kept_l1 n u w k m (w' ++ [frel (inKp k) b' x]) (b' + cR x) _
    simp only [ref6_Kept_l1]
    have hcx := cU_drop hx
    have hr := rel_needs (h2 x (get_mem hx))
    rw [if_pos (by rw [decide_eq_true_eq]; omega)]
    have kk := loop_acc (l := x) (L := fun m' (s : Int × List SVersionNeeds) j => ref6_Kept_l2 n u k w' i (ref6_Kept_l1 n u w k m) m' s.1 s.2 j) (fun s _ y => (s.1 + y.Needs.length, s.2 ++ [⟨y.Version, fl (inKp k) s.1 y.Needs⟩])) (fun s => ref6_Kept_l1 n u w k m (w' ++ [s.2]) s.1 ((i + 1 : Nat) : Int)) (fun s j => (0 ≤ s.1 ∧ s.1 + cR (x.drop j) ≤ 100) ∧ s.2.length = j) ?_ ?_ ?_ n (b', []) 0 ⟨by simp only [List.drop_zero]; omega, rfl⟩ (by omega) (by omega)
    · refine Eq.trans kk ?_
      rw [List.drop_zero, fold_frel]
      rfl
    · intro m' s j y hs hj hy
      obtain ⟨b2, w2⟩ := s
      obtain ⟨hb2, hw2⟩ := hs
      simp only [] at hb2 hw2
      show ref6_Kept_l2 n u k w' i (ref6_Kept_l1 n u w k m) (m' + 1) b2 w2 j = ref6_Kept_l2 n u k w' i (ref6_Kept_l1 n u w k m) m' (b2 + y.Needs.length) (w2 ++ [⟨y.Version, fl (inKp k) b2 y.Needs⟩]) _
      simp only [ref6_Kept_l2]
      have hy' := hr.2 y (get_mem hy)
      have hcy := cR_drop hy
      rw [gidx_nat, hx, bsome, if_pos (by rw [decide_eq_true_eq]; omega), gidx_nat, hy, bsome, part_eq hn y.Needs k hk (ncode_len hy'.2) b2 (by omega), bsome, gapp_ok (by simp; omega), bsome, gaddI (by omega), bsome, gadd_nat (by omega), bsome]
    · intro s j y hs hj hy
      have hcy := cR_drop hy
      refine ⟨by simp only []; omega, by simp [hs.2]⟩
    · intro m' s hs
      show ref6_Kept_l2 n u k w' i (ref6_Kept_l1 n u w k m) (m' + 1) s.1 s.2 _ = _
      simp only [ref6_Kept_l2]
      rw [gidx_nat, hx, bsome, if_neg (by rw [decide_eq_true_eq]; omega), gapp_ok (by simp; omega), bsome, gadd_nat (by omega), bsome]
  · intro s i x hs hi hx
    have hcx := cU_drop hx
    refine ⟨by simp only []; omega, by simp [hs.2]⟩
  · intro m s hs
    show ref6_Kept_l1 n u w k (m + 1) s.2 s.1 _ = _
    simp only [ref6_Kept_l1]
    rw [if_neg (by rw [decide_eq_true_eq]; omega), part_eq hn w k hk hw4 0 (by omega), bsome]
end Go.Proofs.Ytfdennmaeoahgaa
namespace Go.Proofs.Ytfdennmaeoahgaa
open Go.PW Go
theorem loop_fin {α S R : Type} {l : List α} {L : Nat → S → Int → Option R} (z : Option R) (I : S → Nat → Prop)
    (hstep : ∀ m s (i : Nat) x, I s i → i < l.length → l[i]? = some x → ∃ s', I s' (i + 1) ∧ L (m + 1) s i = L m s' ((i + 1 : Nat) : Int))
    (hend : ∀ m s, I s l.length → L (m + 1) s (l.length : Int) = z) :
    ∀ m s (i : Nat), I s i → i ≤ l.length → l.length - i < m → L m s i = z := by
  intro m
  induction m with
  | zero => intro s i _ _ h; omega
  | succ m ih =>
    intro s i hi hl hm
    by_cases h : i = l.length
    · subst h
      exact hend m s hi
    · have hlt : i < l.length := by omega
      obtain ⟨s', h1, h2⟩ := hstep m s i _ hi hlt (getElem?_lt hlt)
      rw [h2]
      exact ih s' (i + 1) h1 (by omega) (by omega)
def hit (x : SLowHighUnbounded) (v : SMajorMinorPatchPre) : Bool := decide (vo x.Low v ≤ 0) && (x.Unbounded || decide (vo v x.High < 0))
def has (r : SIntervals) (v : SMajorMinorPatchPre) : Bool := r.Intervals.any (fun x => hit x v)
theorem run_any (v : SMajorMinorPatchPre) : ∀ (l : List SLowHighUnbounded) (i : Nat), run (S := Unit) (fun _ _ x => if hit x v = true then .inl true else .inr ()) (fun _ => false) () i l = l.any (fun x => hit x v)
  | [], _ => rfl
  | x :: l, i => by
    unfold run
    rw [List.any_cons]
    cases h : hit x v with
    | true => rfl
    | false => exact (run_any v l (i + 1)).trans (Bool.false_or _).symm
theorem has_eq {n : Nat} (hn : 1000 < n) {r : SIntervals} {v : SMajorMinorPatchPre} (hr : okr r) (hv : okv v) : verrange_Has n r v = some (has r v) := by
  obtain ⟨h1, h2⟩ := okr_all hr
  have key := loop_eq (l := r.Intervals) (L := fun m (_ : Unit) i => verrange_Has_l1 n r v m i) (fun _ _ x => if hit x v = true then .inl true else .inr ()) (fun _ => false) (fun _ _ => True) ?_ (fun _ _ _ _ _ _ _ => trivial) ?_ n () 0 trivial (by omega) (by omega)
  · unfold verrange_Has has
    refine Eq.trans key ?_
    rw [List.drop_zero, run_any]
  · intro m s i x _ hi hx
    show verrange_Has_l1 n r v (m + 1) i = _
    simp only [verrange_Has_l1]
    have hx0 := okI (h2 x (get_mem hx))
    have j4 : ∀ b : Bool, verrange_Has_j4 n i (verrange_Has_l1 n r v m) b = nxt (fun _ : Unit => verrange_Has_l1 n r v m ((i + 1 : Nat) : Int)) (if b = true then .inl true else .inr ()) := by
      intro b
      unfold verrange_Has_j4 verrange_Has_j3 verrange_Has_j2 verrange_Has_j1
      rw [gadd_nat (by omega), bsome, decide_eq_true (show (0 : Int) ≤ i by omega)]
      cases b <;> rfl
    rw [if_pos (by rw [decide_eq_true_eq]; omega), gidx_nat, hx, bsome, etaV, order_eq hn hx0.1 hv, bsome]
    unfold hit
    cases h3 : decide (vo x.Low v ≤ 0) with
    | false => rw [if_neg (by simp), j4, Bool.false_and]
    | true =>
      rw [if_pos rfl, Bool.true_and]
      cases hu : x.Unbounded with
      | true => rw [if_pos rfl, j4, Bool.true_or]
      | false => rw [if_neg (by simp), etaV, order_eq hn hv (hx0.2 hu), bsome, j4, Bool.false_or]
  · intro m s _
    show verrange_Has_l1 n r v (m + 1) _ = _
    simp only [verrange_Has_l1]
    unfold verrange_Has_j2 verrange_Has_j1
    rw [if_neg (by rw [decide_eq_true_eq]; omega)]
    rfl
def hb (r : SIntervals) (l : List SVersionNeeds) (k : Nat) : Bool :=
  match l[k]? with
  | some x => has r x.Version
  | none => false
def dem (u : SPackages) (d : SPackageRange) : SOfBy :=
  ⟨d.Package, ⟨hb d.Range ((u.Packages[d.Package.toNat]?).getD []) 0, hb d.Range ((u.Packages[d.Package.toNat]?).getD []) 1, hb d.Range ((u.Packages[d.Package.toNat]?).getD []) 2, hb d.Range ((u.Packages[d.Package.toNat]?).getD []) 3⟩⟩
theorem hb_get {r : SIntervals} {l : List SVersionNeeds} {k : Nat} {x : SVersionNeeds} (h : l[k]? = some x) : hb r l k = has r x.Version := by
  unfold hb; rw [h]
theorem hb_none {r : SIntervals} {l : List SVersionNeeds} {k : Nat} (h : l.length ≤ k) : hb r l k = false := by
  unfold hb; rw [List.getElem?_eq_none h]
theorem demands_eq {n : Nat} (hn : 1000 < n) {u : SPackages} (hu : u.Packages.length ≤ 6 ∧ ∀ x ∈ u.Packages, rcode u.Packages.length x = 0) {ns : List SPackageRange} (hns : ncode u.Packages.length ns = 0) : solver_demands n u ns = some (ns.map (dem u)) := by
  obtain ⟨h1, h2, h3⟩ := ncode_iff.1 hns
  have key := loop_fin (l := ns) (L := fun m (s : List SOfBy) i => solver_demands_l1 n u ns m s i) (some (ns.map (dem u))) (fun s i => s = (ns.take i).map (dem u)) ?_ ?_ n [] 0 (by simp) (by omega) (by omega)
  · exact key
  · intro m s i x hs hi hx
    refine ⟨(ns.take (i + 1)).map (dem u), rfl, ?_⟩
    show solver_demands_l1 n u ns (m + 1) s i = solver_demands_l1 n u ns m _ _
    simp only [solver_demands_l1]
    have hx0 := h2 x (get_mem hx)
    obtain ⟨q, hq⟩ := natOf hx0.1.1
    have hql : q < u.Packages.length := by omega
    have hrc := rel_needs (hu.2 _ (List.getElem_mem hql))
    rw [if_pos (by rw [decide_eq_true_eq]; omega), gidx_nat, hx, bsome, hq, gidx_nat, getElem?_lt hql, bsome]
    have inner := loop_fin (l := u.Packages[q]) (L := fun k (t : Bool × Bool × Bool × Bool) j => solver_demands_l2 n s i (solver_demands_l1 n u ns m) x u.Packages[q] k t.1 t.2.1 t.2.2.1 t.2.2.2 j)
      (solver_demands_l1 n u ns m (s ++ [dem u x]) ((i + 1 : Nat) : Int))
      (fun t j => t = ((if 0 < j then hb x.Range u.Packages[q] 0 else false), (if 1 < j then hb x.Range u.Packages[q] 1 else false), (if 2 < j then hb x.Range u.Packages[q] 2 else false), (if 3 < j then hb x.Range u.Packages[q] 3 else false))) ?_ ?_ n (false, false, false, false) 0 (by simp) (by omega) (by omega)
    · refine Eq.trans inner ?_
      rw [hs]
      congr 1
      rw [List.take_add_one, hx]
      simp
    · intro k t j y ht hj hy
      refine ⟨((if 0 < j + 1 then hb x.Range u.Packages[q] 0 else false), (if 1 < j + 1 then hb x.Range u.Packages[q] 1 else false), (if 2 < j + 1 then hb x.Range u.Packages[q] 2 else false), (if 3 < j + 1 then hb x.Range u.Packages[q] 3 else false)), rfl, ?_⟩
      subst ht
      simp only []
      have hj4 : j < 4 := by omega
      show solver_demands_l2 n s i (solver_demands_l1 n u ns m) x u.Packages[q] (k + 1) _ _ _ _ j = _
      simp only [solver_demands_l2]
      rw [if_pos (by rw [decide_eq_true_eq]; omega), gidx_nat, hy, bsome, etaV, etaR, has_eq hn hx0.2 (hrc.2 y (get_mem hy)).1, bsome, show garr 4 (j : Int) = some (j : Int) from if_pos (by omega), bsome, gadd_nat (by omega), bsome]
      have hby := hb_get (r := x.Range) hy
      rcases (show j = 0 ∨ j = 1 ∨ j = 2 ∨ j = 3 by omega) with e | e | e | e <;> subst e <;> rw [← hby] <;> simp
    · intro k t ht
      subst ht
      show solver_demands_l2 n s i (solver_demands_l1 n u ns m) x u.Packages[q] (k + 1) _ _ _ _ _ = _
      simp only [solver_demands_l2]
      have hsl : s.length ≤ 4 := by rw [hs, List.length_map]; exact Nat.le_trans (List.length_take_le _ _) (by omega)
      rw [if_neg (by rw [decide_eq_true_eq]; omega), gapp_ok (by simp; omega), bsome, gadd_nat (by omega), bsome]
      have e : ∀ k, (if k < u.Packages[q].length then hb x.Range u.Packages[q] k else false) = hb x.Range u.Packages[q] k := by
        intro k
        split
        · rfl
        · exact (hb_none (by omega)).symm
      rw [e, e, e, e]
      congr 1
      congr 1
      unfold dem
      rw [hq, show ((q : Nat) : Int).toNat = q from rfl, getElem?_lt hql]
      rfl
  · intro m s hs
    show solver_demands_l1 n u ns (m + 1) s _ = _
    simp only [solver_demands_l1]
    rw [if_neg (by rw [decide_eq_true_eq]; omega), hs, List.take_length]
def prob (u : SPackages) (w : List SPackageRange) : SWantsNeeds := ⟨w.map (dem u), u.Packages.map (fun p => p.map (fun r => r.Needs.map (dem u)))⟩
theorem open_eq {n : Nat} (hn : 1000 < n) {u : SPackages} {w : List SPackageRange} (hok : okU u w) : solver_open n u w = some (prob u w) := by
  obtain ⟨h1, h2, h3⟩ := okU_iff.1 hok
  unfold solver_open
  rw [demands_eq hn ⟨h1, h2⟩ h3, bsome]
  have key := loop_fin (l := u.Packages) (L := fun m (s : List (List (List SOfBy))) i => solver_open_l1 n u (w.map (dem u)) m s i) (some (prob u w)) (fun s i => s = (u.Packages.take i).map (fun p => p.map (fun r => r.Needs.map (dem u)))) ?_ ?_ n [] 0 (by simp) (by omega) (by omega)
  · exact key
  · intro m s i x hs hi hx
    refine ⟨(u.Packages.take (i + 1)).map (fun p => p.map (fun r => r.Needs.map (dem u))), rfl, ?_⟩
    show solver_open_l1 n u (w.map (dem u)) (m + 1) s i = solver_open_l1 n u (w.map (dem u)) m _ _
    simp only [solver_open_l1]
    have hr := rel_needs (h2 x (get_mem hx))
    have hsl : s.length ≤ 6 := by rw [hs, List.length_map]; exact Nat.le_trans (List.length_take_le _ _) (by omega)
    rw [if_pos (by rw [decide_eq_true_eq]; omega), gidx_nat, hx, bsome]
    have inner := loop_fin (l := x) (L := fun k (t : List (List SOfBy)) j => solver_open_l2 n u s i (solver_open_l1 n u (w.map (dem u)) m) x k t j) (solver_open_l1 n u (w.map (dem u)) m (s ++ [x.map (fun r => r.Needs.map (dem u))]) ((i + 1 : Nat) : Int)) (fun t j => t = (x.take j).map (fun r => r.Needs.map (dem u))) ?_ ?_ n [] 0 (by simp) (by omega) (by omega)
    · refine Eq.trans inner ?_
      rw [hs]
      congr 1
      rw [List.take_add_one, hx]
      simp
    · intro k t j y ht hj hy
      refine ⟨(x.take (j + 1)).map (fun r => r.Needs.map (dem u)), rfl, ?_⟩
      show solver_open_l2 n u s i (solver_open_l1 n u (w.map (dem u)) m) x (k + 1) t j = solver_open_l2 n u s i (solver_open_l1 n u (w.map (dem u)) m) x k _ _
      simp only [solver_open_l2]
      have htl : t.length ≤ 4 := by rw [ht, List.length_map]; exact Nat.le_trans (List.length_take_le _ _) (by omega)
      rw [if_pos (by rw [decide_eq_true_eq]; omega), gidx_nat, hy, bsome, demands_eq hn ⟨h1, h2⟩ (hr.2 y (get_mem hy)).2, bsome, gapp_ok (by simp; omega), bsome, gadd_nat (by omega), bsome, ht]
      congr 1
      rw [List.take_add_one, hy]
      simp
    · intro k t ht
      show solver_open_l2 n u s i (solver_open_l1 n u (w.map (dem u)) m) x (k + 1) t _ = _
      simp only [solver_open_l2]
      rw [if_neg (by rw [decide_eq_true_eq]; omega), gapp_ok (by simp; omega), bsome, gadd_nat (by omega), bsome, ht, List.take_length]
  · intro m s hs
    show solver_open_l1 n u (w.map (dem u)) (m + 1) s _ = _
    simp only [solver_open_l1]
    rw [if_neg (by rw [decide_eq_true_eq]; omega), hs, List.take_length]
    rfl
end Go.Proofs.Ytfdennmaeoahgaa
namespace Go.Proofs.Ytfdennmaeoahgaa
open Go.PW Go
def bg (b : SA0A1A2A3) (i : Int) : Bool := if i = 0 then b.A0 else (if i = 1 then b.A1 else (if i = 2 then b.A2 else b.A3))
def sel (P : SWantsNeeds) (c : List Int) (q : Nat) : Option (List SOfBy) :=
  match c[q]? with
  | some x => if 0 ≤ x then (P.f_needs[q]?).bind (fun p => p[x.toNat]?) else none
  | none => none
def satB (c : List Int) (e : SOfBy) : Prop := ∃ x, c[e.f_of.toNat]? = some x ∧ 0 ≤ x ∧ bg e.f_by x = true
inductive Reach (P : SWantsNeeds) (c : List Int) : Nat → Prop
  | want (e : SOfBy) : e ∈ P.f_wants → Reach P c e.f_of.toNat
  | need (q : Nat) (ds : List SOfBy) (e : SOfBy) : Reach P c q → sel P c q = some ds → e ∈ ds → Reach P c e.f_of.toNat
def Solved (P : SWantsNeeds) (c : List Int) : Prop :=
  (∀ e ∈ P.f_wants, satB c e) ∧ (∀ q ds, Reach P c q → sel P c q = some ds → ∀ e ∈ ds, satB c e) ∧ (∀ q x, c[q]? = some x → 0 ≤ x → Reach P c q)
def Src (P : SWantsNeeds) (c : List Int) (ds : List SOfBy) : Prop := ds = P.f_wants ∨ ∃ q, Reach P c q ∧ sel P c q = some ds
theorem Src.sat {P : SWantsNeeds} {c : List Int} {ds : List SOfBy} (h : Src P c ds) (hs : Solved P c) : ∀ e ∈ ds, satB c e := by
  rcases h with h | ⟨q, h1, h2⟩
  · subst h; exact hs.1
  · exact hs.2.1 q ds h1 h2
theorem Src.reach {P : SWantsNeeds} {c : List Int} {ds : List SOfBy} (h : Src P c ds) {e : SOfBy} (he : e ∈ ds) : Reach P c e.f_of.toNat := by
  rcases h with h | ⟨q, h1, h2⟩
  · subst h; exact .want e he
  · exact .need q ds e h1 h2 he
structure Wf (P : SWantsNeeds) (c : List Int) : Prop where
  np : P.f_needs.length ≤ 6
  rel : ∀ p ∈ P.f_needs, p.length ≤ 4
  wl : P.f_wants.length ≤ 4
  wof : ∀ e ∈ P.f_wants, 0 ≤ e.f_of ∧ e.f_of < P.f_needs.length
  nl : ∀ p ∈ P.f_needs, ∀ ds ∈ p, ds.length ≤ 4
  nof : ∀ p ∈ P.f_needs, ∀ ds ∈ p, ∀ e ∈ ds, 0 ≤ e.f_of ∧ e.f_of < P.f_needs.length
  len : c.length = P.f_needs.length
  rng : ∀ (q : Nat) (x : Int) (p : List (List SOfBy)), c[q]? = some x → P.f_needs[q]? = some p → -1 ≤ x ∧ x < p.length
theorem sel_mem {P : SWantsNeeds} {c : List Int} {q : Nat} {ds : List SOfBy} (h : sel P c q = some ds) : ∃ p x, c[q]? = some x ∧ 0 ≤ x ∧ P.f_needs[q]? = some p ∧ p[x.toNat]? = some ds := by
  unfold sel at h
  cases hc : c[q]? with
  | none => rw [hc] at h; cases h
  | some x =>
    rw [hc] at h
    simp only [] at h
    by_cases hx : 0 ≤ x
    · rw [if_pos hx] at h
      cases hp : P.f_needs[q]? with
      | none => rw [hp] at h; cases h
      | some p => rw [hp] at h; exact ⟨p, x, rfl, hx, rfl, h⟩
    · rw [if_neg hx] at h; cases h
theorem sel_ok {P : SWantsNeeds} {c : List Int} {q : Nat} {x : Int} {p : List (List SOfBy)} {ds : List SOfBy} (h1 : c[q]? = some x) (h2 : 0 ≤ x) (h3 : P.f_needs[q]? = some p) (h4 : p[x.toNat]? = some ds) : sel P c q = some ds := by
  unfold sel
  rw [h1]
  simp only []
  rw [if_pos h2, h3]
  exact h4
theorem Wf.src {P : SWantsNeeds} {c : List Int} (wf : Wf P c) {ds : List SOfBy} (h : Src P c ds) : ds.length ≤ 4 ∧ ∀ e ∈ ds, 0 ≤ e.f_of ∧ e.f_of < P.f_needs.length := by
  rcases h with h | ⟨q, -, h2⟩
  · subst h; exact ⟨wf.wl, wf.wof⟩
  · obtain ⟨p, x, -, -, h5, h6⟩ := sel_mem h2
    exact ⟨wf.nl p (get_mem h5) ds (get_mem h6), wf.nof p (get_mem h5) ds (get_mem h6)⟩
def g6 (b1 b2 b3 b4 b5 b6 : Bool) (i : Int) : Bool := if i = 0 then b1 else (if i = 1 then b2 else (if i = 2 then b3 else (if i = 3 then b4 else (if i = 4 then b5 else b6))))
theorem g6_set (b1 b2 b3 b4 b5 b6 : Bool) {k j : Int} (hk : 0 ≤ k ∧ k < 6) (hj : 0 ≤ j ∧ j < 6) :
    g6 (if k = 0 then true else b1) (if k = 1 then true else b2) (if k = 2 then true else b3) (if k = 3 then true else b4) (if k = 4 then true else b5) (if k = 5 then true else b6) j = if j = k then true else g6 b1 b2 b3 b4 b5 b6 j := by
  unfold g6
  rcases (show k = 0 ∨ k = 1 ∨ k = 2 ∨ k = 3 ∨ k = 4 ∨ k = 5 by omega) with e | e | e | e | e | e <;> subst e <;>
  rcases (show j = 0 ∨ j = 1 ∨ j = 2 ∨ j = 3 ∨ j = 4 ∨ j = 5 by omega) with e | e | e | e | e | e <;> subst e <;> simp
def bn (b : Bool) : Nat := if b = true then 0 else 1
def off (b1 b2 b3 b4 b5 b6 : Bool) : Nat := bn b1 + bn b2 + bn b3 + bn b4 + bn b5 + bn b6
theorem off_set {b1 b2 b3 b4 b5 b6 : Bool} {k : Int} (hk : 0 ≤ k ∧ k < 6) (h : g6 b1 b2 b3 b4 b5 b6 k = false) :
    off (if k = 0 then true else b1) (if k = 1 then true else b2) (if k = 2 then true else b3) (if k = 3 then true else b4) (if k = 4 then true else b5) (if k = 5 then true else b6) + 1 = off b1 b2 b3 b4 b5 b6 := by
  unfold g6 at h
  unfold off bn
  rcases (show k = 0 ∨ k = 1 ∨ k = 2 ∨ k = 3 ∨ k = 4 ∨ k = 5 by omega) with e | e | e | e | e | e <;> subst e <;> simp at h <;> subst h <;> simp <;> omega
def Cov (P : SWantsNeeds) (c : List Int) (g : Int → Bool) (stk : List (List SOfBy)) (A : List SOfBy → Prop) (ds : List SOfBy) : Prop :=
  A ds ∨ ds ∈ stk ∨ ∀ e ∈ ds, satB c e ∧ g e.f_of = true
structure Inv (P : SWantsNeeds) (c : List Int) (g : Int → Bool) (stk : List (List SOfBy)) (A : List SOfBy → Prop) : Prop where
  seen : ∀ q : Nat, q < P.f_needs.length → g q = true → Reach P c q
  src : ∀ ds ∈ stk, Src P c ds
  cw : Cov P c g stk A P.f_wants
  cn : ∀ q : Nat, q < P.f_needs.length → g q = true → ∀ ds, sel P c q = some ds → Cov P c g stk A ds
theorem last_cut {α : Type} {l : List α} (h : 0 < l.length) : ∃ x s, l = s ++ [x] ∧ l[l.length - 1]? = some x ∧ l.take (l.length - 1) = s := by
  refine ⟨l[l.length - 1], l.take (l.length - 1), ?_, getElem?_lt (by omega), rfl⟩
  have := List.take_append_drop (l.length - 1) l
  conv => lhs; rw [← this]
  congr 1
  rw [List.drop_eq_getElem_cons (by omega)]
  congr 1
  exact List.drop_eq_nil_of_le (by omega)
theorem solved_l1 {n : Nat} (c : List Int) (hc : c.length ≤ 6) (b1 b2 b3 b4 b5 b6 : Bool) : ∀ (m i : Nat), i ≤ c.length → c.length - i < m → ∃ b, solver_problem_solved_l1 n c b1 b2 b3 b4 b5 b6 m i = some b ∧ (b = true ↔ ∀ j x, i ≤ j → c[j]? = some x → 0 ≤ x → g6 b1 b2 b3 b4 b5 b6 j = true)
  | 0, i, _, h => by omega
  | m + 1, i, hi, hm => by
    simp only [solver_problem_solved_l1]
    by_cases h : i = c.length
    · rw [if_neg (by rw [decide_eq_true_eq]; omega)]
      refine ⟨true, rfl, fun _ j x hj hx => ?_, fun _ => rfl⟩
      have := get_lt hx
      omega
    · have hlt : i < c.length := by omega
      obtain ⟨b, hb, hb2⟩ := solved_l1 (n := n) c hc b1 b2 b3 b4 b5 b6 m (i + 1) (by omega) (by omega)
      have j2 : ∀ y : Bool, solver_problem_solved_j2 n i (solver_problem_solved_l1 n c b1 b2 b3 b4 b5 b6 m) y = some (!y && b) := by
        intro y
        unfold solver_problem_solved_j2
        rw [gadd_nat (by omega), bsome, hb]
        cases y <;> simp
      rw [if_pos (by rw [decide_eq_true_eq]; omega), gidx_nat, getElem?_lt hlt, bsome, ifdec]
      by_cases h0 : 0 ≤ c[i]
      · rw [if_pos h0, show garr 6 (i : Int) = some (i : Int) from if_pos (by omega), bsome, j2]
        refine ⟨_, rfl, ?_⟩
        rw [Bool.and_eq_true, hb2]
        rw [show (!(!(if (i : Int) = 0 then b1 else (if (i : Int) = 1 then b2 else (if (i : Int) = 2 then b3 else (if (i : Int) = 3 then b4 else (if (i : Int) = 4 then b5 else b6))))))) = g6 b1 b2 b3 b4 b5 b6 i from Bool.not_not _]
        constructor
        · rintro ⟨g1, g2⟩ j x hj hx hx0
          by_cases e : j = i
          · subst e; exact g1
          · exact g2 j x (by omega) hx hx0
        · intro g
          exact ⟨g i _ (Nat.le_refl _) (getElem?_lt hlt) h0, fun j x hj => g j x (by omega)⟩
      · rw [if_neg h0, j2]
        refine ⟨_, rfl, ?_⟩
        rw [Bool.not_false, Bool.true_and, hb2]
        constructor
        · intro g j x hj hx hx0
          by_cases e : j = i
          · subst e; rw [getElem?_lt hlt] at hx; injection hx with hx; omega
          · exact g j x (by omega) hx hx0
        · intro g j x hj
          exact g j x (by omega)
theorem solved_l2 {n : Nat} (hn : 1000 < n) {P : SWantsNeeds} {c : List Int} (wf : Wf P c) : ∀ (m : Nat) (b1 b2 b3 b4 b5 b6 : Bool) (stk : List (List SOfBy)), Inv P c (g6 b1 b2 b3 b4 b5 b6) stk (fun _ => False) → stk.length + off b1 b2 b3 b4 b5 b6 < m → stk.length + off b1 b2 b3 b4 b5 b6 ≤ 7 →
    ∃ b, solver_problem_solved_l2 n P c m b1 b2 b3 b4 b5 b6 stk = some b ∧ (b = true ↔ Solved P c)
  | 0, _, _, _, _, _, _, _, _, h, _ => by omega
  | m + 1, b1, b2, b3, b4, b5, b6, stk, inv, hm, h7 => by
    have hc6 : c.length ≤ 6 := by rw [wf.len]; exact wf.np
    simp only [solver_problem_solved_l2]
    by_cases hs : 0 < stk.length
    · obtain ⟨top, rest, e, e1, e2⟩ := last_cut hs
      have hsl : stk.length = rest.length + 1 := by rw [e]; simp
      rw [if_pos (by rw [decide_eq_true_eq]; omega), gsubI (by omega), bsome, show (stk.length : Int) - 1 = ((stk.length - 1 : Nat) : Int) by omega, gidx_nat, e1, bsome, bsome, gcut_take (by omega), bsome, e2]
      have htop : Src P c top := inv.src top (by rw [e]; simp)
      obtain ⟨tl, tof⟩ := wf.src htop
      -- the demands of the list on top, one by one
      have inner : ∀ (k i : Nat) (b1 b2 b3 b4 b5 b6 : Bool) (st : List (List SOfBy)), i ≤ top.length → top.length - i < k → Inv P c (g6 b1 b2 b3 b4 b5 b6) st (fun ds => ds = top) → (∀ j e, j < i → top[j]? = some e → satB c e ∧ g6 b1 b2 b3 b4 b5 b6 e.f_of = true) → st.length + off b1 b2 b3 b4 b5 b6 < m → st.length + off b1 b2 b3 b4 b5 b6 ≤ 7 →
          ∃ b, solver_problem_solved_l3 n P c (solver_problem_solved_l2 n P c m) top k b1 b2 b3 b4 b5 b6 st i = some b ∧ (b = true ↔ Solved P c) := by
        intro k
        induction k with
        | zero => intro i _ _ _ _ _ _ _ _ h; omega
        | succ k ih =>
          intro i b1 b2 b3 b4 b5 b6 st hi hk inv' hd hm' h7'
          simp only [solver_problem_solved_l3]
          by_cases hie : i = top.length
          · rw [if_neg (by rw [decide_eq_true_eq]; omega)]
            refine solved_l2 hn wf m b1 b2 b3 b4 b5 b6 st ⟨inv'.seen, inv'.src, ?_, ?_⟩ hm' h7'
            · rcases inv'.cw with h | h | h
              · refine .inr (.inr ?_)
                rw [h]
                intro e he
                obtain ⟨j, hj⟩ := List.getElem?_of_mem he
                exact hd j e (by have := get_lt hj; omega) hj
              · exact .inr (.inl h)
              · exact .inr (.inr h)
            · intro q hq hg ds hds
              rcases inv'.cn q hq hg ds hds with h | h | h
              · refine .inr (.inr ?_)
                rw [h]
                intro e he
                obtain ⟨j, hj⟩ := List.getElem?_of_mem he
                exact hd j e (by have := get_lt hj; omega) hj
              · exact .inr (.inl h)
              · exact .inr (.inr h)
          · have hlt : i < top.length := by omega
            have hof := tof _ (List.getElem_mem hlt)
            obtain ⟨q, hq⟩ := natOf hof.1
            have hqn : q < P.f_needs.length := by omega
            have hqc : q < c.length := by rw [wf.len]; exact hqn
            have hrng := wf.rng q c[q] _ (getElem?_lt hqc) (getElem?_lt hqn)
            have hrel := wf.rel _ (List.getElem_mem hqn)
            rw [if_pos (by rw [decide_eq_true_eq]; omega), gidx_nat, getElem?_lt hlt, bsome, hq, gidx_nat, getElem?_lt hqc, bsome, ifdec]
            have hqi : top[i].f_of.toNat = q := by omega
            have nosat : ¬ satB c top[i] → ∃ b, some false = some b ∧ (b = true ↔ Solved P c) := by
              intro h
              refine ⟨false, rfl, fun h => (by cases h), fun hS => ?_⟩
              exact absurd (htop.sat hS _ (List.getElem_mem hlt)) h
            by_cases h0 : c[q] < 0
            · rw [if_pos h0]
              unfold solver_problem_solved_j4
              rw [if_pos rfl]
              refine nosat ?_
              rintro ⟨x, hx, hx0, -⟩
              rw [hqi, getElem?_lt hqc] at hx
              injection hx with hx
              omega
            · rw [if_neg h0, show garr 4 c[q] = some c[q] from if_pos (by omega), bsome]
              rw [show (if c[q] = 0 then top[i].f_by.A0 else (if c[q] = 1 then top[i].f_by.A1 else (if c[q] = 2 then top[i].f_by.A2 else top[i].f_by.A3))) = bg top[i].f_by c[q] from rfl]
              unfold solver_problem_solved_j4
              cases hbg : bg top[i].f_by c[q] with
              | false =>
                rw [if_pos (show (!false) = true from rfl)]
                refine nosat ?_
                rintro ⟨x, hx, hx0, hx1⟩
                rw [hqi, getElem?_lt hqc] at hx
                injection hx with hx
                subst hx
                rw [hbg] at hx1
                cases hx1
              | true =>
                have hsat : satB c top[i] := ⟨c[q], by rw [hqi]; exact getElem?_lt hqc, by omega, hbg⟩
                have hg6 : (if (q : Int) = 0 then b1 else (if (q : Int) = 1 then b2 else (if (q : Int) = 2 then b3 else (if (q : Int) = 3 then b4 else (if (q : Int) = 4 then b5 else b6))))) = g6 b1 b2 b3 b4 b5 b6 q := rfl
                rw [if_neg (by simp), hq, show garr 6 (q : Int) = some (q : Int) from if_pos (by have := wf.np; omega), bsome, bsome, hg6]
                unfold solver_problem_solved_j3
                cases hg : g6 b1 b2 b3 b4 b5 b6 q with
                | true =>
                  rw [if_neg (by simp), gadd_nat (by omega), bsome]
                  refine ih (i + 1) b1 b2 b3 b4 b5 b6 st (by omega) (by omega) inv' ?_ hm' h7'
                  intro j e hj hje
                  by_cases ej : j = i
                  · subst ej
                    rw [getElem?_lt hlt] at hje
                    injection hje with hje
                    subst hje
                    exact ⟨hsat, by rw [hq]; exact hg⟩
                  · exact hd j e (by omega) hje
                | false =>
                  have hx4 : c[q].toNat < P.f_needs[q].length := by omega
                  rw [if_pos (show (!false) = true from rfl), gidx_nat, getElem?_lt hqn, bsome, show c[q] = ((c[q].toNat : Nat) : Int) by omega, gidx_nat, getElem?_lt hx4, bsome, gapp_ok (by simp; omega), bsome, gadd_nat (by omega), bsome]
                  have hk6 : (0 : Int) ≤ q ∧ (q : Int) < 6 := by have := wf.np; omega
                  have hoff := off_set hk6 hg
                  have hsel : sel P c q = some P.f_needs[q][c[q].toNat] := sel_ok (getElem?_lt hqc) (by omega) (getElem?_lt hqn) (getElem?_lt hx4)
                  have hreach : Reach P c q := by
                    have := htop.reach (List.getElem_mem hlt)
                    rw [hqi] at this
                    exact this
                  have gset : ∀ j : Int, 0 ≤ j ∧ j < 6 → g6 (if (q : Int) = 0 then true else b1) (if (q : Int) = 1 then true else b2) (if (q : Int) = 2 then true else b3) (if (q : Int) = 3 then true else b4) (if (q : Int) = 4 then true else b5) (if (q : Int) = 5 then true else b6) j = if j = q then true else g6 b1 b2 b3 b4 b5 b6 j := fun j hj => g6_set b1 b2 b3 b4 b5 b6 hk6 hj
                  have gmono : ∀ j : Int, 0 ≤ j ∧ j < 6 → g6 b1 b2 b3 b4 b5 b6 j = true → g6 (if (q : Int) = 0 then true else b1) (if (q : Int) = 1 then true else b2) (if (q : Int) = 2 then true else b3) (if (q : Int) = 3 then true else b4) (if (q : Int) = 4 then true else b5) (if (q : Int) = 5 then true else b6) j = true := by
                    intro j hj h
                    rw [gset j hj]
                    split
                    · rfl
                    · exact h
                  have covm : ∀ ds, Src P c ds → Cov P c (g6 b1 b2 b3 b4 b5 b6) st (fun ds => ds = top) ds → Cov P c (g6 (if (q : Int) = 0 then true else b1) (if (q : Int) = 1 then true else b2) (if (q : Int) = 2 then true else b3) (if (q : Int) = 3 then true else b4) (if (q : Int) = 4 then true else b5) (if (q : Int) = 5 then true else b6)) (st ++ [P.f_needs[q][c[q].toNat]]) (fun ds => ds = top) ds := by
                    intro ds hsrc h
                    rcases h with h | h | h
                    · exact .inl h
                    · exact .inr (.inl (List.mem_append_left _ h))
                    · refine .inr (.inr fun e he => ⟨(h e he).1, gmono _ ?_ (h e he).2⟩)
                      have := (wf.src hsrc).2 e he
                      have := wf.np
                      omega
                  refine ih (i + 1) _ _ _ _ _ _ _ (by omega) (by omega) ⟨?_, ?_, ?_, ?_⟩ ?_ (by simp only [List.length_append, List.length_cons, List.length_nil]; omega) (by simp only [List.length_append, List.length_cons, List.length_nil]; omega)
                  · intro j hj hgj
                    have hj6 : (0 : Int) ≤ j ∧ (j : Int) < 6 := by have := wf.np; omega
                    rw [gset j hj6] at hgj
                    by_cases ej : (j : Int) = q
                    · have : j = q := by omega
                      subst this; exact hreach
                    · rw [if_neg ej] at hgj
                      exact inv'.seen j hj hgj
                  · intro ds hds
                    rcases List.mem_append.1 hds with h | h
                    · exact inv'.src ds h
                    · simp at h
                      subst h
                      exact .inr ⟨q, hreach, hsel⟩
                  · exact covm _ (.inl rfl) inv'.cw
                  · intro j hj hgj ds hds
                    have hj6 : (0 : Int) ≤ j ∧ (j : Int) < 6 := by have := wf.np; omega
                    by_cases ej : (j : Int) = q
                    · have : j = q := by omega
                      subst this
                      rw [hsel] at hds
                      injection hds with hds
                      subst hds
                      exact .inr (.inl (by simp))
                    · rw [gset j hj6, if_neg ej] at hgj
                      exact covm ds (.inr ⟨j, inv'.seen j hj hgj, hds⟩) (inv'.cn j hj hgj ds hds)
                  · intro j e hj hje
                    have hej := tof e (get_mem hje)
                    have hej6 : 0 ≤ e.f_of ∧ e.f_of < 6 := by have := wf.np; omega
                    by_cases ej : j = i
                    · subst ej
                      rw [getElem?_lt hlt] at hje
                      injection hje with hje
                      subst hje
                      refine ⟨hsat, ?_⟩
                      rw [gset _ hej6, if_pos hq]
                    · obtain ⟨s1, s2⟩ := hd j e (by omega) hje
                      exact ⟨s1, gmono _ hej6 s2⟩
      refine inner n 0 b1 b2 b3 b4 b5 b6 rest (by omega) (by omega) ⟨inv.seen, fun ds h => inv.src ds (by rw [e]; exact List.mem_append_left _ h), ?_, ?_⟩ (fun j _ h => by omega) (by omega) (by omega)
      · rcases inv.cw with h | h | h
        · exact h.elim
        · rw [e] at h
          rcases List.mem_append.1 h with h | h
          · exact .inr (.inl h)
          · exact .inl (by simpa using h)
        · exact .inr (.inr h)
      · intro q hq hg ds hds
        rcases inv.cn q hq hg ds hds with h | h | h
        · exact h.elim
        · rw [e] at h
          rcases List.mem_append.1 h with h | h
          · exact .inr (.inl h)
          · exact .inl (by simpa using h)
        · exact .inr (.inr h)
    · rw [if_neg (by rw [decide_eq_true_eq]; omega)]
      have hnil : stk = [] := List.length_eq_zero_iff.1 (by omega)
      subst hnil
      obtain ⟨b, hb, hb2⟩ := solved_l1 (n := n) c hc6 b1 b2 b3 b4 b5 b6 n 0 (by omega) (by omega)
      refine ⟨b, hb, hb2.trans ?_⟩
      have cov : ∀ ds, Cov P c (g6 b1 b2 b3 b4 b5 b6) [] (fun _ => False) ds → ∀ e ∈ ds, satB c e ∧ g6 b1 b2 b3 b4 b5 b6 e.f_of = true := by
        intro ds h
        rcases h with h | h | h
        · exact h.elim
        · cases h
        · exact h
      have reach : ∀ q, Reach P c q → q < P.f_needs.length ∧ g6 b1 b2 b3 b4 b5 b6 q = true := by
        intro q hq
        induction hq with
        | want e he =>
          have := wf.wof e he
          refine ⟨by omega, ?_⟩
          rw [show ((e.f_of.toNat : Nat) : Int) = e.f_of by omega]
          exact (cov _ inv.cw e he).2
        | need q ds e hr hds he ih =>
          have := (wf.src (.inr ⟨q, hr, hds⟩)).2 e he
          refine ⟨by omega, ?_⟩
          rw [show ((e.f_of.toNat : Nat) : Int) = e.f_of by omega]
          exact (cov _ (inv.cn q ih.1 ih.2 ds hds) e he).2
      constructor
      · intro h
        refine ⟨fun e he => (cov _ inv.cw e he).1, fun q ds hr hds e he => (cov _ (inv.cn q (reach q hr).1 (reach q hr).2 ds hds) e he).1, fun q x hx hx0 => ?_⟩
        exact inv.seen q (by rw [← wf.len]; exact get_lt hx) (h q x (Nat.zero_le _) hx hx0)
      · intro hS j x _ hx hx0
        exact (reach j (hS.2.2 j x hx hx0)).2
theorem solved_eq {n : Nat} (hn : 1000 < n) {P : SWantsNeeds} {c : List Int} (wf : Wf P c) : ∃ b, solver_problem_solved n P c = some b ∧ (b = true ↔ Solved P c) := by
  unfold solver_problem_solved
  have z : ∀ i, g6 false false false false false false i = false := by
    intro i; unfold g6; simp
  refine solved_l2 hn wf n false false false false false false [P.f_wants] ⟨?_, ?_, ?_, ?_⟩ (by simp [off, bn]; omega) (by simp [off, bn])
  · intro q _ h; rw [z] at h; cases h
  · intro ds h; simp at h; exact .inl h
  · exact .inr (.inl (by simp))
  · intro q _ h; rw [z] at h; cases h
end Go.Proofs.Ytfdennmaeoahgaa
namespace Go.Proofs.Ytfdennmaeoahgaa
open Go.PW Go
def InR (u : SPackages) (c : List Int) : Prop := c.length = u.Packages.length ∧ ∀ (q : Nat) (x : Int) (p : List SVersionNeeds), c[q]? = some x → u.Packages[q]? = some p → -1 ≤ x ∧ x < p.length
theorem prob_wf {u : SPackages} {w : List SPackageRange} {c : List Int} (hok : okU u w) (hc : InR u c) : Wf (prob u w) c := by
  obtain ⟨h1, h2, h3⟩ := okU_iff.1 hok
  have hl : (prob u w).f_needs.length = u.Packages.length := by unfold prob; simp
  have hn : ∀ p ∈ (prob u w).f_needs, ∃ x ∈ u.Packages, p = x.map (fun r => r.Needs.map (dem u)) := by
    intro p hp
    unfold prob at hp
    simp only [List.mem_map] at hp
    obtain ⟨x, hx, rfl⟩ := hp
    exact ⟨x, hx, rfl⟩
  have hd : ∀ ns : List SPackageRange, ncode u.Packages.length ns = 0 → (ns.map (dem u)).length ≤ 4 ∧ ∀ e ∈ ns.map (dem u), 0 ≤ e.f_of ∧ e.f_of < (prob u w).f_needs.length := by
    intro ns hns
    obtain ⟨g1, g2, -⟩ := ncode_iff.1 hns
    refine ⟨by rw [List.length_map]; exact g1, fun e he => ?_⟩
    rw [List.mem_map] at he
    obtain ⟨d, hd, rfl⟩ := he
    rw [hl]
    exact (g2 d hd).1
  refine ⟨by rw [hl]; exact h1, fun p hp => ?_, (hd w h3).1, (hd w h3).2, fun p hp ds hds => ?_, fun p hp ds hds => ?_, by rw [hl]; exact hc.1, fun q x p hx hp => ?_⟩
  · obtain ⟨x, hx, rfl⟩ := hn p hp
    rw [List.length_map]
    exact (rel_needs (h2 x hx)).1
  · obtain ⟨x, hx, rfl⟩ := hn p hp
    rw [List.mem_map] at hds
    obtain ⟨r, hr, rfl⟩ := hds
    exact (hd _ ((rel_needs (h2 x hx)).2 r hr).2).1
  · obtain ⟨x, hx, rfl⟩ := hn p hp
    rw [List.mem_map] at hds
    obtain ⟨r, hr, rfl⟩ := hds
    exact (hd _ ((rel_needs (h2 x hx)).2 r hr).2).2
  · unfold prob at hp
    simp only [List.getElem?_map] at hp
    cases hu : u.Packages[q]? with
    | none => rw [hu] at hp; cases hp
    | some p' =>
      rw [hu] at hp
      injection hp with hp
      subst hp
      rw [List.length_map]
      exact hc.2 q x p' hx hu
def agree (k : Nat) (c w : List Int) : Prop := c.length = w.length ∧ ∀ j < k, c[j]? = w[j]?
theorem glen_ok {α : Type} {a b : List α} (h : a.length = b.length) : glen a b = some () := if_pos h
theorem search_eq {u : SPackages} {wa : List SPackageRange} (hok : okU u wa) : ∀ (f k : Nat) (w : List Int), k ≤ u.Packages.length → 1001 + (u.Packages.length - k) < f → w.length = u.Packages.length → (∀ (j : Nat) (x : Int) (p : List SVersionNeeds), j < k → w[j]? = some x → u.Packages[j]? = some p → -1 ≤ x ∧ x < p.length) →
    ∃ b w', solver_Solve_1_m1 f k w (prob u wa).f_wants (prob u wa).f_needs u.Packages = some (b, w') ∧ agree k w' w ∧ (b = true → InR u w' ∧ Solved (prob u wa) w') ∧ ((∃ c, InR u c ∧ agree k c w ∧ Solved (prob u wa) c) → b = true)
  | 0, k, w, _, h, _, _ => by omega
  | f + 1, k, w, hk, hf, hw, hpre => by
    obtain ⟨h1, h2, h3⟩ := okU_iff.1 hok
    simp only [solver_Solve_1_m1]
    rw [ifdec]
    by_cases he : k = u.Packages.length
    · rw [if_pos (by omega)]
      have hin : InR u w := ⟨hw, fun q x p hx hp => hpre q x p (by have := get_lt hp; omega) hx hp⟩
      obtain ⟨b, hb, hb2⟩ := solved_eq (n := f) (by omega) (prob_wf hok hin)
      have e : (⟨(prob u wa).f_wants, (prob u wa).f_needs⟩ : SWantsNeeds) = prob u wa := rfl
      rw [e, hb, bsome]
      refine ⟨b, w, rfl, ⟨rfl, fun _ _ => rfl⟩, fun h => ⟨hin, hb2.1 h⟩, ?_⟩
      rintro ⟨c, hc, hca, hS⟩
      have : c = w := by
        refine List.ext_getElem? fun j => ?_
        by_cases hj : j < k
        · exact hca.2 j hj
        · rw [List.getElem?_eq_none (by rw [hc.1]; omega), List.getElem?_eq_none (by omega)]
      subst this
      exact hb2.2 hS
    · rw [if_neg (by omega)]
      have hkl : k < u.Packages.length := by omega
      have hrl := (rel_needs (h2 _ (List.getElem_mem hkl))).1
      rw [gidx_nat, getElem?_lt hkl, bsome, gsubI (by omega), bsome]
      -- the loop over the values, from the last release to none
      have loop : ∀ (m t : Nat) (w4 : List Int), t < m → t ≤ u.Packages[k].length + 1 → agree k w4 w →
          ∃ b w', solver_Solve_1_m1_l1 f k (prob u wa).f_wants (prob u wa).f_needs u.Packages (solver_Solve_1_m1 f) m w4 ((t : Int) - 2) = some (b, w') ∧ agree k w' w ∧ (b = true → InR u w' ∧ Solved (prob u wa) w') ∧ ((∃ c x, InR u c ∧ agree k c w ∧ c[k]? = some x ∧ x ≤ (t : Int) - 2 ∧ Solved (prob u wa) c) → b = true) := by
        intro m
        induction m with
        | zero => intro t _ h; omega
        | succ m ih =>
          intro t w4 hm ht hag
          simp only [solver_Solve_1_m1_l1]
          rw [ifdec]
          by_cases ht0 : t = 0
          · subst ht0
            rw [if_neg (by omega)]
            refine ⟨false, w4, rfl, hag, fun h => (by cases h), ?_⟩
            rintro ⟨c, x, hc, _, hx, hx2, _⟩
            have := (hc.2 k x _ hx (getElem?_lt hkl)).1
            omega
          · have hwl : k < w4.length := by rw [hag.1, hw]; exact hkl
            rw [if_pos (by omega), gidx_nat, getElem?_lt hwl, bsome, gadd_nat (by omega), bsome, gset_nat]
            have hag1 : agree k (w4.set k ((t : Int) - 2)) w := by
              refine ⟨by rw [List.length_set]; exact hag.1, fun j hj => ?_⟩
              rw [List.getElem?_set_ne (by omega)]
              exact hag.2 j hj
            obtain ⟨b, w', hb, hb1, hb2, hb3⟩ := search_eq hok f (k + 1) (w4.set k ((t : Int) - 2)) (by omega) (by omega) (by rw [List.length_set, hag.1]; exact hw) (by
              intro j x p hj hx hp
              by_cases ej : j = k
              · subst ej
                rw [List.getElem?_set_self hwl] at hx
                rw [getElem?_lt hkl] at hp
                injection hx with hx
                injection hp with hp
                subst hx hp
                omega
              · rw [List.getElem?_set_ne (by omega), hag.2 j (by omega)] at hx
                exact hpre j x p (by omega) hx hp)
            rw [hb, bsome, glen_ok hb1.1, bsome]
            have hag2 : agree k w' w := ⟨by rw [hb1.1, hag1.1], fun j hj => by rw [hb1.2 j (by omega)]; exact hag1.2 j hj⟩
            cases hbt : b with
            | true =>
              rw [if_pos rfl]
              exact ⟨true, w', rfl, hag2, fun _ => hb2 hbt, fun _ => rfl⟩
            | false =>
              rw [if_neg (by simp), gsubI (by omega), bsome]
              obtain ⟨b', w'', g1, g2, g3, g4⟩ := ih (t - 1) w' (by omega) (by omega) hag2
              rw [show ((t - 1 : Nat) : Int) - 2 = (t : Int) - 2 - 1 by omega] at g1 g4
              refine ⟨b', w'', g1, g2, g3, ?_⟩
              rintro ⟨c, x, hc, hca, hx, hx2, hS⟩
              by_cases ex : x = (t : Int) - 2
              · have : b = true := by
                  refine hb3 ⟨c, hc, ⟨by rw [hca.1, List.length_set, hag.1], fun j hj => ?_⟩, hS⟩
                  by_cases ej : j = k
                  · subst ej
                    rw [List.getElem?_set_self hwl, hx, ex]
                  · rw [List.getElem?_set_ne (by omega), hag.2 j (by omega)]
                    exact hca.2 j (by omega)
                rw [hbt] at this
                cases this
              · exact g4 ⟨c, x, hc, hca, hx, by omega, hS⟩
      obtain ⟨b, w', g1, g2, g3, g4⟩ := loop f (u.Packages[k].length + 1) w (by omega) (Nat.le_refl _) ⟨rfl, fun _ _ => rfl⟩
      rw [show ((u.Packages[k].length + 1 : Nat) : Int) - 2 = (u.Packages[k].length : Int) - 1 by omega] at g1 g4
      refine ⟨b, w', g1, g2, g3, ?_⟩
      rintro ⟨c, hc, hca, hS⟩
      have hkc : k < c.length := by rw [hc.1]; exact hkl
      have := hc.2 k _ _ (getElem?_lt hkc) (getElem?_lt hkl)
      exact g4 ⟨c, c[k], hc, hca, getElem?_lt hkc, by omega, hS⟩
def Solvable (u : SPackages) (w : List SPackageRange) : Prop := ∃ c, InR u c ∧ Solved (prob u w) c
theorem solve_eq {n : Nat} (hn : 2000 < n) {u : SPackages} {w : List SPackageRange} (hok : okU u w) : ∃ c b, solver_Solve n u w = some (c, b, ⟨0, 0⟩) ∧ (b = true ↔ Solvable u w) ∧ (b = true → InR u c ∧ Solved (prob u w) c) := by
  obtain ⟨h1, h2, h3⟩ := okU_iff.1 hok
  unfold solver_Solve
  rw [args_eq (by omega), bsome, beqF, ifnot, if_pos ((afault_iff u w).2 hok), open_eq (by omega) hok, bsome, gmake_nat _ (by omega), bsome]
  obtain ⟨b, w', g1, g2, g3, g4⟩ := search_eq hok n 0 (List.replicate u.Packages.length 0) (Nat.zero_le _) (by omega) (by simp) (fun j x p h => by omega)
  rw [show ((0 : Nat) : Int) = 0 from rfl] at g1
  rw [g1, bsome, glen_ok g2.1, bsome]
  have hiff : b = true ↔ Solvable u w := ⟨fun h => ⟨w', g3 h⟩, fun ⟨c, hc, hS⟩ => g4 ⟨c, hc, ⟨by rw [hc.1]; simp, fun j h => by omega⟩, hS⟩⟩
  cases hb : b with
  | false =>
    rw [if_pos (show (!false) = true from rfl)]
    rw [hb] at hiff
    exact ⟨[], false, rfl, hiff, fun h => (by cases h)⟩
  | true =>
    rw [if_neg (by simp)]
    rw [hb] at hiff
    exact ⟨w', true, rfl, hiff, fun _ => g3 hb⟩
theorem solve_bad {n : Nat} (hn : 2000 < n) {u : SPackages} {w : List SPackageRange} (hok : ¬ okU u w) : solver_Solve n u w = some ([], false, afault u w) := by
  unfold solver_Solve
  rw [args_eq (by omega), bsome, beqF, ifnot, if_neg (fun e => hok ((afault_iff u w).1 e))]
end Go.Proofs.Ytfdennmaeoahgaa
namespace Go.Proofs.Ytfdennmaeoahgaa
open Go.PW Go
structure Sub (P Q : SWantsNeeds) : Prop where
  w : ∀ e ∈ P.f_wants, e ∈ Q.f_wants
  n : ∀ c q ds, sel P c q = some ds → ∃ ds', sel Q c q = some ds' ∧ ∀ e ∈ ds, e ∈ ds'
theorem Sub.reach {P Q : SWantsNeeds} (h : Sub P Q) {c : List Int} {q : Nat} (hr : Reach P c q) : Reach Q c q := by
  induction hr with
  | want e he => exact .want e (h.w e he)
  | need q ds e _ hds he ih =>
    obtain ⟨ds', g1, g2⟩ := h.n c q ds hds
    exact .need q ds' e ih g1 (g2 e he)
open Classical in
noncomputable def cutTo (P : SWantsNeeds) (c : List Int) : List Int := (List.range c.length).map (fun k => if Reach P c k then (c[k]?).getD (-1) else -1)
theorem cutTo_len (P : SWantsNeeds) (c : List Int) : (cutTo P c).length = c.length := by unfold cutTo; simp
theorem cutTo_in {P : SWantsNeeds} {c : List Int} {k : Nat} (h : Reach P c k) : (cutTo P c)[k]? = c[k]? := by
  unfold cutTo
  rw [List.getElem?_map]
  by_cases hk : k < c.length
  · rw [List.getElem?_range hk]
    simp only [Option.map_some]
    rw [if_pos h, getElem?_lt hk]
    rfl
  · rw [List.getElem?_eq_none (by simpa using hk), List.getElem?_eq_none (by omega)]
    rfl
theorem cutTo_out {P : SWantsNeeds} {c : List Int} {k : Nat} {x : Int} (h : ¬ Reach P c k) (hx : (cutTo P c)[k]? = some x) : x = -1 := by
  have hk : k < c.length := by rw [← cutTo_len P c]; exact get_lt hx
  unfold cutTo at hx
  rw [List.getElem?_map, List.getElem?_range hk] at hx
  simp only [Option.map_some] at hx
  rw [if_neg h] at hx
  injection hx with hx
  exact hx.symm
theorem sel_cutTo {P : SWantsNeeds} (Q : SWantsNeeds) {c : List Int} {k : Nat} (h : Reach P c k) : sel Q (cutTo P c) k = sel Q c k := by
  unfold sel
  rw [cutTo_in h]
theorem cutTo_reach {P : SWantsNeeds} {c : List Int} {q : Nat} : Reach P (cutTo P c) q ↔ Reach P c q := by
  constructor
  · intro h
    induction h with
    | want e he => exact .want e he
    | need q ds e _ hds he ih => exact .need q ds e ih (by rw [← sel_cutTo P ih]; exact hds) he
  · intro h
    induction h with
    | want e he => exact .want e he
    | need q ds e hr hds he ih => exact .need q ds e ih (by rw [sel_cutTo P hr]; exact hds) he
theorem Sub.solved {P Q : SWantsNeeds} (h : Sub P Q) {c : List Int} (hS : Solved Q c) : Solved P (cutTo P c) := by
  have sat : ∀ e, Reach P c e.f_of.toNat → satB c e → satB (cutTo P c) e := by
    rintro e hr ⟨x, h1, h2, h3⟩
    exact ⟨x, by rw [cutTo_in hr]; exact h1, h2, h3⟩
  refine ⟨fun e he => sat e (.want e he) (hS.1 e (h.w e he)), fun q ds hr hds e he => ?_, fun q x hx hx0 => ?_⟩
  · rw [cutTo_reach] at hr
    rw [sel_cutTo P hr] at hds
    obtain ⟨ds', g1, g2⟩ := h.n c q ds hds
    exact sat e (.need q ds e hr hds he) (hS.2.1 q ds' (h.reach hr) g1 e (g2 e he))
  · rw [cutTo_reach]
    refine Classical.byContradiction fun hr => ?_
    have := cutTo_out hr hx
    omega
theorem frel_get' : ∀ (l : List SVersionNeeds) (b : Int) (k : Nat) (x : SVersionNeeds), l[k]? = some x → ∃ c, (b ≤ c ∧ c + x.Needs.length ≤ b + cR l) ∧ ∀ p, (frel p b l)[k]? = some ⟨x.Version, fl p c x.Needs⟩
  | [], _, k, x, h => by simp at h
  | y :: l, b, 0, x, h => by
    injection h with h; subst h
    refine ⟨b, ⟨Int.le_refl _, by rw [cR_cons]; omega⟩, fun p => rfl⟩
  | y :: l, b, k + 1, x, h => by
    obtain ⟨c, hc, h2⟩ := frel_get' l (b + y.Needs.length) k x h
    refine ⟨c, ⟨by omega, by rw [cR_cons]; omega⟩, fun p => h2 p⟩
theorem fpk_get' : ∀ (l : List (List SVersionNeeds)) (b : Int) (k : Nat) (x : List SVersionNeeds), l[k]? = some x → ∃ c, (b ≤ c ∧ c + cR x ≤ b + cU l) ∧ ∀ p, (fpk p b l)[k]? = some (frel p c x)
  | [], _, k, x, h => by simp at h
  | y :: l, b, 0, x, h => by
    injection h with h; subst h
    refine ⟨b, ⟨Int.le_refl _, by rw [cU_cons]; omega⟩, fun p => rfl⟩
  | y :: l, b, k + 1, x, h => by
    obtain ⟨c, hc, h2⟩ := fpk_get' l (b + cR y) k x h
    refine ⟨c, ⟨by omega, by rw [cU_cons]; omega⟩, fun p => h2 p⟩
theorem fl_mono {p q : Int → Bool} : ∀ (l : List SPackageRange) (b : Int), (∀ c, b ≤ c → c < b + l.length → p c = true → q c = true) → ∀ e ∈ fl p b l, e ∈ fl q b l
  | [], _, _, e, h => by cases h
  | x :: l, b, h, e, he => by
    have ih := fl_mono l (b + 1) (fun c h1 h2 => h c (by omega) (by rw [List.length_cons]; omega)) e
    rw [fl_cons] at he ⊢
    cases hp : p b with
    | true =>
      rw [hp, if_pos rfl] at he
      rw [if_pos (h b (Int.le_refl _) (by rw [List.length_cons]; omega) hp)]
      rcases List.mem_cons.1 he with h | h
      · exact List.mem_cons.2 (.inl h)
      · exact List.mem_cons.2 (.inr (ih h))
    | false =>
      rw [hp, if_neg (by simp)] at he
      have := ih he
      split
      · exact List.mem_cons.2 (.inr this)
      · exact this
theorem hb_frel (r : SIntervals) (p : Int → Bool) (b : Int) (l : List SVersionNeeds) (k : Nat) : hb r (frel p b l) k = hb r l k := by
  by_cases hk : k < l.length
  · obtain ⟨c, -, hc⟩ := frel_get' l b k _ (getElem?_lt hk)
    rw [hb_get (hc p), hb_get (getElem?_lt hk)]
  · rw [hb_none (by rw [frel_len]; omega), hb_none (by omega)]
theorem dem_KU (p : Int → Bool) (u : SPackages) (w : List SPackageRange) : dem (KU p u w) = dem u := by
  funext d
  unfold dem
  have : ∀ k, hb d.Range (((KU p u w).Packages[d.Package.toNat]?).getD []) k = hb d.Range ((u.Packages[d.Package.toNat]?).getD []) k := by
    intro k
    by_cases hk : d.Package.toNat < u.Packages.length
    · obtain ⟨c, -, hc⟩ := fpk_get' u.Packages w.length _ _ (getElem?_lt hk)
      rw [show (KU p u w).Packages = fpk p w.length u.Packages from rfl, hc p, getElem?_lt hk]
      exact hb_frel _ _ _ _ _
    · rw [show (KU p u w).Packages = fpk p w.length u.Packages from rfl, List.getElem?_eq_none (by rw [fpk_len]; omega), List.getElem?_eq_none (by omega)]
  rw [this, this, this, this]
def pr (p : Int → Bool) (u : SPackages) (w : List SPackageRange) : SWantsNeeds := prob (KU p u w) (KW p w)
theorem pr_wants (p : Int → Bool) (u : SPackages) (w : List SPackageRange) : (pr p u w).f_wants = (fl p 0 w).map (dem u) := by
  unfold pr prob
  rw [dem_KU]
  rfl
theorem pr_needs (p : Int → Bool) (u : SPackages) (w : List SPackageRange) : (pr p u w).f_needs = (fpk p w.length u.Packages).map (fun l => l.map (fun r => r.Needs.map (dem u))) := by
  unfold pr prob
  rw [dem_KU]
  rfl
theorem pr_sub {p q : Int → Bool} {u : SPackages} {w : List SPackageRange} (h : ∀ b : Int, 0 ≤ b → b < cnt u w → p b = true → q b = true) : Sub (pr p u w) (pr q u w) := by
  constructor
  · intro e he
    rw [pr_wants] at he ⊢
    rw [List.mem_map] at he ⊢
    obtain ⟨d, hd, rfl⟩ := he
    exact ⟨d, fl_mono w 0 (fun c h1 h2 => h c h1 (by unfold cnt; omega)) d hd, rfl⟩
  · intro c k ds hds
    obtain ⟨P, x, h1, h2, h3, h4⟩ := sel_mem hds
    rw [pr_needs, List.getElem?_map] at h3
    by_cases hk : k < u.Packages.length
    · obtain ⟨o, ho, hop⟩ := fpk_get' u.Packages w.length _ _ (getElem?_lt hk)
      rw [hop p] at h3
      injection h3 with h3
      subst h3
      rw [List.getElem?_map] at h4
      by_cases hj : x.toNat < u.Packages[k].length
      · obtain ⟨o2, ho2, hop2⟩ := frel_get' u.Packages[k] o _ _ (getElem?_lt hj)
        rw [hop2 p] at h4
        injection h4 with h4
        subst h4
        refine ⟨(fl q o2 u.Packages[k][x.toNat].Needs).map (dem u), ?_, fun e he => ?_⟩
        · refine sel_ok h1 h2 (p := (frel q o u.Packages[k]).map (fun r => r.Needs.map (dem u))) ?_ ?_
          · rw [pr_needs, List.getElem?_map, hop q]
            rfl
          · rw [List.getElem?_map, hop2 q]
            rfl
        · simp only [] at he
          rw [List.mem_map] at he ⊢
          obtain ⟨d, hd, rfl⟩ := he
          exact ⟨d, fl_mono _ o2 (fun c h1 h2 => h c (by omega) (by unfold cnt; omega)) d hd, rfl⟩
      · rw [List.getElem?_eq_none (by rw [frel_len]; omega)] at h4
        cases h4
    · rw [List.getElem?_eq_none (by rw [fpk_len]; omega)] at h3
      cases h3
theorem InR_KU {p q : Int → Bool} {u : SPackages} {w : List SPackageRange} {c : List Int} (h : InR (KU p u w) c) : InR (KU q u w) c := by
  have hl : ∀ p, (KU p u w).Packages.length = u.Packages.length := fun p => fpk_len p _ _
  refine ⟨by rw [h.1, hl, hl], fun k x l hx hk => ?_⟩
  have hk' : k < u.Packages.length := by rw [← hl q]; exact get_lt hk
  obtain ⟨o, -, ho⟩ := fpk_get' u.Packages w.length _ _ (getElem?_lt hk')
  have e : (KU q u w).Packages[k]? = some (frel q o u.Packages[k]) := ho q
  rw [e] at hk
  injection hk with hk
  subst hk
  have := h.2 k x (frel p o u.Packages[k]) hx (ho p)
  rw [frel_len] at this ⊢
  exact this
theorem InR_cutTo {u : SPackages} {P : SWantsNeeds} {c : List Int} (h : InR u c) : InR u (cutTo P c) := by
  refine ⟨by rw [cutTo_len]; exact h.1, fun k x l hx hk => ?_⟩
  by_cases hr : Reach P c k
  · rw [cutTo_in hr] at hx
    exact h.2 k x l hx hk
  · have := cutTo_out hr hx
    omega
def Sv (u : SPackages) (w : List SPackageRange) (p : Int → Bool) : Prop := Solvable (KU p u w) (KW p w)
theorem Sv.mono {u : SPackages} {w : List SPackageRange} {p q : Int → Bool} (hs : Sv u w q) (h : ∀ b : Int, 0 ≤ b → b < cnt u w → p b = true → q b = true) : Sv u w p := by
  obtain ⟨c, hc, hS⟩ := hs
  exact ⟨cutTo (pr p u w) c, InR_cutTo (InR_KU hc), (pr_sub h).solved hS⟩
open Classical in
noncomputable def outF (u : SPackages) (w : List SPackageRange) : Nat → List Int
  | 0 => []
  | i + 1 => if Sv u w (fun b => decide (b ∈ outF u w i) || decide ((i : Int) < b)) then outF u w i ++ [(i : Int)] else outF u w i
theorem outF_succ_pos {u : SPackages} {w : List SPackageRange} {i : Nat} (h : Sv u w (fun b => decide (b ∈ outF u w i) || decide ((i : Int) < b))) : outF u w (i + 1) = outF u w i ++ [(i : Int)] := if_pos h
theorem outF_succ_neg {u : SPackages} {w : List SPackageRange} {i : Nat} (h : ¬ Sv u w (fun b => decide (b ∈ outF u w i) || decide ((i : Int) < b))) : outF u w (i + 1) = outF u w i := if_neg h
theorem outF_lt (u : SPackages) (w : List SPackageRange) : ∀ (i : Nat), (∀ x ∈ outF u w i, 0 ≤ x ∧ x < i) ∧ (outF u w i).Pairwise (· < ·) ∧ (outF u w i).length ≤ i
  | 0 => ⟨fun x h => (by cases h), List.Pairwise.nil, Nat.le_refl _⟩
  | i + 1 => by
    obtain ⟨h1, h2, h3⟩ := outF_lt u w i
    by_cases h : Sv u w (fun b => decide (b ∈ outF u w i) || decide ((i : Int) < b))
    · rw [outF_succ_pos h]
      refine ⟨fun x hx => ?_, ?_, by simp; omega⟩
      · rcases List.mem_append.1 hx with hx | hx
        · have := h1 x hx; omega
        · simp at hx; omega
      · rw [List.pairwise_append]
        refine ⟨h2, List.pairwise_singleton _ _, fun a ha b hb => ?_⟩
        simp at hb
        have := h1 a ha
        omega
    · rw [outF_succ_neg h]
      refine ⟨fun x hx => ?_, h2, by omega⟩
      have := h1 x hx; omega
noncomputable def reason (u : SPackages) (w : List SPackageRange) : List Int := outF u w (cnt u w)
theorem reason_kfault (u : SPackages) (w : List SPackageRange) : (kfault (cnt u w) (reason u w)).Code = 0 := by
  obtain ⟨h1, h2, _⟩ := outF_lt u w (cnt u w)
  exact kfault_iff.2 ⟨h1, h2⟩
end Go.Proofs.Ytfdennmaeoahgaa
namespace Go.Proofs.Ytfdennmaeoahgaa
open Go.PW Go
theorem reason_eq {n : Nat} (hn : 3000 < n) {u : SPackages} {w : List SPackageRange} (hok : okU u w) (hns : ¬ Solvable u w) : explain_Reason n u w = some (reason u w, ⟨0, 0⟩) := by
  obtain ⟨c, b, hs, hb, -⟩ := solve_eq (n := n) (by omega) hok
  have hbf : b = false := by
    cases hb' : b with
    | false => rfl
    | true => exact absurd (hb.1 hb') hns
  subst hbf
  have hc := cnt_le hok
  obtain ⟨h1, h2, h3⟩ := okU_iff.1 hok
  have hw4 := ncode_len h3
  unfold explain_Reason
  rw [hs, bsome, beqF, ifnot, if_pos rfl]
  simp only [Bool.false_eq_true, if_false]
  rw [count_eq (by omega) hok, bsome, gmake_nat _ (by omega), bsome]
  refine loop_fin (l := List.replicate (cnt u w) false) (L := fun m (s : List Bool × List Int) i => explain_Reason_l1 n u w (List.replicate (cnt u w) false) m s.1 s.2 i) (some (reason u w, ⟨0, 0⟩))
    (fun s i => s.1 = tab (cnt u w) (fun b => decide (b < i) && !decide ((b : Int) ∈ outF u w i)) ∧ s.2 = outF u w i) ?_ ?_ n (List.replicate (cnt u w) false, []) 0 ⟨?_, rfl⟩ (by omega) (by simp; omega)
  · intro m s i x hs hi hx
    rw [List.length_replicate] at hi
    obtain ⟨w4, w5⟩ := s
    obtain ⟨e1, e2⟩ := hs
    simp only [] at e1 e2
    subst e1 e2
    have hlt := outF_lt u w i
    refine ⟨(tab (cnt u w) (fun b => decide (b < i + 1) && !decide ((b : Int) ∈ outF u w (i + 1))), outF u w (i + 1)), ⟨rfl, rfl⟩, ?_⟩
    show explain_Reason_l1 n u w (List.replicate (cnt u w) false) (m + 1) _ _ i = explain_Reason_l1 n u w (List.replicate (cnt u w) false) m _ _ _
    simp only [explain_Reason_l1]
    rw [if_pos (by rw [decide_eq_true_eq, List.length_replicate]; omega), gidx_tab _ hi, bsome]
    have hp : ∀ c : Int, 0 ≤ c → c < (cnt u w : Int) → explain_Reason_1_m1 n c (gset (tab (cnt u w) (fun b => decide (b < i) && !decide ((b : Int) ∈ outF u w i))) i true) = some (decide (c ∈ outF u w i) || decide ((i : Int) < c)) := by
      intro c hc0 hc1
      obtain ⟨k, rfl⟩ := natOf hc0
      unfold explain_Reason_1_m1
      rw [gset_tab, gidx_tab _ (show k < cnt u w by omega), bsome]
      congr 1
      by_cases e : k = i
      · subst e
        have : ¬ ((k : Int) ∈ outF u w k) := fun h => by have := (hlt.1 _ h).2; omega
        simp [this]
      · rw [if_neg e]
        by_cases h : k < i
        · simp [h]
          omega
        · have hm : ¬ ((k : Int) ∈ outF u w i) := fun g => by have := (hlt.1 _ g).2; omega
          simp [h, hm]
          omega
    rw [filter2_eq (by omega) w _ 0 (cnt u w) _ hp hw4 (fun x hx => ((ncode_iff.1 h3).2.1 x hx).2) (by unfold cnt; omega) (by omega), bsome,
      reason_l2_eq (by omega) _ _ i _ (cnt u w) _ hp (by omega) u ⟨h1, h2⟩ _ _ (by unfold cnt; simp only []; omega)]
    unfold explain_Reason_j2 explain_Reason_j1
    obtain ⟨c', b', hs', hb', -⟩ := solve_eq (n := n) (by omega) (keep_ok (fun b => decide (b ∈ outF u w i) || decide ((i : Int) < b)) hok)
    have hs2 : solver_Solve n (⟨fpk (fun b => decide (b ∈ outF u w i) || decide ((i : Int) < b)) (0 + (w.length : Int)) u.Packages⟩ : SPackages) (fl (fun b => decide (b ∈ outF u w i) || decide ((i : Int) < b)) 0 w) = some (c', b', ⟨0, 0⟩) := by
      rw [Int.zero_add]; exact hs'
    simp only []
    rw [hs2, bsome]
    have hSv : b' = true ↔ Sv u w (fun b => decide (b ∈ outF u w i) || decide ((i : Int) < b)) := hb'
    cases hbt : b' with
    | true =>
      rw [hbt] at hSv
      have hSv := hSv.1 rfl
      rw [if_pos rfl, gset_tab, gidx_tab _ hi, bsome, gapp_ok (by simp; omega), bsome, gadd_nat (by omega), bsome, gset_tab, outF_succ_pos hSv]
      congr 1
      refine tab_congr fun k hk => ?_
      by_cases e : k = i
      · subst e
        simp
      · rw [if_neg e, if_neg e]
        by_cases h : k < i
        · have h' : k < i + 1 := by omega
          have hne : ¬ ((k : Int) = (i : Int)) := by omega
          simp [h, h', hne]
        · have h' : ¬ k < i + 1 := by omega
          simp [h, h']
    | false =>
      have hSv : ¬ Sv u w (fun b => decide (b ∈ outF u w i) || decide ((i : Int) < b)) := fun g => by
        have := hSv.2 g
        rw [hbt] at this
        cases this
      rw [if_neg (by simp), gadd_nat (by omega), bsome, gset_tab, outF_succ_neg hSv]
      congr 1
      refine tab_congr fun k hk => ?_
      by_cases e : k = i
      · subst e
        have : ¬ ((k : Int) ∈ outF u w k) := fun h => by have := (hlt.1 _ h).2; omega
        simp [this]
      · rw [if_neg e]
        by_cases h : k < i
        · have h' : k < i + 1 := by omega
          simp [h, h']
        · have h' : ¬ k < i + 1 := by omega
          simp [h, h']
  · intro m s hs
    rw [List.length_replicate] at hs
    show explain_Reason_l1 n u w (List.replicate (cnt u w) false) (m + 1) s.1 s.2 _ = _
    simp only [explain_Reason_l1]
    rw [if_neg (by rw [decide_eq_true_eq]; omega), hs.2]
    rfl
  · simp only []
    rw [tab_const]
    refine tab_congr fun k hk => ?_
    simp
theorem reason_solved {n : Nat} (hn : 3000 < n) {u : SPackages} {w : List SPackageRange} (hok : okU u w) (hs : Solvable u w) : explain_Reason n u w = some ([], ⟨11, 0⟩) := by
  obtain ⟨c, b, hs', hb, -⟩ := solve_eq (n := n) (by omega) hok
  have hbt := hb.2 hs
  subst hbt
  unfold explain_Reason
  rw [hs', bsome, beqF, ifnot, if_pos rfl]
  simp only [if_true]
theorem reason_bad {n : Nat} (hn : 3000 < n) {u : SPackages} {w : List SPackageRange} (hok : ¬ okU u w) : explain_Reason n u w = some ([], afault u w) := by
  unfold explain_Reason
  rw [solve_bad (by omega) hok, bsome, beqF, ifnot, if_neg (fun e => hok ((afault_iff u w).1 e))]
end Go.Proofs.Ytfdennmaeoahgaa
namespace Go.Proofs.Ytfdennmaeoahgaa
open Go.PW Go
theorem sameT (a b : SCodeIndex) (h : a = b) : ((a.Code == b.Code && (a.Index == b.Index && true)) != false) = true := by
  subst h; simp
end Go.Proofs.Ytfdennmaeoahgaa
namespace Go.Proofs.Ytfdennmaeoahgaa
open Go.PW Go
def allK (c : Nat) : List Int := (List.range c).map (fun k : Nat => (k : Int))
theorem allK_len (c : Nat) : (allK c).length = c := by unfold allK; simp
theorem allK_mem {c : Nat} {b : Int} : b ∈ allK c ↔ 0 ≤ b ∧ b < c := by
  unfold allK
  rw [List.mem_map]
  constructor
  · rintro ⟨k, hk, rfl⟩
    rw [List.mem_range] at hk
    omega
  · intro h
    exact ⟨b.toNat, List.mem_range.2 (by omega), by omega⟩
theorem allK_kfault (c : Nat) : (kfault c (allK c)).Code = 0 := by
  refine kfault_iff.2 ⟨fun x hx => allK_mem.1 hx, ?_⟩
  unfold allK
  rw [List.pairwise_map]
  exact List.pairwise_lt_range.imp (fun h => by omega)
end Go.Proofs.Ytfdennmaeoahgaa
namespace Go.Proofs.Ytfdennmaeoahgaa
open Go.PW Go
theorem within_eq {n : Nat} (hn : 1000 < n) {x : SLowHighUnbounded} {v : SMajorMinorPatchPre} (hx : icheck x = 0) (hv : okv v) : ref5_within n x v = some (hit x v) := by
  have hx0 := okI hx
  unfold ref5_within ref5_within_j1 hit
  rw [etaV, rorder_eq hn hx0.1 hv, bsome]
  cases h3 : decide (vo x.Low v ≤ 0) with
  | false => rw [if_neg (by simp), Bool.false_and]
  | true =>
    rw [if_pos rfl, Bool.true_and]
    cases hu : x.Unbounded with
    | true => rw [if_pos rfl, Bool.true_or]
    | false => rw [if_neg (by simp), etaV, rorder_eq hn hv (hx0.2 hu), bsome, Bool.false_or]
theorem rangeHas_eq {n : Nat} (hn : 1000 < n) {r : SIntervals} {v : SMajorMinorPatchPre} (hr : okr r) (hv : okv v) : ref5_RangeHas n r v = some (has r v) := by
  obtain ⟨h1, h2⟩ := okr_all hr
  have key := loop_eq (l := r.Intervals) (L := fun m (_ : Unit) i => ref5_RangeHas_l1 n r v m i) (fun _ _ x => if hit x v = true then .inl true else .inr ()) (fun _ => false) (fun _ _ => True) ?_ (fun _ _ _ _ _ _ _ => trivial) ?_ n () 0 trivial (by omega) (by omega)
  · unfold ref5_RangeHas has
    refine Eq.trans key ?_
    rw [List.drop_zero, run_any]
  · intro m s i x _ hi hx
    show ref5_RangeHas_l1 n r v (m + 1) i = _
    simp only [ref5_RangeHas_l1]
    rw [if_pos (by rw [decide_eq_true_eq]; omega), gidx_nat, hx, bsome, etaV, etaV, etaI, within_eq hn (h2 x (get_mem hx)) hv, bsome, gadd_nat (by omega), bsome]
    cases hit x v <;> rfl
  · intro m s _
    show ref5_RangeHas_l1 n r v (m + 1) _ = _
    simp only [ref5_RangeHas_l1]
    rw [if_neg (by rw [decide_eq_true_eq]; omega)]
theorem bg_dem {u : SPackages} {d : SPackageRange} {q : Nat} {p : List SVersionNeeds} {x : Nat} {r : SVersionNeeds} (hq : d.Package = q) (hp : u.Packages[q]? = some p) (hx : x < 4) (hr : p[x]? = some r) : bg (dem u d).f_by x = has d.Range r.Version := by
  unfold bg dem
  rw [hq, show ((q : Nat) : Int).toNat = q from rfl, hp]
  have := hb_get (r := d.Range) hr
  rcases (show x = 0 ∨ x = 1 ∨ x = 2 ∨ x = 3 by omega) with e | e | e | e <;> subst e <;> rw [← this] <;> simp
theorem satisfied_eq {n : Nat} (hn : 1000 < n) {u : SPackages} (hu : u.Packages.length ≤ 6 ∧ ∀ x ∈ u.Packages, rcode u.Packages.length x = 0) {ns : List SPackageRange} (hns : ncode u.Packages.length ns = 0) {c : List Int} (hc : InR u c) :
    ∃ b, ref5_satisfied n u ns c = some b ∧ (b = true ↔ ∀ d ∈ ns, satB c (dem u d)) := by
  obtain ⟨h1, h2, -⟩ := ncode_iff.1 hns
  have key : ∀ (m i : Nat), i ≤ ns.length → ns.length - i < m → ∃ b, ref5_satisfied_l1 n u ns c m i = some b ∧ (b = true ↔ ∀ d ∈ ns.drop i, satB c (dem u d)) := by
    intro m
    induction m with
    | zero => intro i _ h; omega
    | succ m ih =>
      intro i hi hm
      simp only [ref5_satisfied_l1]
      by_cases h : i = ns.length
      · rw [if_neg (by rw [decide_eq_true_eq]; omega), h, List.drop_length]
        exact ⟨true, rfl, fun _ d hd => (by cases hd), fun _ => rfl⟩
      · have hlt : i < ns.length := by omega
        obtain ⟨hpk, hrg⟩ := h2 _ (List.getElem_mem hlt)
        obtain ⟨q, hq⟩ := natOf hpk.1
        have hql : q < u.Packages.length := by omega
        have hqc : q < c.length := by rw [hc.1]; exact hql
        have hr := rel_needs (hu.2 _ (List.getElem_mem hql))
        have hx := hc.2 q _ _ (getElem?_lt hqc) (getElem?_lt hql)
        obtain ⟨b, hb, hb2⟩ := ih (i + 1) (by omega) (by omega)
        have j1 : ∀ y : Bool, ref5_satisfied_j1 n i (ref5_satisfied_l1 n u ns c m) y = some (!y && b) := by
          intro y
          unfold ref5_satisfied_j1
          rw [gadd_nat (by omega), bsome, hb]
          cases y <;> simp
        have hqd : (dem u ns[i]).f_of.toNat = q := by
          show ns[i].Package.toNat = q
          omega
        rw [if_pos (by rw [decide_eq_true_eq]; omega), gidx_nat, getElem?_lt hlt, bsome, hq, gidx_nat, getElem?_lt hqc, bsome, ifdec, List.drop_eq_getElem_cons hlt]
        by_cases h0 : c[q] < 0
        · rw [if_pos h0, j1]
          refine ⟨_, rfl, fun h => (by simp at h), fun h => ?_⟩
          obtain ⟨x, g1, g2, -⟩ := h _ List.mem_cons_self
          rw [hqd, getElem?_lt hqc] at g1
          injection g1 with g1
          omega
        · have hx4 : c[q].toNat < u.Packages[q].length := by omega
          have hcn : c[q] = ((c[q].toNat : Nat) : Int) := by omega
          rw [if_neg h0, gidx_nat, getElem?_lt hql, bsome]
          rw [show gidx u.Packages[q] c[q] = u.Packages[q][c[q].toNat]? by rw [hcn, gidx_nat]; rfl, getElem?_lt hx4, bsome, etaV, etaR, rangeHas_eq hn hrg (hr.2 _ (List.getElem_mem hx4)).1, bsome, j1]
          have hbg := bg_dem (u := u) (d := ns[i]) hq (getElem?_lt hql) (show c[q].toNat < 4 by omega) (getElem?_lt hx4)
          refine ⟨_, rfl, ?_⟩
          rw [Bool.not_not, Bool.and_eq_true, hb2, ← hbg]
          constructor
          · rintro ⟨g1, g2⟩ d hd
            rcases List.mem_cons.1 hd with e | e
            · subst e
              exact ⟨c[q], by rw [hqd]; exact getElem?_lt hqc, by omega, by rw [hcn]; exact g1⟩
            · exact g2 d e
          · intro g
            refine ⟨?_, fun d hd => g d (List.mem_cons_of_mem _ hd)⟩
            obtain ⟨x, g1, -, g3⟩ := g _ List.mem_cons_self
            rw [hqd, getElem?_lt hqc] at g1
            injection g1 with g1
            rw [← hcn, g1]
            exact g3
  have := key n 0 (by omega) (by omega)
  simpa [ref5_satisfied] using this
def mk (M : List Bool) (k : Nat) : Prop := M[k]? = some true
theorem mk_set {M : List Bool} {q k : Nat} (hq : q < M.length) : mk (M.set q true) k ↔ (mk M k ∨ k = q) := by
  unfold mk
  by_cases e : k = q
  · subst e
    rw [List.getElem?_set_self hq]
    simp
  · rw [List.getElem?_set_ne (fun h => e h.symm)]
    simp [e]
theorem mark_eq {n : Nat} (hn : 1000 < n) {np : Nat} {ns : List SPackageRange} (hns : ncode np ns = 0) (M : List Bool) (hM : M.length = np) :
    ∃ M', ref5_mark_m1 n M ns = some M' ∧ M'.length = np ∧ ∀ k, mk M' k ↔ (mk M k ∨ ∃ d ∈ ns, d.Package.toNat = k) := by
  obtain ⟨h1, h2, -⟩ := ncode_iff.1 hns
  have key : ∀ (m i : Nat) (M : List Bool), i ≤ ns.length → ns.length - i < m → M.length = np → ∃ M', ref5_mark_m1_l1 n ns m M i = some M' ∧ M'.length = np ∧ ∀ k, mk M' k ↔ (mk M k ∨ ∃ d ∈ ns.drop i, d.Package.toNat = k) := by
    intro m
    induction m with
    | zero => intro i _ _ h; omega
    | succ m ih =>
      intro i M hi hm hM
      simp only [ref5_mark_m1_l1]
      by_cases h : i = ns.length
      · rw [if_neg (by rw [decide_eq_true_eq]; omega), h, List.drop_length]
        exact ⟨M, rfl, hM, fun k => by simp⟩
      · have hlt : i < ns.length := by omega
        obtain ⟨hpk, hrg⟩ := h2 _ (List.getElem_mem hlt)
        obtain ⟨q, hq⟩ := natOf hpk.1
        have hqM : q < M.length := by omega
        rw [if_pos (by rw [decide_eq_true_eq]; omega), gidx_nat, getElem?_lt hlt, bsome, hq, gidx_nat, getElem?_lt hqM, bsome, gadd_nat (by omega), bsome, gset_nat, List.drop_eq_getElem_cons hlt]
        obtain ⟨M', g1, g2, g3⟩ := ih (i + 1) (M.set q true) (by omega) (by omega) (by rw [List.length_set]; exact hM)
        refine ⟨M', g1, g2, fun k => ?_⟩
        rw [g3, mk_set hqM]
        constructor
        · rintro ((h | h) | ⟨d, hd, hdk⟩)
          · exact .inl h
          · exact .inr ⟨ns[i], List.mem_cons_self, by omega⟩
          · exact .inr ⟨d, List.mem_cons_of_mem _ hd, hdk⟩
        · rintro (h | ⟨d, hd, hdk⟩)
          · exact .inl (.inl h)
          · rcases List.mem_cons.1 hd with e | e
            · subst e; exact .inl (.inr (by omega))
            · exact .inr ⟨d, e, hdk⟩
  have := key n 0 M (by omega) (by omega) hM
  simpa [ref5_mark_m1] using this
theorem sel_prob {u : SPackages} {w : List SPackageRange} {c : List Int} {q : Nat} {x : Int} {p : List SVersionNeeds} {r : SVersionNeeds} (h1 : c[q]? = some x) (h2 : 0 ≤ x) (h3 : u.Packages[q]? = some p) (h4 : p[x.toNat]? = some r) : sel (prob u w) c q = some (r.Needs.map (dem u)) := by
  refine sel_ok h1 h2 (p := p.map (fun r => r.Needs.map (dem u))) ?_ ?_
  · unfold prob
    simp only [List.getElem?_map, h3]
    rfl
  · rw [List.getElem?_map, h4]
    rfl
def Cl (P : SWantsNeeds) (c : List Int) (X : Nat → Prop) : Prop := ∀ q, X q → ∀ ds, sel P c q = some ds → ∀ e ∈ ds, X e.f_of.toNat
theorem count_mono : ∀ (M M' : List Bool), M.length = M'.length → (∀ k, mk M k → mk M' k) → M.count true ≤ M'.count true ∧ (M'.count true ≤ M.count true → M = M')
  | [], [], _, _ => ⟨Nat.le_refl _, fun _ => rfl⟩
  | [], _ :: _, h, _ => by cases h
  | _ :: _, [], h, _ => by cases h
  | a :: M, b :: M', hl, h => by
    obtain ⟨g1, g2⟩ := count_mono M M' (by simpa using hl) (fun k hk => h (k + 1) hk)
    have h0 : a = true → b = true := fun e => by
      have := h 0 (by unfold mk; rw [e]; rfl)
      unfold mk at this
      simpa using this
    cases a <;> cases b <;> simp only [List.count_cons] at *
    · exact ⟨by simpa using g1, fun g => by rw [g2 (by simpa using g)]⟩
    · refine ⟨by simp; omega, fun g => ?_⟩
      simp at g
      omega
    · simp at h0
    · refine ⟨by simpa using g1, fun g => by rw [g2 (by simpa using g)]⟩
end Go.Proofs.Ytfdennmaeoahgaa
namespace Go.Proofs.Ytfdennmaeoahgaa
open Go.PW Go
theorem prob_sel {u : SPackages} {w : List SPackageRange} {c : List Int} {q : Nat} {ds : List SOfBy} (h : sel (prob u w) c q = some ds) : ∃ (x : Int) (p : List SVersionNeeds) (r : SVersionNeeds), c[q]? = some x ∧ 0 ≤ x ∧ u.Packages[q]? = some p ∧ p[x.toNat]? = some r ∧ ds = r.Needs.map (dem u) := by
  obtain ⟨P, x, h1, h2, h3, h4⟩ := sel_mem h
  unfold prob at h3
  simp only [List.getElem?_map] at h3
  cases hp : u.Packages[q]? with
  | none => rw [hp] at h3; cases h3
  | some p =>
    rw [hp] at h3
    injection h3 with h3
    subst h3
    rw [List.getElem?_map] at h4
    cases hr : p[x.toNat]? with
    | none => rw [hr] at h4; cases h4
    | some r =>
      rw [hr] at h4
      injection h4 with h4
      exact ⟨x, p, r, h1, h2, rfl, hr, h4.symm⟩
theorem round_eq {n : Nat} (hn : 1000 < n) {u : SPackages} {w : List SPackageRange} (hok : okU u w) {c : List Int} (hc : InR u c) (x6 : Nat) (hx6 : x6 < 100) (lp : List Bool → Int → Option Bool) :
    ∀ (m i : Nat) (M : List Bool), i ≤ c.length → c.length - i < m → M.length = u.Packages.length →
    ∃ M', ref5_Solution_l2 n u c x6 lp m M i = lp M' ((x6 + 1 : Nat) : Int) ∧ M'.length = u.Packages.length ∧ (∀ k, mk M k → mk M' k) ∧
      (∀ q, i ≤ q → mk M q → ∀ ds, sel (prob u w) c q = some ds → ∀ e ∈ ds, mk M' e.f_of.toNat) ∧ (∀ X, Cl (prob u w) c X → (∀ k, mk M k → X k) → ∀ k, mk M' k → X k) := by
  obtain ⟨h1, h2, h3⟩ := okU_iff.1 hok
  intro m
  induction m with
  | zero => intro i _ _ h; omega
  | succ m ih =>
    intro i M hi hm hM
    have hcl := hc.1
    simp only [ref5_Solution_l2]
    by_cases h : i = c.length
    · rw [if_neg (by rw [decide_eq_true_eq]; omega), gadd_nat (by omega), bsome]
      refine ⟨M, rfl, hM, fun _ h => h, fun q hq hmq => ?_, fun _ _ h => h⟩
      have := get_lt hmq
      omega
    · have hlt : i < c.length := by omega
      have hiM : i < M.length := by omega
      have hiu : i < u.Packages.length := by omega
      have hr := rel_needs (h2 _ (List.getElem_mem hiu))
      have hxr := hc.2 i _ _ (getElem?_lt hlt) (getElem?_lt hiu)
      rw [if_pos (by rw [decide_eq_true_eq]; omega), gidx_nat, getElem?_lt hiM, bsome, gidx_nat, getElem?_lt hlt, bsome]
      have hi1 : i + 1 ≤ c.length := by omega
      have hi2 : c.length - (i + 1) < m := by omega
      -- not to be followed: the marks stay
      have stay : (¬ mk M i ∨ c[i] < 0) → ∃ M', ref5_Solution_j2 n u c M i (ref5_Solution_l2 n u c x6 lp m) false = lp M' ((x6 + 1 : Nat) : Int) ∧ M'.length = u.Packages.length ∧ (∀ k, mk M k → mk M' k) ∧
          (∀ q, i ≤ q → mk M q → ∀ ds, sel (prob u w) c q = some ds → ∀ e ∈ ds, mk M' e.f_of.toNat) ∧ (∀ X, Cl (prob u w) c X → (∀ k, mk M k → X k) → ∀ k, mk M' k → X k) := by
        intro hno
        obtain ⟨M', g1, g2, g3, g4, g5⟩ := ih (i + 1) M (by omega) (by omega) hM
        unfold ref5_Solution_j2 ref5_Solution_j1
        rw [if_neg (by simp), gadd_nat (by omega), bsome]
        refine ⟨M', g1, g2, g3, fun q hq hmq ds hds => ?_, g5⟩
        by_cases e : q = i
        · subst e
          rcases hno with hno | hno
          · exact absurd hmq hno
          · obtain ⟨x, p, r, a1, a2, -⟩ := prob_sel hds
            rw [getElem?_lt hlt] at a1
            injection a1 with a1
            omega
        · exact g4 q (by omega) hmq ds hds
      cases hmi : M[i] with
      | false =>
        rw [if_neg (by simp)]
        refine stay (.inl fun h => ?_)
        unfold mk at h
        rw [getElem?_lt hiM, hmi] at h
        cases h
      | true =>
        have hmk : mk M i := by unfold mk; rw [getElem?_lt hiM, hmi]
        rw [if_pos rfl]
        by_cases h0 : 0 ≤ c[i]
        · rw [decide_eq_true h0]
          have hx4 : c[i].toNat < u.Packages[i].length := by omega
          have hcn : c[i] = ((c[i].toNat : Nat) : Int) := by omega
          have hnd := (hr.2 _ (List.getElem_mem hx4)).2
          obtain ⟨M1, m1, m2, m3⟩ := mark_eq hn hnd M hM
          unfold ref5_Solution_j2 ref5_Solution_j1
          rw [if_pos rfl, gidx_nat, getElem?_lt hiu, bsome, gidx_nat, getElem?_lt hlt, bsome, show gidx u.Packages[i] c[i] = u.Packages[i][c[i].toNat]? by rw [hcn, gidx_nat]; rfl, getElem?_lt hx4, bsome, m1, bsome, glen_ok (by omega), bsome, gadd_nat (by omega), bsome]
          have hsel : sel (prob u w) c i = some (u.Packages[i][c[i].toNat].Needs.map (dem u)) := sel_prob (getElem?_lt hlt) h0 (getElem?_lt hiu) (getElem?_lt hx4)
          obtain ⟨M', g1, g2, g3, g4, g5⟩ := ih (i + 1) M1 hi1 hi2 m2
          refine ⟨M', g1, g2, fun k hk => g3 k ((m3 k).2 (.inl hk)), fun q hq hmq ds hds e he => ?_, fun X hX hMX => g5 X hX fun k hk => ?_⟩
          · by_cases eq : q = i
            · subst eq
              rw [hsel] at hds
              injection hds with hds
              subst hds
              rw [List.mem_map] at he
              obtain ⟨d, hd, rfl⟩ := he
              exact g3 _ ((m3 _).2 (.inr ⟨d, hd, rfl⟩))
            · exact g4 q (by omega) ((m3 q).2 (.inl hmq)) ds hds e he
          · rcases (m3 k).1 hk with hk | ⟨d, hd, hdk⟩
            · exact hMX k hk
            · subst hdk
              exact hX i (hMX i hmk) _ hsel (dem u d) (List.mem_map.2 ⟨d, hd, rfl⟩)
        · rw [decide_eq_false h0]
          exact stay (.inr (by omega))
theorem rounds_eq {n : Nat} (hn : 1000 < n) {u : SPackages} {w : List SPackageRange} (hok : okU u w) {c : List Int} (hc : InR u c) :
    ∀ (k m j : Nat) (M : List Bool), j + k = c.length → k < m → M.length = u.Packages.length →
    ∃ M', ref5_Solution_l1 n u c m M j = ref5_Solution_l3 n u c M' n 0 ∧ M'.length = u.Packages.length ∧ (∀ k, mk M k → mk M' k) ∧
      (∀ X, Cl (prob u w) c X → (∀ k, mk M k → X k) → ∀ k, mk M' k → X k) ∧ (Cl (prob u w) c (mk M') ∨ M.count true + k ≤ M'.count true) := by
  have hl6 := (okU_iff.1 hok).1
  have hcl := hc.1
  intro k
  induction k with
  | zero =>
    intro m j M hj hm hM
    obtain ⟨m, rfl⟩ : ∃ k, m = k + 1 := ⟨m - 1, by omega⟩
    simp only [ref5_Solution_l1]
    rw [if_neg (by rw [decide_eq_true_eq]; omega)]
    exact ⟨M, rfl, hM, fun _ h => h, fun _ _ h => h, .inr (by omega)⟩
  | succ k ih =>
    intro m j M hj hm hM
    obtain ⟨m, rfl⟩ : ∃ k, m = k + 1 := ⟨m - 1, by omega⟩
    simp only [ref5_Solution_l1]
    rw [if_pos (by rw [decide_eq_true_eq]; omega)]
    obtain ⟨M1, a1, a2, a3, a4, a5⟩ := round_eq hn hok hc j (by omega) (ref5_Solution_l1 n u c m) n 0 M (by omega) (by omega) hM
    rw [show ((0 : Nat) : Int) = 0 from rfl] at a1
    rw [a1]
    obtain ⟨M', g1, g2, g3, g4, g5⟩ := ih m (j + 1) M1 (by omega) (by omega) a2
    refine ⟨M', g1, g2, fun k hk => g3 k (a3 k hk), fun X hX h => g4 X hX (a5 X hX h), ?_⟩
    obtain ⟨q1, q2⟩ := count_mono M M1 (by omega) a3
    by_cases e : M1.count true ≤ M.count true
    · -- nothing new: closed already
      have := q2 e
      subst this
      have hcl : Cl (prob u w) c (mk M) := fun q hq ds hds e he => a4 q (Nat.zero_le _) hq ds hds e he
      refine .inl fun q hq ds hds e he => g3 _ (hcl q (g4 (mk M) hcl (fun _ h => h) q hq) ds hds e he)
    · rcases g5 with g5 | g5
      · exact .inl g5
      · exact .inr (by omega)
theorem solution_l3 {n : Nat} (hn : 1000 < n) {u : SPackages} {w : List SPackageRange} (hok : okU u w) {c : List Int} (hc : InR u c) (M : List Bool) (hM : M.length = u.Packages.length) :
    ∃ b, ref5_Solution_l3 n u c M n 0 = some b ∧ (b = true ↔ ∀ q x, c[q]? = some x → 0 ≤ x → mk M q ∧ ∀ ds, sel (prob u w) c q = some ds → ∀ e ∈ ds, satB c e) := by
  obtain ⟨h1, h2, h3⟩ := okU_iff.1 hok
  have hcl := hc.1
  have key : ∀ (m i : Nat), i ≤ c.length → c.length - i < m → ∃ b, ref5_Solution_l3 n u c M m i = some b ∧ (b = true ↔ ∀ q x, i ≤ q → c[q]? = some x → 0 ≤ x → mk M q ∧ ∀ ds, sel (prob u w) c q = some ds → ∀ e ∈ ds, satB c e) := by
    intro m
    induction m with
    | zero => intro i _ h; omega
    | succ m ih =>
      intro i hi hm
      simp only [ref5_Solution_l3]
      by_cases h : i = c.length
      · rw [if_neg (by rw [decide_eq_true_eq]; omega)]
        refine ⟨true, rfl, fun _ q x hq hx => ?_, fun _ => rfl⟩
        have := get_lt hx
        omega
      · have hlt : i < c.length := by omega
        have hiM : i < M.length := by omega
        have hiu : i < u.Packages.length := by omega
        have hr := rel_needs (h2 _ (List.getElem_mem hiu))
        have hxr := hc.2 i _ _ (getElem?_lt hlt) (getElem?_lt hiu)
        obtain ⟨b, hb, hb2⟩ := ih (i + 1) (by omega) (by omega)
        have j3 : ∀ y : Bool, ref5_Solution_j3 n i (ref5_Solution_l3 n u c M m) y = some (!y && b) := by
          intro y
          unfold ref5_Solution_j3
          rw [gadd_nat (by omega), bsome, hb]
          cases y <;> simp
        rw [if_pos (by rw [decide_eq_true_eq]; omega), gidx_nat, getElem?_lt hlt, bsome, ifdec]
        by_cases h0 : 0 ≤ c[i]
        · have hx4 : c[i].toNat < u.Packages[i].length := by omega
          have hcn : c[i] = ((c[i].toNat : Nat) : Int) := by omega
          have hnd := (hr.2 _ (List.getElem_mem hx4)).2
          have hsel : sel (prob u w) c i = some (u.Packages[i][c[i].toNat].Needs.map (dem u)) := sel_prob (getElem?_lt hlt) h0 (getElem?_lt hiu) (getElem?_lt hx4)
          rw [if_pos h0, gidx_nat, getElem?_lt hiM, bsome]
          cases hmi : M[i] with
          | false =>
            rw [if_pos (show (!false) = true from rfl), j3]
            refine ⟨_, rfl, fun h => (by simp at h), fun h => ?_⟩
            have := (h i _ (Nat.le_refl _) (getElem?_lt hlt) h0).1
            unfold mk at this
            rw [getElem?_lt hiM, hmi] at this
            cases this
          | true =>
            have hmk : mk M i := by unfold mk; rw [getElem?_lt hiM, hmi]
            obtain ⟨s, hs, hs2⟩ := satisfied_eq hn ⟨h1, h2⟩ hnd hc
            rw [if_neg (by simp), gidx_nat, getElem?_lt hiu, bsome, show gidx u.Packages[i] c[i] = u.Packages[i][c[i].toNat]? by rw [hcn, gidx_nat]; rfl, getElem?_lt hx4, bsome, hs, bsome, j3]
            refine ⟨_, rfl, ?_⟩
            rw [Bool.not_not, Bool.and_eq_true, hb2, hs2]
            constructor
            · rintro ⟨g1, g2⟩ q x hq hx hx0
              by_cases e : q = i
              · subst e
                refine ⟨hmk, fun ds hds e he => ?_⟩
                rw [hsel] at hds
                injection hds with hds
                subst hds
                rw [List.mem_map] at he
                obtain ⟨d, hd, rfl⟩ := he
                exact g1 d hd
              · exact g2 q x (by omega) hx hx0
            · intro g
              refine ⟨fun d hd => (g i _ (Nat.le_refl _) (getElem?_lt hlt) h0).2 _ hsel _ (List.mem_map.2 ⟨d, hd, rfl⟩), fun q x hq => g q x (by omega)⟩
        · rw [if_neg h0, j3]
          refine ⟨_, rfl, ?_⟩
          rw [Bool.not_false, Bool.true_and, hb2]
          constructor
          · intro g q x hq hx hx0
            by_cases e : q = i
            · subst e
              rw [getElem?_lt hlt] at hx
              injection hx with hx
              omega
            · exact g q x (by omega) hx hx0
          · intro g q x hq
            exact g q x (by omega)
  obtain ⟨b, hb, hb2⟩ := key n 0 (by omega) (by have := (okU_iff.1 hok).1; omega)
  refine ⟨b, hb, hb2.trans ⟨fun g q x => g q x (Nat.zero_le _), fun g q x _ => g q x⟩⟩
theorem solution_eq {n : Nat} (hn : 1000 < n) {u : SPackages} {w : List SPackageRange} (hok : okU u w) {c : List Int} (hc : InR u c) : ∃ b, ref5_Solution n u w c = some b ∧ (b = true ↔ Solved (prob u w) c) := by
  obtain ⟨h1, h2, h3⟩ := okU_iff.1 hok
  have hcl := hc.1
  unfold ref5_Solution
  obtain ⟨s, hs, hs2⟩ := satisfied_eq hn ⟨h1, h2⟩ h3 hc
  have hwants : ∀ e, e ∈ (prob u w).f_wants ↔ ∃ d ∈ w, dem u d = e := fun e => List.mem_map
  rw [hs, bsome]
  cases hsb : s with
  | false =>
    rw [if_pos (show (!false) = true from rfl)]
    refine ⟨false, rfl, fun h => (by cases h), fun hS => ?_⟩
    have : s = true := hs2.2 fun d hd => hS.1 _ ((hwants _).2 ⟨d, hd, rfl⟩)
    rw [hsb] at this
    cases this
  | true =>
    rw [if_neg (by simp), gmake_nat _ (by omega), bsome]
    obtain ⟨M0, m1, m2, m3⟩ := mark_eq hn h3 (List.replicate c.length false) (by rw [List.length_replicate]; exact hcl)
    rw [m1, bsome, glen_ok (by rw [m2, List.length_replicate]; exact hcl.symm), bsome]
    have hM0 : ∀ k, mk M0 k ↔ ∃ d ∈ w, d.Package.toNat = k := by
      intro k
      rw [m3]
      constructor
      · rintro (h | h)
        · unfold mk at h
          rw [List.getElem?_replicate] at h
          split at h <;> cases h
        · exact h
      · exact .inr
    obtain ⟨M, g1, g2, g3, g4, g5⟩ := rounds_eq hn hok hc c.length n 0 M0 (by omega) (by omega) m2
    rw [show ((0 : Nat) : Int) = 0 from rfl] at g1
    rw [g1]
    have hclosed : Cl (prob u w) c (mk M) := by
      rcases g5 with g5 | g5
      · exact g5
      · have hle : M.count true ≤ M.length := List.count_le_length
        have h0 : M0.count true = 0 := by omega
        have hno : ∀ k, ¬ mk M0 k := fun k hk => by
          have hm : true ∈ M0 := List.mem_of_getElem? hk
          have := List.count_pos_iff.2 hm
          omega
        intro q hq
        exact absurd (g4 (fun _ => False) (fun _ h => h.elim) (fun k hk => hno k hk) q hq) id
    have hreach : ∀ q, mk M q ↔ Reach (prob u w) c q := by
      intro q
      constructor
      · refine g4 (Reach (prob u w) c) (fun q hq ds hds e he => .need q ds e hq hds he) (fun k hk => ?_) q
        obtain ⟨d, hd, hdk⟩ := (hM0 k).1 hk
        subst hdk
        exact .want (dem u d) ((hwants _).2 ⟨d, hd, rfl⟩)
      · intro h
        induction h with
        | want e he =>
          obtain ⟨d, hd, rfl⟩ := (hwants e).1 he
          exact g3 _ ((hM0 _).2 ⟨d, hd, rfl⟩)
        | need q ds e _ hds he ih => exact hclosed q ih ds hds e he
    obtain ⟨b, hb, hb2⟩ := solution_l3 (w := w) hn hok hc M g2
    refine ⟨b, hb, hb2.trans ?_⟩
    constructor
    · intro g
      refine ⟨fun e he => ?_, fun q ds hr hds e he => ?_, fun q x hx hx0 => (hreach q).1 (g q x hx hx0).1⟩
      · obtain ⟨d, hd, rfl⟩ := (hwants e).1 he
        exact (hs2.1 hsb) d hd
      · obtain ⟨x, p, r, a1, a2, -⟩ := prob_sel hds
        exact (g q x a1 a2).2 ds hds e he
    · intro hS q x hx hx0
      exact ⟨(hreach q).2 (hS.2.2 q x hx hx0), fun ds hds e he => hS.2.1 q ds (hS.2.2 q x hx hx0) hds e he⟩
end Go.Proofs.Ytfdennmaeoahgaa
namespace Go.Proofs.Ytfdennmaeoahgaa
open Go.PW Go
def selP (u : SPackages) : Nat → Nat
  | 0 => 1
  | p + 1 => selP u p * ((u.Packages[p]?.getD []).length + 1)
theorem selP_le {u : SPackages} (h : ∀ x ∈ u.Packages, x.length ≤ 4) : ∀ p, selP u p ≤ 5 ^ p
  | 0 => Nat.le_refl _
  | p + 1 => by
    have ih := selP_le h p
    have : (u.Packages[p]?.getD []).length + 1 ≤ 5 := by
      cases hp : u.Packages[p]? with
      | none => simp
      | some x =>
        have := h x (get_mem hp)
        simp only [Option.getD_some]
        omega
    rw [Nat.pow_succ]
    exact Nat.mul_le_mul ih this
theorem selections_eq {n : Nat} (hn : 1000 < n) {u : SPackages} {w : List SPackageRange} (hok : okU u w) : ref5_Selections n u = some (selP u u.Packages.length : Int) := by
  obtain ⟨h1, h2, h3⟩ := okU_iff.1 hok
  have hle := selP_le (u := u) (fun x hx => (rel_needs (h2 x hx)).1)
  refine loop_fin (l := u.Packages) (L := fun m (s : Int) i => ref5_Selections_l1 n u m s i) _ (fun s i => s = (selP u i : Int)) ?_ ?_ n 1 0 rfl (by omega) (by omega)
  · intro m s i x hs hi hx
    refine ⟨_, rfl, ?_⟩
    show ref5_Selections_l1 n u (m + 1) s i = ref5_Selections_l1 n u m _ _
    simp only [ref5_Selections_l1]
    have h4 := (rel_needs (h2 x (get_mem hx))).1
    have hb : selP u (i + 1) ≤ 5 ^ 6 := Nat.le_trans (hle (i + 1)) (Nat.pow_le_pow_right (by omega) (by omega))
    have e : ((selP u (i + 1) : Nat) : Int) = s * ((x.length : Int) + 1) := by
      rw [hs]
      show ((selP u i * ((u.Packages[i]?.getD []).length + 1) : Nat) : Int) = _
      rw [hx]
      simp only [Option.getD_some]
      rw [Int.natCast_mul]
      rfl
    have hb' : selP u (i + 1) ≤ 15625 := hb
    rw [if_pos (by rw [decide_eq_true_eq]; omega), gidx_nat, hx, bsome, gaddI (by omega), bsome, gmulI (by rw [← e]; omega), bsome, gadd_nat (by omega), bsome, e]
  · intro m s hs
    show ref5_Selections_l1 n u (m + 1) s _ = _
    simp only [ref5_Selections_l1]
    rw [if_neg (by rw [decide_eq_true_eq]; omega), hs]
def dig (u : SPackages) : Nat → Nat → List Int → List Int
  | 0, _, c => c
  | p + 1, x, c => dig u p (x / ((u.Packages[p]?.getD []).length + 1)) (c.set p (((u.Packages[p]?.getD []).length : Int) - 1 - ((x % ((u.Packages[p]?.getD []).length + 1) : Nat) : Int)))
theorem dig_len (u : SPackages) : ∀ (p x : Nat) (c : List Int), (dig u p x c).length = c.length
  | 0, _, _ => rfl
  | p + 1, x, c => by
    show (dig u p _ _).length = _
    rw [dig_len u p, List.length_set]
theorem dig_out (u : SPackages) : ∀ (p x : Nat) (c : List Int) (j : Nat), p ≤ j → (dig u p x c)[j]? = c[j]?
  | 0, _, _, _, _ => rfl
  | p + 1, x, c, j, h => by
    show (dig u p _ _)[j]? = _
    rw [dig_out u p _ _ j (by omega), List.getElem?_set_ne (by omega)]
theorem dig_rng (u : SPackages) : ∀ (p x : Nat) (c : List Int) (j : Nat) (y : Int) (l : List SVersionNeeds), p ≤ c.length → j < p → (dig u p x c)[j]? = some y → u.Packages[j]? = some l → -1 ≤ y ∧ y < l.length
  | 0, _, _, _, _, _, _, h, _, _ => by omega
  | p + 1, x, c, j, y, l, hp, hj, hy, hl => by
    have hy' : (dig u p (x / ((u.Packages[p]?.getD []).length + 1)) (c.set p (((u.Packages[p]?.getD []).length : Int) - 1 - ((x % ((u.Packages[p]?.getD []).length + 1) : Nat) : Int))))[j]? = some y := hy
    by_cases e : j = p
    · subst e
      rw [dig_out u j _ _ j (Nat.le_refl _), List.getElem?_set_self (by omega), hl] at hy'
      injection hy' with hy'
      simp only [Option.getD_some] at hy'
      have := Nat.mod_lt x (show 0 < l.length + 1 by omega)
      omega
    · exact dig_rng u p _ _ j y l (by rw [List.length_set]; omega) (by omega) hy' hl
def enc (u : SPackages) (c : List Int) : Nat → Nat
  | 0 => 0
  | p + 1 => enc u c p * ((u.Packages[p]?.getD []).length + 1) + (((u.Packages[p]?.getD []).length : Int) - 1 - (c[p]?.getD 0)).toNat
theorem enc_ok {u : SPackages} {c : List Int} (hc : InR u c) : ∀ p, p ≤ u.Packages.length → enc u c p < selP u p ∧ ∀ (d : List Int), d.length = u.Packages.length → ∀ j < p, (dig u p (enc u c p) d)[j]? = c[j]?
  | 0, _ => ⟨Nat.one_pos, fun _ _ _ h => by omega⟩
  | p + 1, hp => by
    obtain ⟨h1, h2⟩ := enc_ok hc p (by omega)
    have hpl : p < u.Packages.length := by omega
    have hpc : p < c.length := by rw [hc.1]; exact hpl
    have hr := hc.2 p _ _ (getElem?_lt hpc) (getElem?_lt hpl)
    have e1 : (u.Packages[p]?.getD []).length = u.Packages[p].length := by rw [getElem?_lt hpl]; rfl
    have e2 : c[p]?.getD 0 = c[p] := by rw [getElem?_lt hpc]; rfl
    have e3 : enc u c (p + 1) = enc u c p * (u.Packages[p].length + 1) + ((u.Packages[p].length : Int) - 1 - c[p]).toNat := by
      show enc u c p * ((u.Packages[p]?.getD []).length + 1) + (((u.Packages[p]?.getD []).length : Int) - 1 - (c[p]?.getD 0)).toNat = _
      rw [e1, e2]
    have hd : ((u.Packages[p].length : Int) - 1 - c[p]).toNat < u.Packages[p].length + 1 := by omega
    refine ⟨?_, fun d hdl j hj => ?_⟩
    · rw [e3]
      show _ < selP u p * ((u.Packages[p]?.getD []).length + 1)
      rw [e1]
      have : (enc u c p + 1) * (u.Packages[p].length + 1) ≤ selP u p * (u.Packages[p].length + 1) := Nat.mul_le_mul_right _ h1
      rw [Nat.add_mul, Nat.one_mul] at this
      omega
    · have q1 : enc u c (p + 1) / (u.Packages[p].length + 1) = enc u c p := by
        rw [e3, Nat.mul_comm, Nat.mul_add_div (by omega), Nat.div_eq_of_lt hd, Nat.add_zero]
      have q2 : enc u c (p + 1) % (u.Packages[p].length + 1) = ((u.Packages[p].length : Int) - 1 - c[p]).toNat := by
        rw [e3, Nat.mul_comm, Nat.mul_add_mod, Nat.mod_eq_of_lt hd]
      show (dig u p (enc u c (p + 1) / ((u.Packages[p]?.getD []).length + 1)) (d.set p (((u.Packages[p]?.getD []).length : Int) - 1 - ((enc u c (p + 1) % ((u.Packages[p]?.getD []).length + 1) : Nat) : Int))))[j]? = _
      rw [e1, q1, q2]
      by_cases e : j = p
      · subst e
        rw [dig_out u j _ _ j (Nat.le_refl _), List.getElem?_set_self (by omega), getElem?_lt hpc]
        congr 1
        omega
      · exact h2 _ (by rw [List.length_set]; exact hdl) j (by omega)
theorem best_l2 {n : Nat} {u : SPackages} {w : List SPackageRange} (hok : okU u w) (x2 : Int) (lp : Int → Option (List Int × Bool)) : ∀ (p m x : Nat) (c : List Int), p ≤ u.Packages.length → p < m → c.length = u.Packages.length → x ≤ 100000 →
    ref5_Best_l2 n u w x2 lp m c x ((p : Int) - 1) = (ref5_Solution n u w (dig u p x c)).bind fun r => if r = true then some (dig u p x c, true) else (gadd x2 1).bind fun y => lp y := by
  obtain ⟨h1, h2, h3⟩ := okU_iff.1 hok
  intro p
  induction p with
  | zero =>
    intro m x c _ hm _ _
    obtain ⟨m, rfl⟩ : ∃ k, m = k + 1 := ⟨m - 1, by omega⟩
    simp only [ref5_Best_l2]
    rw [if_neg (by rw [decide_eq_true_eq]; omega)]
    rfl
  | succ p ih =>
    intro m x c hp hm hc hx
    obtain ⟨m, rfl⟩ : ∃ k, m = k + 1 := ⟨m - 1, by omega⟩
    have hpl : p < u.Packages.length := by omega
    have hpc : p < c.length := by omega
    have h4 := (rel_needs (h2 _ (List.getElem_mem hpl))).1
    have e1 : (u.Packages[p]?.getD []).length = u.Packages[p].length := by rw [getElem?_lt hpl]; rfl
    simp only [ref5_Best_l2]
    have hm1 : grem (x : Int) ((u.Packages[p].length : Int) + 1) = some ((x % (u.Packages[p].length + 1) : Nat) : Int) := by
      unfold grem
      rw [if_neg (by omega)]
      rfl
    have hdiv : x / (u.Packages[p].length + 1) ≤ x := Nat.div_le_self _ _
    have hm2 : gquo (x : Int) ((u.Packages[p].length : Int) + 1) = some ((x / (u.Packages[p].length + 1) : Nat) : Int) := by
      unfold gquo
      rw [if_neg (by omega)]
      show gchk ((x / (u.Packages[p].length + 1) : Nat) : Int) = some ((x / (u.Packages[p].length + 1) : Nat) : Int)
      generalize x / (u.Packages[p].length + 1) = y at hdiv
      exact gchk_ok (by omega)
    have hmod := Nat.mod_lt x (show 0 < u.Packages[p].length + 1 by omega)
    have e : dig u (p + 1) x c = dig u p (x / (u.Packages[p].length + 1)) (c.set p ((u.Packages[p].length : Int) + 1 - 2 - ((x % (u.Packages[p].length + 1) : Nat) : Int))) := by
      show dig u p (x / ((u.Packages[p]?.getD []).length + 1)) (c.set p (((u.Packages[p]?.getD []).length : Int) - 1 - ((x % ((u.Packages[p]?.getD []).length + 1) : Nat) : Int))) = _
      rw [e1, show (u.Packages[p].length : Int) - 1 = (u.Packages[p].length : Int) + 1 - 2 by omega]
    rw [if_pos (by rw [decide_eq_true_eq]; omega), show ((p + 1 : Nat) : Int) - 1 = (p : Int) by omega, gidx_nat, getElem?_lt hpl, bsome, gaddI (by omega), bsome, gsubI (by omega), bsome, hm1, bsome]
    have hs1 : gsub ((u.Packages[p].length : Int) + 1 - 2) ((x % (u.Packages[p].length + 1) : Nat) : Int) = some ((u.Packages[p].length : Int) + 1 - 2 - ((x % (u.Packages[p].length + 1) : Nat) : Int)) := by
      generalize x % (u.Packages[p].length + 1) = y at hmod
      exact gsubI (by omega)
    rw [hs1, bsome, gidx_nat, getElem?_lt hpc, bsome, hm2, bsome, gsubI (by omega), bsome, gset_nat, ih m _ _ (by omega) (by omega) (by rw [List.length_set]; exact hc) (by omega), e]
theorem best_eq {n : Nat} (hn : 1000 < n) {u : SPackages} {w : List SPackageRange} (hok : okU u w) (hsl : selP u u.Packages.length < n) (hs2 : selP u u.Packages.length ≤ 4000) : ∃ c b, ref5_Best n u w = some (c, b) ∧ (b = true ↔ Solvable u w) := by
  obtain ⟨h1, h2, h3⟩ := okU_iff.1 hok
  have hin : ∀ x : Nat, InR u (dig u u.Packages.length x (List.replicate u.Packages.length 0)) := by
    intro x
    refine ⟨by rw [dig_len, List.length_replicate], fun q y p hy hp => ?_⟩
    exact dig_rng u _ x _ q y p (by rw [List.length_replicate]; omega) (get_lt hp) hy hp
  have key : ∀ (m x : Nat), x ≤ selP u u.Packages.length → selP u u.Packages.length - x < m → ∃ c b, ref5_Best_l1 n u w (selP u u.Packages.length) m x = some (c, b) ∧ (b = true ↔ ∃ y, x ≤ y ∧ y < selP u u.Packages.length ∧ Solved (prob u w) (dig u u.Packages.length y (List.replicate u.Packages.length 0))) := by
    intro m
    induction m with
    | zero => intro x _ h; omega
    | succ m ih =>
      intro x hx hm
      simp only [ref5_Best_l1]
      by_cases he : x = selP u u.Packages.length
      · rw [if_neg (by rw [decide_eq_true_eq]; omega)]
        exact ⟨_, false, rfl, fun h => (by cases h), fun ⟨y, h1, h2, _⟩ => by omega⟩
      · obtain ⟨s, hs, hs2⟩ := solution_eq hn hok (hin x)
        have hx1 : x + 1 ≤ selP u u.Packages.length := by omega
        have hx2 : selP u u.Packages.length - (x + 1) < m := by omega
        obtain ⟨c, b, hb, hb2⟩ := ih (x + 1) hx1 hx2
        rw [if_pos (by rw [decide_eq_true_eq]; omega), gmake_nat _ (by omega), bsome, List.length_replicate, gsubI (by omega), bsome, best_l2 hok _ _ _ n x _ (Nat.le_refl _) (by omega) (by rw [List.length_replicate]) (by omega), hs, bsome]
        cases hsb : s with
        | true =>
          rw [if_pos rfl]
          exact ⟨_, true, rfl, fun _ => ⟨x, Nat.le_refl _, by omega, hs2.1 hsb⟩, fun _ => rfl⟩
        | false =>
          rw [if_neg (by simp), gadd_nat (by omega), bsome]
          refine ⟨c, b, hb, hb2.trans ⟨fun ⟨y, g1, g2, g3⟩ => ⟨y, by omega, g2, g3⟩, fun ⟨y, g1, g2, g3⟩ => ?_⟩⟩
          by_cases ey : y = x
          · subst ey
            have := hs2.2 g3
            rw [hsb] at this
            cases this
          · exact ⟨y, by omega, g2, g3⟩
  obtain ⟨c, b, hb, hb2⟩ := key n 0 (Nat.zero_le _) (by omega)
  unfold ref5_Best
  rw [selections_eq hn hok, bsome]
  refine ⟨c, b, hb, hb2.trans ⟨fun ⟨y, _, _, g⟩ => ⟨_, hin y, g⟩, fun ⟨d, hd, hS⟩ => ?_⟩⟩
  obtain ⟨e1, e2⟩ := enc_ok hd _ (Nat.le_refl _)
  refine ⟨_, Nat.zero_le _, e1, ?_⟩
  have : dig u u.Packages.length (enc u d u.Packages.length) (List.replicate u.Packages.length 0) = d := by
    refine List.ext_getElem? fun j => ?_
    by_cases hj : j < u.Packages.length
    · exact e2 _ (by rw [List.length_replicate]) j hj
    · rw [List.getElem?_eq_none (by rw [dig_len, List.length_replicate]; omega), List.getElem?_eq_none (by rw [hd.1]; omega)]
  rw [this]
  exact hS
theorem selP_KU (p : Int → Bool) (u : SPackages) (w : List SPackageRange) : ∀ k, selP (KU p u w) k = selP u k
  | 0 => rfl
  | k + 1 => by
    show selP (KU p u w) k * (((KU p u w).Packages[k]?.getD []).length + 1) = selP u k * ((u.Packages[k]?.getD []).length + 1)
    rw [selP_KU p u w k]
    by_cases hk : k < u.Packages.length
    · obtain ⟨o, -, ho⟩ := fpk_get' u.Packages w.length _ _ (getElem?_lt hk)
      rw [show (KU p u w).Packages[k]? = _ from ho p, getElem?_lt hk]
      simp only [Option.getD_some]
      rw [frel_len]
    · rw [List.getElem?_eq_none (by rw [show (KU p u w).Packages.length = _ from fpk_len _ _ _]; omega), List.getElem?_eq_none (by omega)]
theorem sorted_ext : ∀ (l1 l2 : List Int), l1.Pairwise (· < ·) → l2.Pairwise (· < ·) → (∀ x, x ∈ l1 ↔ x ∈ l2) → l1 = l2
  | [], [], _, _, _ => rfl
  | [], y :: l, _, _, h => by have := (h y).2 List.mem_cons_self; cases this
  | x :: l, [], _, _, h => by have := (h x).1 List.mem_cons_self; cases this
  | x :: l1, y :: l2, h1, h2, h => by
    obtain ⟨a1, a2⟩ := List.pairwise_cons.1 h1
    obtain ⟨b1, b2⟩ := List.pairwise_cons.1 h2
    have e : x = y := by
      have hx := (h x).1 List.mem_cons_self
      have hy := (h y).2 List.mem_cons_self
      rcases List.mem_cons.1 hx with g | g
      · exact g
      · rcases List.mem_cons.1 hy with g' | g'
        · exact g'.symm
        · have := b1 x g
          have := a1 y g'
          omega
    subst e
    rw [sorted_ext l1 l2 a2 b2 fun z => ?_]
    constructor
    · intro hz
      have := a1 z hz
      rcases List.mem_cons.1 ((h z).1 (List.mem_cons_of_mem _ hz)) with g | g
      · omega
      · exact g
    · intro hz
      have := b1 z hz
      rcases List.mem_cons.1 ((h z).2 (List.mem_cons_of_mem _ hz)) with g | g
      · omega
      · exact g
theorem fold_ne (a : Int) : ∀ (l s : List Int) (i : Nat), fold (fun (s : List Int) _ (x : Int) => if x ≠ a then s ++ [x] else s) s i l = s ++ l.filter (fun x => decide (x ≠ a))
  | [], s, i => by simp [fold]
  | x :: l, s, i => by
    show fold _ (if x ≠ a then s ++ [x] else s) (i + 1) l = _
    rw [fold_ne a l, List.filter_cons]
    by_cases h : x = a <;> simp [h]
theorem rwithout_eq {n : Nat} (hn : 1000 < n) (l : List Int) (a : Int) (hl : l.length ≤ 100) : ref6_without n l a = some (l.filter (fun x => decide (x ≠ a))) := by
  have key := loop_acc (l := l) (L := fun m (s : List Int) i => ref6_without_l1 n l a m s i) (fun s _ x => if x ≠ a then s ++ [x] else s) (fun s => some s) (fun s i => s.length ≤ i) ?_ ?_ ?_ n [] 0 (by simp) (by omega) (by omega)
  · unfold ref6_without
    refine Eq.trans key ?_
    rw [List.drop_zero, fold_ne, List.nil_append]
  · intro m s i x hs hi hx
    show ref6_without_l1 n l a (m + 1) s i = ref6_without_l1 n l a m (if x ≠ a then s ++ [x] else s) _
    simp only [ref6_without_l1]
    unfold ref6_without_j1
    rw [if_pos (by rw [decide_eq_true_eq]; omega), gidx_nat, hx, bsome, ifdec, gapp_ok (by simp; omega), bsome, gadd_nat (by omega), bsome, bsome]
    split <;> rfl
  · intro s i x hs hi hx
    split
    · simp; omega
    · omega
  · intro m s _
    show ref6_without_l1 n l a (m + 1) s _ = _
    simp only [ref6_without_l1]
    rw [if_neg (by rw [decide_eq_true_eq]; omega)]
noncomputable def keepF (u : SPackages) (w : List SPackageRange) (i : Nat) : List Int := (allK (cnt u w)).filter (fun b => decide (b ∈ outF u w i) || decide ((i : Int) ≤ b))
theorem keepF_mem {u : SPackages} {w : List SPackageRange} {i : Nat} {b : Int} : b ∈ keepF u w i ↔ (0 ≤ b ∧ b < cnt u w) ∧ (b ∈ outF u w i ∨ (i : Int) ≤ b) := by
  unfold keepF
  rw [List.mem_filter, allK_mem]
  simp
theorem allK_pw (c : Nat) : (allK c).Pairwise (· < ·) := (kfault_iff.1 (allK_kfault c)).2
theorem keepF_pw (u : SPackages) (w : List SPackageRange) (i : Nat) : (keepF u w i).Pairwise (· < ·) := (allK_pw _).filter _
theorem rreason_eq {n : Nat} (hn : 5000 < n) {u : SPackages} {w : List SPackageRange} (hok : okU u w) (hs2 : selP u u.Packages.length ≤ 4000) : ∃ r, ref6_Reason n u w = some r ∧ (Solvable u w → r = ([], false)) ∧ (¬ Solvable u w → r = (reason u w, true)) := by
  have hc := cnt_le hok
  obtain ⟨c0, b0, hb0, hb0'⟩ := best_eq (n := n) (by omega) hok (by omega) hs2
  -- the second loop
  have loop2 : ref6_Reason_l2 n u w (cnt u w) n (allK (cnt u w)) 0 = some (reason u w, true) := by
    refine loop_fin (l := List.replicate (cnt u w) ()) (L := fun m (s : List Int) i => ref6_Reason_l2 n u w (cnt u w) m s i) _ (fun s i => s = keepF u w i) ?_ ?_ n (allK (cnt u w)) 0 ?_ (by omega) (by simp; omega)
    · intro m s i x hs hi _
      rw [List.length_replicate] at hi
      subst hs
      refine ⟨keepF u w (i + 1), rfl, ?_⟩
      show ref6_Reason_l2 n u w (cnt u w) (m + 1) (keepF u w i) i = ref6_Reason_l2 n u w (cnt u w) m (keepF u w (i + 1)) _
      simp only [ref6_Reason_l2]
      have hkl : (keepF u w i).length ≤ 100 := by
        have : (keepF u w i).length ≤ (allK (cnt u w)).length := List.length_filter_le _ _
        rw [allK_len] at this
        omega
      have hfl : ((keepF u w i).filter (fun x => decide (x ≠ (i : Int)))).length ≤ 900 := by
        have : ((keepF u w i).filter (fun x => decide (x ≠ (i : Int)))).length ≤ (keepF u w i).length := List.length_filter_le _ _
        omega
      have hok2 := keep_ok (inKp ((keepF u w i).filter (fun x => decide (x ≠ (i : Int))))) hok
      have hsel : selP (KU (inKp ((keepF u w i).filter (fun x => decide (x ≠ (i : Int))))) u w) (KU (inKp ((keepF u w i).filter (fun x => decide (x ≠ (i : Int))))) u w).Packages.length = selP u u.Packages.length := by
        rw [selP_KU, show (KU (inKp ((keepF u w i).filter (fun x => decide (x ≠ (i : Int))))) u w).Packages.length = u.Packages.length from fpk_len _ _ _]
      obtain ⟨c, b, hb, hb'⟩ := best_eq (n := n) (by omega) hok2 (by rw [hsel]; omega) (by rw [hsel]; exact hs2)
      have hb2 : ref5_Best n (⟨(KU (inKp ((keepF u w i).filter (fun x => decide (x ≠ (i : Int))))) u w).Packages⟩ : SPackages) (KW (inKp ((keepF u w i).filter (fun x => decide (x ≠ (i : Int))))) w) = some (c, b) := hb
      rw [if_pos (by rw [decide_eq_true_eq]; omega), rwithout_eq (by omega) _ _ hkl, bsome, kept_eq (by omega) hok _ hfl, bsome]
      simp only []
      rw [hb2, bsome, bsome]
      have hlt := (outF_lt u w i).1
      have hmem : ∀ y : Int, y ∈ (keepF u w i).filter (fun x => decide (x ≠ (i : Int))) ↔ (0 ≤ y ∧ y < cnt u w) ∧ (y ∈ outF u w i ∨ (i : Int) < y) := by
        intro y
        rw [List.mem_filter, keepF_mem, decide_eq_true_eq]
        constructor
        · rintro ⟨⟨g1, g2⟩, g3⟩
          refine ⟨g1, g2.imp id fun g => by omega⟩
        · rintro ⟨g1, g2⟩
          refine ⟨⟨g1, g2.imp id fun g => by omega⟩, ?_⟩
          rcases g2 with g2 | g2
          · have := hlt y g2; omega
          · omega
      have hSv : b = true ↔ Sv u w (fun y => decide (y ∈ outF u w i) || decide ((i : Int) < y)) := by
        refine Iff.trans hb' ⟨fun g => Sv.mono (q := inKp _) g fun y y1 y2 hy => ?_, fun g => ?_⟩
        · unfold inKp
          rw [decide_eq_true_eq, hmem]
          simp only [Bool.or_eq_true, decide_eq_true_eq] at hy
          exact ⟨⟨y1, y2⟩, hy⟩
        · refine g.mono (p := inKp _) fun y _ _ hy => ?_
          unfold inKp at hy
          rw [decide_eq_true_eq, hmem] at hy
          simp only [Bool.or_eq_true, decide_eq_true_eq]
          exact hy.2
      unfold ref6_Reason_j1
      rw [gadd_nat (by omega), bsome, bsome]
      cases hbt : b with
      | true =>
        have h := hSv.1 hbt
        rw [if_neg (by simp)]
        congr 1
        refine sorted_ext _ _ (keepF_pw u w i) (keepF_pw u w (i + 1)) fun y => ?_
        rw [keepF_mem, keepF_mem, outF_succ_pos h, List.mem_append, List.mem_singleton]
        constructor
        · rintro ⟨g1, g2⟩
          refine ⟨g1, ?_⟩
          rcases g2 with g2 | g2
          · exact .inl (.inl g2)
          · by_cases e : y = i
            · exact .inl (.inr e)
            · exact .inr (by omega)
        · rintro ⟨g1, g2⟩
          refine ⟨g1, ?_⟩
          rcases g2 with (g2 | g2) | g2
          · exact .inl g2
          · exact .inr (by omega)
          · exact .inr (by omega)
      | false =>
        have h : ¬ Sv u w (fun y => decide (y ∈ outF u w i) || decide ((i : Int) < y)) := fun g => by
          have := hSv.2 g
          rw [hbt] at this
          cases this
        rw [if_pos (show (!false) = true from rfl)]
        congr 1
        refine sorted_ext _ _ ((keepF_pw u w i).filter _) (keepF_pw u w (i + 1)) fun y => ?_
        rw [hmem, keepF_mem, outF_succ_neg h]
        constructor
        · rintro ⟨g1, g2⟩
          exact ⟨g1, g2.imp id fun g => by omega⟩
        · rintro ⟨g1, g2⟩
          exact ⟨g1, g2.imp id fun g => by omega⟩
    · intro m s hs
      rw [List.length_replicate] at hs ⊢
      subst hs
      show ref6_Reason_l2 n u w (cnt u w) (m + 1) _ _ = _
      simp only [ref6_Reason_l2]
      rw [if_neg (by rw [decide_eq_true_eq]; omega)]
      have hlt := outF_lt u w (cnt u w)
      have : keepF u w (cnt u w) = reason u w := by
        refine sorted_ext _ _ (keepF_pw u w _) hlt.2.1 fun y => ?_
        rw [keepF_mem]
        constructor
        · rintro ⟨g1, g2⟩
          exact g2.resolve_right (by omega)
        · intro g
          exact ⟨hlt.1 y g, .inl g⟩
      rw [this]
    · refine sorted_ext _ _ (allK_pw _) (keepF_pw u w 0) fun y => ?_
      rw [keepF_mem, allK_mem]
      constructor
      · intro g
        exact ⟨g, .inr g.1⟩
      · exact fun g => g.1
  have res : ref6_Reason n u w = if b0 = true then some ([], false) else some (reason u w, true) := by
    unfold ref6_Reason
    rw [rcount_eq (by omega) hok, bsome]
    refine loop_fin (l := List.replicate (cnt u w) ()) (L := fun m (s : List Int) i => ref6_Reason_l1 n u w (cnt u w) m s i) _ (fun s i => s = allK i) ?_ ?_ n [] 0 rfl (by omega) (by simp; omega)
    · intro m s i x hs hi _
      rw [List.length_replicate] at hi
      refine ⟨allK (i + 1), rfl, ?_⟩
      show ref6_Reason_l1 n u w (cnt u w) (m + 1) s i = ref6_Reason_l1 n u w (cnt u w) m _ _
      simp only [ref6_Reason_l1]
      have hsl : s.length = i := by rw [hs, allK_len]
      rw [if_pos (by rw [decide_eq_true_eq]; omega), gapp_ok (by simp; omega), bsome, gadd_nat (by omega), bsome, hs]
      congr 1
      unfold allK
      rw [List.range_succ, List.map_append]
      rfl
    · intro m s hs
      rw [List.length_replicate] at hs ⊢
      subst hs
      show ref6_Reason_l1 n u w (cnt u w) (m + 1) (allK (cnt u w)) (cnt u w) = _
      simp only [ref6_Reason_l1]
      rw [if_neg (by rw [decide_eq_true_eq]; omega), hb0, bsome, loop2]
  cases hb : b0 with
  | true =>
    rw [hb, if_pos rfl] at res
    exact ⟨_, res, fun _ => rfl, fun h => absurd (hb0'.1 hb) h⟩
  | false =>
    rw [hb, if_neg (by simp)] at res
    refine ⟨_, res, fun h => ?_, fun _ => rfl⟩
    have := hb0'.2 h
    rw [hb] at this
    cases this
theorem ints_eq {n : Nat} (hn : 1000 < n) (l : List Int) (hl : l.length ≤ 100) : ref5_Ints n l l = some true := by
  unfold ref5_Ints
  rw [if_neg (by simp)]
  refine loop_fin (l := l) (L := fun m (_ : Unit) i => ref5_Ints_l1 n l l m i) _ (fun _ _ => True) ?_ ?_ n () 0 trivial (by omega) (by omega)
  · intro m s i x _ hi hx
    refine ⟨(), trivial, ?_⟩
    show ref5_Ints_l1 n l l (m + 1) i = ref5_Ints_l1 n l l m _
    simp only [ref5_Ints_l1]
    rw [if_pos (by rw [decide_eq_true_eq]; omega), gidx_nat, hx, bsome, bsome, if_neg (by simp), gadd_nat (by omega), bsome]
  · intro m s _
    show ref5_Ints_l1 n l l (m + 1) _ = _
    simp only [ref5_Ints_l1]
    rw [if_neg (by rw [decide_eq_true_eq]; omega)]
theorem slow_eq {n : Nat} (hn : 1000 < n) {u : SPackages} {w : List SPackageRange} (hok : okU u w) : ∃ b, law6_slow n u w = some b ∧ (b = false → selP u u.Packages.length ≤ 4000) := by
  obtain ⟨h1, h2, h3⟩ := okU_iff.1 hok
  have hle := selP_le (u := u) (fun x hx => (rel_needs (h2 x hx)).1) u.Packages.length
  have hle2 : selP u u.Packages.length ≤ 15625 := Nat.le_trans hle (Nat.pow_le_pow_right (n := 5) (by omega) h1)
  have hc := cnt_le hok
  unfold law6_slow
  have hm : selP u u.Packages.length * (1 + cnt u w) ≤ 15625 * 101 := Nat.mul_le_mul hle2 (by omega)
  have hcast : (selP u u.Packages.length : Int) * (1 + (cnt u w : Int)) = ((selP u u.Packages.length * (1 + cnt u w) : Nat) : Int) := by
    rw [Int.natCast_mul]
    rfl
  rw [selections_eq hn hok, bsome, rcount_eq hn hok, bsome, gaddI (by omega), bsome, gmulI (by rw [hcast]; omega), bsome, hcast]
  refine ⟨_, rfl, fun h => ?_⟩
  rw [decide_eq_false_iff_not] at h
  have : selP u u.Packages.length * 1 ≤ selP u u.Packages.length * (1 + cnt u w) := Nat.mul_le_mul_left _ (by omega)
  omega
theorem law_reason (u : SPackages) (w : List SPackageRange) : law6_ExplainReasonMatchesSpec 6000 u w = some true := by
  unfold law6_ExplainReasonMatchesSpec law6_ExplainReasonMatchesSpec_j1 law6_ExplainReasonMatchesSpec_j2 law6_ExplainReasonMatchesSpec_j3 law6_ExplainReasonMatchesSpec_j4 law6_fault
  rw [explains_eq, bsome]
  obtain ⟨v, hv⟩ := vast_ex (n := 6000) (by omega) u w
  rw [hv, bsome, wants_eq (by omega)]
  simp only [Bool.not_true, Bool.false_eq_true, if_false, bsome]
  cases v with
  | true => rfl
  | false =>
    simp only [Bool.false_eq_true, if_false]
    by_cases hok : okU u w
    · obtain ⟨s, hs, hs2⟩ := slow_eq (n := 6000) (by omega) hok
      have h0 := (afault_iff u w).2 hok
      by_cases hS : Solvable u w
      · rw [reason_solved (by omega) hok hS, bsome, h0, hs]
        simp only [bsome]
        cases hsb : s with
        | true => rfl
        | false =>
          obtain ⟨r, hr, hr2, -⟩ := rreason_eq (n := 6000) (by omega) hok (hs2 hsb)
          rw [hr, hr2 hS]
          rfl
      · rw [reason_eq (by omega) hok hS, bsome, h0, hs]
        simp only [bsome]
        cases hsb : s with
        | true => rfl
        | false =>
          obtain ⟨r, hr, -, hr2⟩ := rreason_eq (n := 6000) (by omega) hok (hs2 hsb)
          have hl : (reason u w).length ≤ 100 := by have := kfault_len (reason_kfault u w); have := cnt_le hok; omega
          rw [hr, hr2 hS]
          simp only [bsome, ne_eq, not_true_eq_false, decide_false, Bool.false_eq_true, if_false, Bool.not_true, decide_true, if_true]
          rw [ints_eq (n := 6000) (by omega) _ hl, bsome]
    · have hc : (afault u w).Code ≠ 0 := hok
      rw [reason_bad (by omega) hok, bsome]
      simp only []
      rw [if_pos (by simpa using hc), sameT _ _ rfl]
      rfl
end Go.Proofs.Ytfdennmaeoahgaa
