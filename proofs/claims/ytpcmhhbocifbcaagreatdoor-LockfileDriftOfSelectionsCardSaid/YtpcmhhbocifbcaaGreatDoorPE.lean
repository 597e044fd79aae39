/- Explain: identifiers: what the program's checks and the document's compute; their order. -/
import Derived.Test.YtpcmhhbocifbcaaGreatDoorD
import Derived.Test.YtpcmhhbocifbcaaGreatDoorPwPlain
import Derived.Laws.RangeString
import Derived.Lib.ItoaNum
set_option linter.unusedVariables false
set_option linter.unusedSimpArgs false
namespace Go.Proofs.YtpcmhhbocifbcaaGreatDoor
open Go.PW Go
theorem locks_eq : law6_locks 2000 = some true := by decide +kernel
end Go.Proofs.YtpcmhhbocifbcaaGreatDoor
namespace Go.Proofs.YtpcmhhbocifbcaaGreatDoor
open Go.PW Go
theorem ref_in5 (n : Nat) (a b c : Int) : ref5_in n a b c = some (decide (b ≤ a ∧ a ≤ c)) := by
  unfold ref5_in ref5_in_j1
  by_cases h : b ≤ a <;> simp [h]
theorem ref_in6 (n : Nat) (a b c : Int) : ref6_in n a b c = some (decide (b ≤ a ∧ a ≤ c)) := by
  unfold ref6_in ref6_in_j1
  by_cases h : b ≤ a <;> simp [h]
theorem wrap_byte (c : UInt8) : IntKind.wrap .i64 (c.toNat : Int) = (c.toNat : Int) := wrap_i64 (by have := c.toNat_lt; omega)
def isd (c : UInt8) : Bool := decide (48 ≤ c.toNat) && decide (c.toNat ≤ 57)
def okb (c : UInt8) : Bool := isd c || (decide (97 ≤ c.toNat) && decide (c.toNat ≤ 122)) || (decide (65 ≤ c.toNat) && decide (c.toNat ≤ 90)) || decide (c.toNat = 45)
theorem okb_ascii {c : UInt8} (h : okb c = true) : c.toNat < 128 := by
  unfold okb isd at h
  simp at h
  omega
def num (s : List UInt8) : Bool := s.all isd
def ident (s : List UInt8) : Bool := decide (1 ≤ s.length ∧ s.length ≤ 8) && s.all okb && (!(num s) || decide (s.length = 1) || decide (s.head? ≠ some 48))
theorem bsz (s : List UInt8) : (⟨s.toArray⟩ : ByteArray).size = s.length := rfl
theorem byte_at (s : List UInt8) (pos : Nat) (h : pos < (⟨s.toArray⟩ : ByteArray).size) : (⟨s.toArray⟩ : ByteArray)[pos]'h = s[pos]'(by rw [bsz] at h; exact h) := by
  simp [ByteArray.getElem_eq_getElem_data]
theorem nonDigits_from (s : List UInt8) (ha : ∀ c ∈ s, c.toNat < 128) : ∀ (f pos : Nat), pos ≤ s.length → s.length - pos ≤ f → (0 ≤ Lib.idxFuncFrom noDigit true ⟨s.toArray⟩ f pos ↔ (s.drop pos).any (fun c => !isd c) = true) := by
  intro f
  induction f with
  | zero =>
    intro pos h1 h2
    have : pos = s.length := by omega
    subst this
    simp [Lib.idxFuncFrom]
  | succ f ih =>
    intro pos h1 h2
    unfold Lib.idxFuncFrom
    by_cases hp : pos < s.length
    · have hps : pos < (⟨s.toArray⟩ : ByteArray).size := by rw [bsz]; exact hp
      have hasc : ((⟨s.toArray⟩ : ByteArray)[pos]'hps).toNat < 128 := by rw [byte_at]; exact ha _ (List.getElem_mem hp)
      rw [if_pos hps, decode_ascii _ _ hps hasc, byte_at, List.drop_eq_getElem_cons hp, List.any_cons]
      have e : noDigit s[pos].toNat = !isd s[pos] := by
        unfold noDigit isd
        by_cases a : s[pos].toNat < 48 <;> by_cases b : 57 < s[pos].toNat <;> simp [a, b] <;> omega
      simp only [e]
      cases hd : isd s[pos] with
      | true =>
        simp only [Bool.not_true, Bool.false_eq_true, if_false, Bool.false_or]
        exact ih (pos + 1) (by omega) (by omega)
      | false =>
        simp only [Bool.not_false, if_true, Bool.true_or, iff_true]
        omega
    · have : pos = s.length := by omega
      subst this
      rw [if_neg (by rw [bsz]; exact hp)]
      simp
theorem nonDigits_ascii {s : List UInt8} (ha : ∀ c ∈ s, c.toNat < 128) : libNonDigits s = !(num s) := by
  unfold libNonDigits Lib.idxFunc
  have h := nonDigits_from s ha (⟨s.toArray⟩ : ByteArray).size 0 (by omega) (by rw [bsz]; omega)
  rw [List.drop_zero] at h
  have e : num s = !(s.any fun c => !isd c) := by unfold num; rw [List.all_eq_not_any_not]
  rw [e, Bool.not_not]
  rw [Bool.eq_iff_iff, decide_eq_true_iff]
  exact h
theorem numeric_eq (n : Nat) {s : List UInt8} (ha : ∀ c ∈ s, c.toNat < 128) : version_numeric n s = some (num s) := by
  unfold version_numeric strings_ContainsFunc
  rw [bsome, nonDigits_ascii ha, Bool.not_not]
theorem id_byte (n : Nat) (x2 : Int) (lp : Int → Option Bool) (y : UInt8) :
    (if (decide ((y.toNat : Int) < 48)) = true then
        if (decide ((y.toNat : Int) < 97)) = true then
          if (decide ((y.toNat : Int) < 65)) = true then
            version_identifier_j2 n x2 lp (decide ((y.toNat : Int) ≠ 45))
          else
            if (decide (90 < (y.toNat : Int))) = true then
              version_identifier_j2 n x2 lp (decide ((y.toNat : Int) ≠ 45))
            else
              version_identifier_j2 n x2 lp false
        else
          if (decide (122 < (y.toNat : Int))) = true then
            if (decide ((y.toNat : Int) < 65)) = true then
              version_identifier_j2 n x2 lp (decide ((y.toNat : Int) ≠ 45))
            else
              if (decide (90 < (y.toNat : Int))) = true then
                version_identifier_j2 n x2 lp (decide ((y.toNat : Int) ≠ 45))
              else
                version_identifier_j2 n x2 lp false
          else
            version_identifier_j2 n x2 lp false
      else
        if (decide (57 < (y.toNat : Int))) = true then
          if (decide ((y.toNat : Int) < 97)) = true then
            if (decide ((y.toNat : Int) < 65)) = true then
              version_identifier_j2 n x2 lp (decide ((y.toNat : Int) ≠ 45))
            else
              if (decide (90 < (y.toNat : Int))) = true then
                version_identifier_j2 n x2 lp (decide ((y.toNat : Int) ≠ 45))
              else
                version_identifier_j2 n x2 lp false
          else
            if (decide (122 < (y.toNat : Int))) = true then
              if (decide ((y.toNat : Int) < 65)) = true then
                version_identifier_j2 n x2 lp (decide ((y.toNat : Int) ≠ 45))
              else
                if (decide (90 < (y.toNat : Int))) = true then
                  version_identifier_j2 n x2 lp (decide ((y.toNat : Int) ≠ 45))
                else
                  version_identifier_j2 n x2 lp false
            else
              version_identifier_j2 n x2 lp false
        else
          version_identifier_j2 n x2 lp false) = version_identifier_j2 n x2 lp (!okb y) := by
  have key : ∀ b : Bool, (b = true ↔ ¬ (okb y = true)) → version_identifier_j2 n x2 lp b = version_identifier_j2 n x2 lp (!okb y) := by
    intro b hb
    have : b = !okb y := by
      cases hh : okb y <;> cases b <;> simp [hh] at hb ⊢
    rw [this]
  simp only [decide_eq_true_eq]
  repeat' split
  all_goals
    refine key _ ?_
    simp only [okb, isd, decide_eq_true_eq, Bool.or_eq_true, Bool.and_eq_true, Bool.false_eq_true, false_iff, Classical.not_not, not_or, not_and, ne_eq]
    omega
theorem identifier_l1 (n : Nat) (s : List UInt8) (hl : s.length ≤ 8) (hpos : 1 ≤ s.length) : ∀ (m i : Nat), i ≤ s.length → s.length - i < m → (∀ c ∈ s.take i, okb c = true) →
    version_identifier_l1 n s m i = some ((s.drop i).all okb && (!(num s) || decide (s.length = 1) || decide (s.head? ≠ some 48))) := by
  intro m
  induction m with
  | zero => intro i _ h; omega
  | succ m ih =>
    intro i hi hm hall
    rw [version_identifier_l1]
    by_cases h : i < s.length
    · rw [if_pos (by rw [decide_eq_true_eq]; omega), gidx_nat, getElem?_lt h, bsome, id_byte, List.drop_eq_getElem_cons h, List.all_cons]
      unfold version_identifier_j2
      cases ho : okb s[i] with
      | false => simp
      | true =>
        rw [if_neg (by simp), gadd_nat (by omega), bsome, ih (i + 1) (by omega) (by omega) ?_]
        · simp
        · intro c hc
          rw [List.take_succ_eq_append_getElem h, List.mem_append, List.mem_singleton] at hc
          rcases hc with hc | rfl
          · exact hall c hc
          · exact ho
    · have e : i = s.length := by omega
      subst e
      rw [List.take_length] at hall
      rw [if_neg (by rw [decide_eq_true_eq]; omega), numeric_eq n fun c hc => okb_ascii (hall c hc), bsome, List.drop_length, List.all_nil]
      unfold version_identifier_j3
      cases hn : num s with
      | false => simp
      | true =>
        rw [if_neg (by simp)]
        by_cases h1 : s.length = 1
        · rw [if_pos (by rw [decide_eq_true_eq]; omega)]
          simp [h1]
        · rw [if_neg (by rw [decide_eq_true_eq]; omega)]
          match s, h1 with
          | [], _ => simp at hpos
          | x :: r, h1 =>
            rw [show (0 : Int) = ((0 : Nat) : Int) from rfl, gidx_nat]
            simp only [List.getElem?_cons_zero]
            rw [bsome]
            simp only [Bool.not_true, Bool.false_or, Bool.true_and, List.head?_cons]
            congr 1
            have : ((x.toNat : Int) ≠ 48) ↔ some x ≠ some 48 := by
              constructor
              · intro h e
                injection e with e
                subst e
                exact h rfl
              · intro h e
                refine h (congrArg some ?_)
                exact UInt8.toNat_inj.1 (by have : x.toNat = 48 := by omega
                                            rw [this]; rfl)
            have hr : r ≠ [] := fun e => h1 (by rw [e]; rfl)
            simp [hr, this]
end Go.Proofs.YtpcmhhbocifbcaaGreatDoor
namespace Go.Proofs.YtpcmhhbocifbcaaGreatDoor
open Go.PW Go
theorem identifier_eq {n : Nat} (hn : 1000 < n) (s : List UInt8) : version_identifier n s = some (ident s) := by
  unfold version_identifier version_identifier_j1 ident
  by_cases h0 : s.length = 0
  · rw [if_pos (by rw [decide_eq_true_eq]; omega), if_pos rfl]
    simp [h0]
  · rw [if_neg (by rw [decide_eq_true_eq]; omega)]
    by_cases h8 : 8 < s.length
    · rw [if_pos (by rw [decide_eq_true_eq]; omega)]
      rw [decide_eq_false (by omega)]; rfl
    · rw [if_neg (by rw [decide_eq_true_eq]; omega)]
      have := identifier_l1 n s (by omega) (by omega) n 0 (by omega) (by omega) (by simp)
      refine Eq.trans this ?_
      rw [decide_eq_true (show 1 ≤ s.length ∧ s.length ≤ 8 by omega)]
      simp
theorem rnum_l1 (n : Nat) (s : List UInt8) (hl : s.length ≤ 1000) : ∀ (m i : Nat), i ≤ s.length → s.length - i < m → ref5_Numeric_l1 n s m i = some ((s.drop i).all isd && decide (0 < s.length)) := by
  intro m
  induction m with
  | zero => intro i _ h; omega
  | succ m ih =>
    intro i hi hm
    rw [ref5_Numeric_l1]
    by_cases h : i < s.length
    · rw [if_pos (by rw [decide_eq_true_eq]; omega), gidx_nat, getElem?_lt h, bsome, bsome, List.drop_eq_getElem_cons h, List.all_cons]
      unfold ref5_Numeric_j1 isd
      by_cases a : s[i].toNat < 48
      · rw [if_pos (by rw [decide_eq_true_eq]; omega), if_pos rfl]
        simp; omega
      · rw [if_neg (by rw [decide_eq_true_eq]; omega)]
        by_cases b : 57 < s[i].toNat
        · rw [if_pos (by rw [decide_eq_true_eq]; omega)]
          simp; omega
        · rw [if_neg (by rw [decide_eq_true_eq]; omega), gadd_nat (by omega), bsome, ih (i + 1) (by omega) (by omega), decide_eq_true (show 48 ≤ s[i].toNat by omega), decide_eq_true (show s[i].toNat ≤ 57 by omega)]
          rfl
    · rw [if_neg (by rw [decide_eq_true_eq]; omega), List.drop_eq_nil_of_le (by omega)]
      simp
theorem rnum_eq {n : Nat} (hn : 1000 < n) {s : List UInt8} (hl : s.length ≤ 100) (hp : 0 < s.length) : ref5_Numeric n s = some (num s) := by
  unfold ref5_Numeric
  have := rnum_l1 n s (by omega) n 0 (by omega) (by omega)
  refine Eq.trans this ?_
  rw [decide_eq_true hp]
  simp [num]
theorem rid_byte (n : Nat) (x2 : Int) (lp : Int → Option Bool) (y : UInt8) :
    ((ref5_in n (IntKind.wrap .i64 (y.toNat : Int)) 48 57).bind fun r6 =>
      if (!r6) = true then
        (ref5_in n (IntKind.wrap .i64 (y.toNat : Int)) 97 122).bind fun r7 =>
        if (!r7) = true then
          (ref5_in n (IntKind.wrap .i64 (y.toNat : Int)) 65 90).bind fun r8 =>
          if (!r8) = true then
            ref5_Identifier_j2 n x2 lp (decide ((IntKind.wrap .i64 (y.toNat : Int)) ≠ 45))
          else
            ref5_Identifier_j2 n x2 lp false
        else
          ref5_Identifier_j2 n x2 lp false
      else
        ref5_Identifier_j2 n x2 lp false) = ref5_Identifier_j2 n x2 lp (!okb y) := by
  simp only [wrap_byte]
  have key : ∀ b : Bool, (b = true ↔ ¬ (okb y = true)) → ref5_Identifier_j2 n x2 lp b = ref5_Identifier_j2 n x2 lp (!okb y) := by
    intro b hb
    have : b = !okb y := by
      cases hh : okb y <;> cases b <;> simp [hh] at hb ⊢
    rw [this]
  rw [ref_in5, bsome]
  by_cases a : (48 : Int) ≤ y.toNat ∧ (y.toNat : Int) ≤ 57
  · rw [decide_eq_true a, if_neg (by simp)]
    refine key _ ?_
    simp only [okb, isd, decide_eq_true_eq, Bool.or_eq_true, Bool.and_eq_true, Bool.false_eq_true, false_iff, Classical.not_not, not_or, not_and, ne_eq]
    omega
  · rw [decide_eq_false a, if_pos (by simp), ref_in5, bsome]
    by_cases b : (97 : Int) ≤ y.toNat ∧ (y.toNat : Int) ≤ 122
    · rw [decide_eq_true b, if_neg (by simp)]
      refine key _ ?_
      simp only [okb, isd, decide_eq_true_eq, Bool.or_eq_true, Bool.and_eq_true, Bool.false_eq_true, false_iff, Classical.not_not, not_or, not_and, ne_eq]
      omega
    · rw [decide_eq_false b, if_pos (by simp), ref_in5, bsome]
      by_cases c : (65 : Int) ≤ y.toNat ∧ (y.toNat : Int) ≤ 90
      · rw [decide_eq_true c, if_neg (by simp)]
        refine key _ ?_
        simp only [okb, isd, decide_eq_true_eq, Bool.or_eq_true, Bool.and_eq_true, Bool.false_eq_true, false_iff, Classical.not_not, not_or, not_and, ne_eq]
        omega
      · rw [decide_eq_false c, if_pos (by simp)]
        refine key _ ?_
        simp only [okb, isd, decide_eq_true_eq, Bool.or_eq_true, Bool.and_eq_true, Bool.false_eq_true, false_iff, Classical.not_not, not_or, not_and, ne_eq]
        omega
theorem rid_l1 (n : Nat) (s : List UInt8) (hl : s.length ≤ 8) : ∀ (m i : Nat), i ≤ s.length → s.length - i < m → ref5_Identifier_l1 n s m i = some ((s.drop i).all okb) := by
  intro m
  induction m with
  | zero => intro i _ h; omega
  | succ m ih =>
    intro i hi hm
    rw [ref5_Identifier_l1]
    by_cases h : i < s.length
    · rw [if_pos (by rw [decide_eq_true_eq]; omega), gidx_nat, getElem?_lt h, bsome, rid_byte, List.drop_eq_getElem_cons h, List.all_cons]
      unfold ref5_Identifier_j2
      cases ho : okb s[i] with
      | false => simp
      | true =>
        rw [if_neg (by simp), gadd_nat (by omega), bsome, ih (i + 1) (by omega) (by omega)]
        simp
    · rw [if_neg (by rw [decide_eq_true_eq]; omega), List.drop_eq_nil_of_le (by omega)]
      simp
theorem head48 (x : UInt8) : ((x.toNat : Int) = 48) ↔ some x = some 48 := by
  constructor
  · intro h
    refine congrArg some ?_
    exact UInt8.toNat_inj.1 (by have : x.toNat = 48 := by omega
                                rw [this]; rfl)
  · intro e
    injection e with e
    subst e
    rfl
theorem ridentifier_eq {n : Nat} (hn : 1000 < n) (s : List UInt8) : ref5_Identifier n s = some (ident s) := by
  unfold ref5_Identifier ref5_Identifier_j1 ident
  rw [ref_in5, bsome]
  by_cases h : 1 ≤ s.length ∧ s.length ≤ 8
  · rw [decide_eq_true (show (1 : Int) ≤ s.length ∧ (s.length : Int) ≤ 8 by omega), if_neg (by simp), rnum_eq hn (by omega) (by omega), bsome, decide_eq_true h]
    have fin := rid_l1 n s h.2 n 0 (by omega) (by omega)
    simp only [List.drop_zero] at fin
    have fin' : ref5_Identifier_l1 n s n 0 = some (s.all okb) := fin
    cases hn' : num s with
    | false =>
      rw [if_neg (by simp), if_neg (by simp), fin']
      simp
    | true =>
      rw [if_pos rfl]
      by_cases h1 : s.length = 1
      · rw [if_neg (by rw [decide_eq_true_eq]; omega), if_neg (by simp), fin']
        simp [h1]
      · rw [if_pos (by rw [decide_eq_true_eq]; omega)]
        match s, h, h1, fin' with
        | x :: r, h, h1, fin' =>
          rw [show (0 : Int) = ((0 : Nat) : Int) from rfl, gidx_nat]
          simp only [List.getElem?_cons_zero]
          rw [bsome]
          have hr : r ≠ [] := fun e => h1 (by rw [e]; rfl)
          by_cases hx : (x.toNat : Int) = 48
          · have := (head48 x).1 hx
            rw [if_pos (by rw [decide_eq_true_eq]; exact hx)]
            simp at this
            simp [this, hr]
          · have h2 : some x ≠ some 48 := fun e => hx ((head48 x).2 e)
            rw [if_neg (by rw [decide_eq_true_eq]; exact hx)]
            refine Eq.trans fin' ?_
            simp only [List.head?_cons]
            simp [h2]
  · rw [decide_eq_false (show ¬ ((1 : Int) ≤ s.length ∧ (s.length : Int) ≤ 8) by omega), if_pos (by simp), if_pos rfl, decide_eq_false h]
    rfl
def sg (a b : Int) : Int := if a < b then -1 else if b < a then 1 else 0
theorem sg_neg (a b : Int) : sg a b = - sg b a := by unfold sg; split <;> split <;> first | omega | (split <;> omega)
theorem compare_eq (n : Nat) (a b : Int) : cmp_Compare_int n a b = some (sg a b) := by
  unfold cmp_Compare_int cmp_isNaN_int sg
  simp only [bsome, ne_eq, not_true_eq_false, decide_false, Bool.false_eq_true, if_false, decide_eq_true_eq]
  split
  · rfl
  · split <;> rfl
theorem sign3_eq (n : Nat) (a b : Int) : ref5_Sign3 n a b = some (sg a b) := by
  unfold ref5_Sign3 sg
  simp only [decide_eq_true_eq]
  split
  · rfl
  · split <;> rfl
theorem or2_eq {n : Nat} (hn : 10 < n) (a b : Int) : cmp_Or_int n [a, b] = some (if a ≠ 0 then a else b) := by
  unfold cmp_Or_int
  obtain ⟨k, rfl⟩ : ∃ k, n = k + 3 := ⟨n - 3, by omega⟩
  rw [cmp_Or_int_l1]
  simp only [List.length_cons, List.length_nil]
  rw [if_pos (by simp), show gidx [a, b] 0 = some a from rfl, bsome]
  by_cases ha : a ≠ 0
  · rw [if_pos (by simpa using ha), if_pos ha]
  · rw [if_neg (by simpa using ha), if_neg ha, show gadd 0 1 = some 1 from rfl, bsome, cmp_Or_int_l1]
    simp only [List.length_cons, List.length_nil]
    rw [if_pos (by simp), show gidx [a, b] 1 = some b from rfl, bsome]
    by_cases hb : b ≠ 0
    · rw [if_pos (by simpa using hb)]
    · rw [if_neg (by simpa using hb), show gadd 1 1 = some 2 from rfl, bsome, cmp_Or_int_l1]
      simp only [List.length_cons, List.length_nil]
      rw [if_neg (by simp)]
      have : b = 0 := Classical.not_not.1 hb
      rw [this]
theorem or3_eq {n : Nat} (hn : 10 < n) (a b c : Int) : cmp_Or_int n [a, b, c] = some (if a ≠ 0 then a else if b ≠ 0 then b else c) := by
  unfold cmp_Or_int
  obtain ⟨k, rfl⟩ : ∃ k, n = k + 4 := ⟨n - 4, by omega⟩
  rw [cmp_Or_int_l1]
  simp only [List.length_cons, List.length_nil]
  rw [if_pos (by simp), show gidx [a, b, c] 0 = some a from rfl, bsome]
  by_cases ha : a ≠ 0
  · rw [if_pos (by simpa using ha), if_pos ha]
  · rw [if_neg (by simpa using ha), if_neg ha, show gadd 0 1 = some 1 from rfl, bsome, cmp_Or_int_l1]
    simp only [List.length_cons, List.length_nil]
    rw [if_pos (by simp), show gidx [a, b, c] 1 = some b from rfl, bsome]
    by_cases hb : b ≠ 0
    · rw [if_pos (by simpa using hb), if_pos hb]
    · rw [if_neg (by simpa using hb), if_neg hb, show gadd 1 1 = some 2 from rfl, bsome, cmp_Or_int_l1]
      simp only [List.length_cons, List.length_nil]
      rw [if_pos (by simp), show gidx [a, b, c] 2 = some c from rfl, bsome]
      by_cases hc : c ≠ 0
      · rw [if_pos (by simpa using hc)]
      · rw [if_neg (by simpa using hc), show gadd 2 1 = some 3 from rfl, bsome, cmp_Or_int_l1]
        simp only [List.length_cons, List.length_nil]
        rw [if_neg (by simp)]
        have : c = 0 := Classical.not_not.1 hc
        rw [this]
def cb (a b : List UInt8) : Int := Lib.compareBytes a b
theorem cb_neg : ∀ (a b : List UInt8), cb a b = - cb b a
  | [], [] => rfl
  | [], _ :: _ => rfl
  | _ :: _, [] => rfl
  | x :: a, y :: b => by
    have ih := cb_neg a b
    unfold cb at ih ⊢
    unfold Lib.compareBytes
    by_cases h1 : x < y
    · have h2 : ¬ y < x := fun h => absurd (UInt8.lt_trans h1 h) (UInt8.lt_irrefl _)
      simp [h1, h2]
    · by_cases h2 : y < x
      · simp [h1, h2]
      · simp [h1, h2, ih]
def ci (a b : List UInt8) : Int :=
  if num a = true ∧ num b = true then (if sg a.length b.length ≠ 0 then sg a.length b.length else cb a b)
  else if num a = true then -1 else if num b = true then 1 else cb a b
theorem ci_neg (a b : List UInt8) : ci a b = - ci b a := by
  unfold ci
  rw [sg_neg (a.length : Int) b.length, cb_neg a b]
  by_cases ha : num a = true <;> by_cases hb : num b = true <;> simp [ha, hb]
  split <;> rfl
end Go.Proofs.YtpcmhhbocifbcaaGreatDoor
namespace Go.Proofs.YtpcmhhbocifbcaaGreatDoor
open Go.PW Go
def run {α S R : Type} (f : S → Nat → α → R ⊕ S) (fin : S → R) : S → Nat → List α → R
  | s, _, [] => fin s
  | s, i, x :: l => match f s i x with
    | .inl r => r
    | .inr s' => run f fin s' (i + 1) l
def nxt {R S : Type} (k : S → Option R) : R ⊕ S → Option R
  | .inl r => some r
  | .inr s' => k s'
theorem nxt_l {R S : Type} (k : S → Option R) (r : R) : nxt k (.inl r) = some r := rfl
theorem nxt_r {R S : Type} (k : S → Option R) (s : S) : nxt k (.inr s) = k s := rfl
theorem loop_eq {α S R : Type} {l : List α} {L : Nat → S → Int → Option R} (f : S → Nat → α → R ⊕ S) (fin : S → R) (I : S → Nat → Prop)
    (hstep : ∀ m s (i : Nat) x, I s i → i < l.length → l[i]? = some x → L (m + 1) s i = nxt (fun s' => L m s' ((i + 1 : Nat) : Int)) (f s i x))
    (hI : ∀ s i x s', I s i → l[i]? = some x → f s i x = .inr s' → I s' (i + 1))
    (hend : ∀ m s, I s l.length → L (m + 1) s (l.length : Int) = some (fin s)) :
    ∀ m s (i : Nat), I s i → i ≤ l.length → l.length - i < m → L m s i = some (run f fin s i (l.drop i)) := by
  intro m
  induction m with
  | zero => intro s i _ _ h; omega
  | succ m ih =>
    intro s i hi hl hm
    by_cases h : i = l.length
    · subst h
      rw [hend m s hi, List.drop_length]
      rfl
    · have hlt : i < l.length := by omega
      rw [hstep m s i l[i] hi hlt (List.getElem?_eq_getElem hlt), List.drop_eq_getElem_cons hlt]
      unfold run
      cases hf : f s i l[i] with
      | inl r => rfl
      | inr s' =>
        rw [nxt_r]
        exact ih s' (i + 1) (hI s i _ s' hi (List.getElem?_eq_getElem hlt) hf) (by omega) (by omega)
theorem loop_ex {R : Type} {L : Nat → Int → Option R} (B : Nat) (Q : R → Prop)
    (hstep : ∀ m (i : Nat), i < B → (∃ b, L m ((i + 1 : Nat) : Int) = some b ∧ Q b) → ∃ b, L (m + 1) i = some b ∧ Q b)
    (hend : ∀ m, ∃ b, L (m + 1) (B : Int) = some b ∧ Q b) :
    ∀ m (i : Nat), i ≤ B → B - i < m → ∃ b, L m i = some b ∧ Q b := by
  intro m
  induction m with
  | zero => intro i _ h; omega
  | succ m ih =>
    intro i h hm
    by_cases hb : i = B
    · subst hb; exact hend m
    · exact hstep m i (by omega) (ih (i + 1) (by omega) (by omega))
theorem run_pred {α S R : Type} {f : S → Nat → α → R ⊕ S} {fin : S → R} (Q : R → Prop) (hinl : ∀ s i x r, f s i x = .inl r → Q r) (hfin : ∀ s, Q (fin s)) : ∀ l s i, Q (run f fin s i l)
  | [], s, _ => hfin s
  | x :: l, s, i => by
    unfold run
    cases hf : f s i x with
    | inl r => exact hinl s i x r hf
    | inr s' => exact run_pred Q hinl hfin l s' (i + 1)
theorem run_all {α S R : Type} {f : S → Nat → α → R ⊕ S} {fin : S → R} (Q : R → Prop) (P : α → Prop) (hinl : ∀ s i x r, f s i x = .inl r → ¬ Q r) (hP : ∀ s i x s', f s i x = .inr s' → P x) : ∀ l s i, Q (run f fin s i l) → ∀ x ∈ l, P x
  | [], _, _, _, x, hx => by cases hx
  | x :: l, s, i, h, y, hy => by
    unfold run at h
    cases hf : f s i x with
    | inl r => rw [hf] at h; exact absurd h (hinl s i x r hf)
    | inr s' =>
      rw [hf] at h
      cases hy with
      | head => exact hP s i x s' hf
      | tail _ hy => exact run_all Q P hinl hP l s' (i + 1) h y hy
theorem get_lt {α : Type} {l : List α} {i : Nat} {x : α} (h : l[i]? = some x) : i < l.length := (List.getElem?_eq_some_iff.1 h).1
theorem get_mem {α : Type} {l : List α} {i : Nat} {x : α} (h : l[i]? = some x) : x ∈ l := List.mem_of_getElem? h
def vfault (v : SMajorMinorPatchPre) : SCodeIndex :=
  if 0 ≤ v.Major ∧ v.Major ≤ 1000000000 then
    if 0 ≤ v.Minor ∧ v.Minor ≤ 1000000000 then
      if 0 ≤ v.Patch ∧ v.Patch ≤ 1000000000 then
        if 4 < v.Pre.length then ⟨2, -1⟩ else run (S := Unit) (fun _ i x => if ident x = true then .inr () else .inl ⟨5, i⟩) (fun _ => ⟨0, 0⟩) () 0 v.Pre
      else ⟨3, 2⟩
    else ⟨3, 1⟩
  else ⟨3, 0⟩
theorem ifnot {α : Type} (p : Prop) [Decidable p] (a b : α) : (if (!decide p) = true then a else b) = if p then b else a := by
  by_cases h : p <;> simp [h]
theorem ifdec {α : Type} (p : Prop) [Decidable p] (a b : α) : (if decide p = true then a else b) = if p then a else b := by
  by_cases h : p <;> simp [h]
def okv (v : SMajorMinorPatchPre) : Prop := (vfault v).Code = 0
theorem vpre_l2 {n : Nat} (hn : 1000 < n) (v : SMajorMinorPatchPre) (hl : v.Pre.length ≤ 4) : version_Validate_l2 n v n 0 = some (run (S := Unit) (fun _ i x => if ident x = true then .inr () else .inl ⟨5, i⟩) (fun _ => ⟨0, 0⟩) () 0 v.Pre) := by
  refine loop_eq (l := v.Pre) (L := fun m _ i => version_Validate_l2 n v m i) _ _ (fun _ _ => True) ?_ (fun _ _ _ _ _ _ _ => trivial) ?_ n () 0 trivial (by omega) (by omega)
  · intro m s i x _ hi hx
    show version_Validate_l2 n v (m + 1) i = _
    simp only [version_Validate_l2]
    rw [if_pos (by rw [decide_eq_true_eq]; omega), gidx_nat, hx, bsome, identifier_eq hn, bsome]
    cases ident x with
    | true => rw [if_neg (by simp), gadd_nat (by omega), bsome, if_pos rfl, nxt_r]
    | false => rw [if_pos (by simp), if_neg (by simp), nxt_l]
  · intro m s _
    show version_Validate_l2 n v (m + 1) _ = _
    simp only [version_Validate_l2]
    rw [if_neg (by rw [decide_eq_true_eq]; omega)]
theorem vfault_l1 {n : Nat} (hn : 1000 < n) (v : SMajorMinorPatchPre) (hl : v.Pre.length ≤ 4) : ref5_VersionFault_l1 n v n 0 = some (run (S := Unit) (fun _ i x => if ident x = true then .inr () else .inl ⟨5, i⟩) (fun _ => ⟨0, 0⟩) () 0 v.Pre) := by
  refine loop_eq (l := v.Pre) (L := fun m _ i => ref5_VersionFault_l1 n v m i) _ _ (fun _ _ => True) ?_ (fun _ _ _ _ _ _ _ => trivial) ?_ n () 0 trivial (by omega) (by omega)
  · intro m s i x _ hi hx
    show ref5_VersionFault_l1 n v (m + 1) i = _
    simp only [ref5_VersionFault_l1]
    rw [if_pos (by rw [decide_eq_true_eq]; omega), gidx_nat, hx, bsome, ridentifier_eq hn, bsome]
    cases ident x with
    | true => rw [if_neg (by simp), gadd_nat (by omega), bsome, if_pos rfl, nxt_r]
    | false =>
      rw [if_pos (by simp), if_neg (by simp), nxt_l]
      unfold ref5_fault
      rw [bsome]
  · intro m s _
    show ref5_VersionFault_l1 n v (m + 1) _ = _
    simp only [ref5_VersionFault_l1]
    rw [if_neg (by rw [decide_eq_true_eq]; omega)]
theorem rvfault_eq {n : Nat} (hn : 1000 < n) (v : SMajorMinorPatchPre) : ref5_VersionFault n v = some (vfault v) := by
  unfold ref5_VersionFault vfault ref5_fault
  simp only [ref_in5, bsome, ifnot, ifdec]
  by_cases h1 : 0 ≤ v.Major ∧ v.Major ≤ 1000000000
  · rw [if_pos h1, if_pos h1]
    by_cases h2 : 0 ≤ v.Minor ∧ v.Minor ≤ 1000000000
    · rw [if_pos h2, if_pos h2]
      by_cases h3 : 0 ≤ v.Patch ∧ v.Patch ≤ 1000000000
      · rw [if_pos h3, if_pos h3]
        by_cases h4 : 4 < v.Pre.length
        · rw [if_pos (by omega), if_pos h4]
        · rw [if_neg (by omega), if_neg h4]
          exact vfault_l1 hn v (by omega)
      · rw [if_neg h3, if_neg h3]
    · rw [if_neg h2, if_neg h2]
  · rw [if_neg h1, if_neg h1]
theorem validate_l1 {n : Nat} (v : SMajorMinorPatchPre) (m : Nat) (i : Nat) (hi : i < 3) :
    version_Validate_l1 n v (m + 1) i = if 0 ≤ (if i = 0 then v.Major else if i = 1 then v.Minor else v.Patch) ∧ (if i = 0 then v.Major else if i = 1 then v.Minor else v.Patch) ≤ 1000000000 then version_Validate_l1 n v m ((i + 1 : Nat) : Int) else some ⟨3, i⟩ := by
  simp only [version_Validate_l1]
  rw [if_pos (by rw [decide_eq_true_eq]; omega), show garr 3 (i : Int) = some (i : Int) from if_pos (by omega), bsome]
  have e : (if (i : Int) = 0 then v.Major else (if (i : Int) = 1 then v.Minor else v.Patch)) = (if i = 0 then v.Major else if i = 1 then v.Minor else v.Patch) := by
    rcases (show i = 0 ∨ i = 1 ∨ i = 2 by omega) with h | h | h <;> subst h <;> simp
  rw [e]
  generalize (if i = 0 then v.Major else if i = 1 then v.Minor else v.Patch) = y
  unfold version_Validate_j1
  rw [gadd_nat (by omega), bsome]
  by_cases h1 : y < 0
  · rw [decide_eq_true h1, if_pos rfl, if_pos rfl, if_neg (by omega)]
  · rw [decide_eq_false h1, if_neg (by simp)]
    by_cases h2 : 1000000000 < y
    · rw [decide_eq_true h2, if_pos rfl, if_neg (by omega)]
    · rw [decide_eq_false h2, if_neg (by simp), if_pos (by omega)]
theorem validate_eq {n : Nat} (hn : 1000 < n) (v : SMajorMinorPatchPre) : version_Validate n v = some (vfault v) := by
  unfold version_Validate vfault
  obtain ⟨k, hk⟩ : ∃ k, n = k + 4 := ⟨n - 4, by omega⟩
  have e : version_Validate_l1 n v n 0 = version_Validate_l1 n v (k + 3 + 1) ((0 : Nat) : Int) := by rw [show k + 3 + 1 = n by omega]; rfl
  rw [e, validate_l1 v (k + 3) 0 (by omega)]
  simp only [if_pos]
  by_cases h1 : 0 ≤ v.Major ∧ v.Major ≤ 1000000000
  · rw [if_pos h1, if_pos h1, validate_l1 v (k + 2) 1 (by omega)]
    simp only [if_pos, Nat.one_ne_zero, if_false]
    by_cases h2 : 0 ≤ v.Minor ∧ v.Minor ≤ 1000000000
    · rw [if_pos h2, if_pos h2, validate_l1 v (k + 1) 2 (by omega)]
      simp only [if_pos, show ¬ (1 + 1 = 0) by omega, show ¬ (1 + 1 = 1) by omega, if_false]
      by_cases h3 : 0 ≤ v.Patch ∧ v.Patch ≤ 1000000000
      · rw [if_pos h3, if_pos h3]
        simp only [version_Validate_l1]
        rw [if_neg (by simp)]
        by_cases h4 : 4 < v.Pre.length
        · rw [if_pos (by rw [decide_eq_true_eq]; omega), if_pos h4]
        · rw [if_neg (by rw [decide_eq_true_eq]; omega), if_neg h4]
          exact vpre_l2 hn v (by omega)
      · rw [if_neg h3, if_neg h3]
        rfl
    · rw [if_neg h2, if_neg h2]
      rfl
  · rw [if_neg h1, if_neg h1]
    rfl
theorem vfault_zero {v : SMajorMinorPatchPre} (h : (vfault v).Code = 0) : vfault v = ⟨0, 0⟩ := by
  have : (vfault v).Code = 0 → vfault v = ⟨0, 0⟩ := by
    unfold vfault
    by_cases h1 : 0 ≤ v.Major ∧ v.Major ≤ 1000000000
    case neg => rw [if_neg h1]; intro h; cases h
    by_cases h2 : 0 ≤ v.Minor ∧ v.Minor ≤ 1000000000
    case neg => rw [if_pos h1, if_neg h2]; intro h; cases h
    by_cases h3 : 0 ≤ v.Patch ∧ v.Patch ≤ 1000000000
    case neg => rw [if_pos h1, if_pos h2, if_neg h3]; intro h; cases h
    rw [if_pos h1, if_pos h2, if_pos h3]
    split
    · intro h; cases h
    refine run_pred (fun r : SCodeIndex => r.Code = 0 → r = ⟨0, 0⟩) ?_ (fun _ _ => rfl) _ _ _
    intro s i x r hr
    split at hr
    · cases hr
    · injection hr with hr; subst hr; intro h; cases h
  exact this h
theorem okv_pre {v : SMajorMinorPatchPre} (h : okv v) : v.Pre.length ≤ 4 ∧ ∀ x ∈ v.Pre, ident x = true := by
  unfold okv vfault at h
  by_cases h1 : 0 ≤ v.Major ∧ v.Major ≤ 1000000000
  case neg => rw [if_neg h1] at h; cases h
  by_cases h2 : 0 ≤ v.Minor ∧ v.Minor ≤ 1000000000
  case neg => rw [if_pos h1, if_neg h2] at h; cases h
  by_cases h3 : 0 ≤ v.Patch ∧ v.Patch ≤ 1000000000
  case neg => rw [if_pos h1, if_pos h2, if_neg h3] at h; cases h
  rw [if_pos h1, if_pos h2, if_pos h3] at h
  split at h
  · cases h
  refine ⟨by omega, ?_⟩
  refine run_all (fun r : SCodeIndex => r.Code = 0) (fun x => ident x = true) ?_ ?_ _ _ _ h
  · intro s i x r hr
    split at hr
    · cases hr
    · injection hr with hr; subst hr; intro h; cases h
  · intro s i x r hr
    split at hr
    · assumption
    · cases hr
end Go.Proofs.YtpcmhhbocifbcaaGreatDoor
namespace Go.Proofs.YtpcmhhbocifbcaaGreatDoor
open Go.PW Go
theorem okb_of_ident {s : List UInt8} (h : ident s = true) : (1 ≤ s.length ∧ s.length ≤ 8) ∧ s.all okb = true ∧ (num s = true → s.length = 1 ∨ s.head? ≠ some 48) := by
  unfold ident at h
  simp only [Bool.and_eq_true, Bool.or_eq_true, decide_eq_true_eq, Bool.not_eq_true'] at h
  obtain ⟨⟨h1, h2⟩, h3⟩ := h
  refine ⟨h1, h2, fun hn => ?_⟩
  rcases h3 with (h3 | h3) | h3
  · rw [hn] at h3; cases h3
  · exact .inl h3
  · exact .inr h3
theorem ascii_of {s : List UInt8} (h : ident s = true) : ∀ c ∈ s, c.toNat < 128 := fun c hc => okb_ascii (List.all_eq_true.1 (okb_of_ident h).2.1 c hc)
def dv (c : UInt8) : Int := (c.toNat : Int) - 48
def va : Int → List UInt8 → Int
  | p, [] => p
  | p, c :: s => va (10 * p + dv c) s
theorem isd_dv {c : UInt8} (h : isd c = true) : 0 ≤ dv c ∧ dv c ≤ 9 := by
  unfold isd at h
  simp only [Bool.and_eq_true, decide_eq_true_eq] at h
  unfold dv
  omega
theorem num_cons {c : UInt8} {s : List UInt8} (h : num (c :: s) = true) : isd c = true ∧ num s = true := by
  unfold num at h ⊢
  simpa using h
theorem cb_cons (x y : UInt8) (a b : List UInt8) : cb (x :: a) (y :: b) = if x < y then -1 else if y < x then 1 else cb a b := rfl
theorem va_eqlen : ∀ (a b : List UInt8) (p q : Int), a.length = b.length → num a = true → num b = true → sg (va p a) (va q b) = if p = q then cb a b else sg p q
  | [], [], p, q, _, _, _ => by
    show sg p q = if p = q then (0 : Int) else sg p q
    split
    · rename_i h; subst h; unfold sg; simp
    · rfl
  | [], _ :: _, _, _, h, _, _ => by cases h
  | _ :: _, [], _, _, h, _, _ => by cases h
  | x :: a, y :: b, p, q, h, ha, hb => by
    have h1 := isd_dv (num_cons ha).1
    have h2 := isd_dv (num_cons hb).1
    show sg (va (10 * p + dv x) a) (va (10 * q + dv y) b) = _
    rw [va_eqlen a b _ _ (by simpa using h) (num_cons ha).2 (num_cons hb).2]
    by_cases hpq : p = q
    · subst hpq
      rw [if_pos rfl]
      rw [cb_cons]
      by_cases hxy : x = y
      · subst hxy
        rw [if_pos rfl, if_neg (UInt8.lt_irrefl _), if_neg (UInt8.lt_irrefl _)]
      · have hne : x.toNat ≠ y.toNat := fun e => hxy (UInt8.toNat_inj.1 e)
        rw [if_neg (by unfold dv; omega)]
        unfold sg dv
        by_cases hlt : x < y
        · have := UInt8.lt_iff_toNat_lt.1 hlt
          rw [if_pos (by omega), if_pos hlt]
        · have h3 : ¬ x.toNat < y.toNat := fun h => hlt (UInt8.lt_iff_toNat_lt.2 h)
          rw [if_neg (by omega), if_pos (by omega), if_neg hlt, if_pos (UInt8.lt_iff_toNat_lt.2 (by omega))]
    · rw [if_neg hpq, if_neg (by omega)]
      unfold sg
      by_cases hlt : p < q
      · rw [if_pos (by omega), if_pos hlt]
      · rw [if_neg (by omega), if_neg hlt, if_pos (by omega), if_pos (by omega)]
theorem va_short : ∀ (b a : List UInt8) (q : Int), a.length ≤ b.length → 1 ≤ q → num a = true → num b = true → va 0 a < va q b
  | b, a, q, h, hq, ha, hb => by
    by_cases he : a.length = b.length
    · have := va_eqlen a b 0 q he ha hb
      rw [if_neg (by omega)] at this
      unfold sg at this
      rw [if_pos (show (0 : Int) < q by omega)] at this
      split at this
      · assumption
      · split at this <;> omega
    · match b, h, hb, he with
      | [], h, _, he => exact absurd (by simpa using h) he
      | y :: b', h, hb, he =>
        have h2 := isd_dv (num_cons hb).1
        exact va_short b' a (10 * q + dv y) (by simp at h he ⊢; omega) (by omega) ha (num_cons hb).2
theorem val_lt {a b : List UInt8} (ha : num a = true) (hb : num b = true) (hz : b.length = 1 ∨ b.head? ≠ some 48) (h1 : 1 ≤ a.length) (hl : a.length < b.length) : va 0 a < va 0 b := by
  match b, hb, hz, hl with
  | [], _, _, hl => simp at hl
  | y :: b', hb, hz, hl =>
    have hy : 1 ≤ dv y := by
      have h2 := isd_dv (num_cons hb).1
      have hz' : (y :: b').head? ≠ some 48 := by
        rcases hz with hz | hz
        · simp at hl hz
          rw [hz] at hl
          simp at hl
          rw [hl] at h1
          simp at h1
        · exact hz
      have : y.toNat ≠ 48 := fun e => hz' (by rw [List.head?_cons]; congr 1; exact UInt8.toNat_inj.1 e)
      unfold dv at h2 ⊢
      omega
    show va 0 a < va (10 * 0 + dv y) b'
    exact va_short b' a _ (by simp at hl; omega) (by omega) ha (num_cons hb).2
theorem u8sub {c : UInt8} (h : isd c = true) : IntKind.wrap .i64 (ksub .u8 (c.toNat : Int) 48) = dv c := by
  have hd := isd_dv h
  unfold dv at hd ⊢
  unfold ksub
  rw [show IntKind.wrap .u8 ((c.toNat : Int) - 48) = (c.toNat : Int) - 48 from ?_, wrap_i64 (by omega)]
  simp only [IntKind.wrap]
  have : IntKind.u8.bits = 8 := rfl
  have h2 : IntKind.u8.signed = false := rfl
  simp [this, h2]
  omega
theorem value_l1 (n : Nat) (s : List UInt8) (hl : s.length ≤ 8) (hs : num s = true) : ∀ (m i : Nat) (p : Int), i ≤ s.length → s.length - i < m → 0 ≤ p → p < 10 ^ (12 - (8 - i)) → ref5_value_l1 n s m p i = some (va p (s.drop i))
  | 0, i, p, _, h, _, _ => by omega
  | m + 1, i, p, hi, hm, h0, hp => by
    simp only [ref5_value_l1]
    by_cases h : i = s.length
    · rw [if_neg (by rw [decide_eq_true_eq]; omega), h, List.drop_length]
      rfl
    · have hlt : i < s.length := by omega
      have hd0 : isd s[i] = true := List.all_eq_true.1 hs _ (List.getElem_mem hlt)
      have hd := isd_dv hd0
      have hb : p < 10 ^ 12 := Int.lt_of_lt_of_le hp (by exact_mod_cast Nat.pow_le_pow_right (by omega) (by omega))
      have hb' : p < 1000000000000 := hb
      rw [if_pos (by rw [decide_eq_true_eq]; omega), gmulI (by omega), bsome, gidx_nat, List.getElem?_eq_getElem hlt, bsome, u8sub hd0, gaddI (by omega), bsome, gadd_nat (by omega), bsome,
        value_l1 n s hl hs m (i + 1) _ (by omega) (by omega) (by omega) ?_, List.drop_eq_getElem_cons hlt]
      · rfl
      · rw [show 12 - (8 - (i + 1)) = (12 - (8 - i)) + 1 by omega, Int.pow_succ]
        omega
theorem value_eq {n : Nat} (hn : 1000 < n) {s : List UInt8} (hl : s.length ≤ 8) (hs : num s = true) : ref5_value n s = some (va 0 s) := by
  unfold ref5_value
  have := value_l1 n s hl hs n 0 0 (by omega) (by omega) (by omega) (by decide)
  simpa using this
theorem toNat_wrap (c : UInt8) : IntKind.wrap .i64 (c.toNat : Int) = (c.toNat : Int) := wrap_byte c
theorem idbytes_l1 (n : Nat) (a b : List UInt8) (hl : a.length ≤ 8) : ∀ (m i : Nat), i ≤ a.length → i ≤ b.length → a.length - i < m → ref5_identifiers_l1 n a b m i = some (let r := cb (a.drop i) (b.drop i); r)
  | 0, i, _, _, h => by omega
  | m + 1, i, hi, hj, hm => by
    simp only [ref5_identifiers_l1]
    unfold ref5_identifiers_j2
    simp only [sign3_eq, bsome, toNat_wrap]
    by_cases h : i = a.length
    · rw [if_neg (by rw [decide_eq_true_eq]; omega), if_neg (by simp), h, List.drop_length]
      congr 1
      by_cases h2 : a.length = b.length
      · rw [h2, List.drop_length]
        unfold sg cb Lib.compareBytes
        simp
      · have : a.length < b.length := by omega
        rw [List.drop_eq_getElem_cons this]
        unfold sg cb Lib.compareBytes
        rw [if_pos (by omega)]
    · have hlt : i < a.length := by omega
      rw [if_pos (by rw [decide_eq_true_eq]; omega)]
      by_cases h2 : i = b.length
      · rw [if_neg (by rw [decide_eq_true_eq]; omega)]
        congr 1
        rw [List.drop_eq_getElem_cons hlt, show b.drop i = [] by rw [h2, List.drop_length]]
        unfold sg cb Lib.compareBytes
        rw [if_neg (by omega), if_pos (by omega)]
      · have hlb : i < b.length := by omega
        rw [if_pos (by rw [decide_eq_true_eq]; omega), gidx_nat, gidx_nat, List.getElem?_eq_getElem hlt, List.getElem?_eq_getElem hlb]
        simp only [bsome]
        rw [gadd_nat (by omega), bsome, List.drop_eq_getElem_cons hlt, List.drop_eq_getElem_cons hlb]
        show _ = some (cb (a[i] :: a.drop (i + 1)) (b[i] :: b.drop (i + 1)))
        rw [show cb (a[i] :: a.drop (i + 1)) (b[i] :: b.drop (i + 1)) = if a[i] < b[i] then -1 else if b[i] < a[i] then 1 else cb (a.drop (i + 1)) (b.drop (i + 1)) from rfl]
        by_cases he : a[i] = b[i]
        · rw [if_neg (by rw [he]; simp), idbytes_l1 n a b hl m (i + 1) (by omega) (by omega) (by omega), he, if_neg (UInt8.lt_irrefl _), if_neg (UInt8.lt_irrefl _)]
        · have hne : a[i].toNat ≠ b[i].toNat := fun e => he (UInt8.toNat_inj.1 e)
          rw [if_pos (by rw [decide_eq_true_eq]; omega)]
          congr 1
          unfold sg
          by_cases hlt' : a[i] < b[i]
          · have := UInt8.lt_iff_toNat_lt.1 hlt'
            rw [if_pos (by omega), if_pos hlt']
          · have h3 : ¬ a[i].toNat < b[i].toNat := fun h => hlt' (UInt8.lt_iff_toNat_lt.2 h)
            rw [if_neg (by omega), if_pos (by omega), if_neg hlt', if_pos (UInt8.lt_iff_toNat_lt.2 (by omega))]
theorem sg_self (x : Int) : sg x x = 0 := by unfold sg; simp
theorem rids_eq {n : Nat} (hn : 1000 < n) {a b : List UInt8} (ha : ident a = true) (hb : ident b = true) : ref5_identifiers n a b = some (ci a b) := by
  obtain ⟨⟨la, la'⟩, -, za⟩ := okb_of_ident ha
  obtain ⟨⟨lb, lb'⟩, -, zb⟩ := okb_of_ident hb
  unfold ref5_identifiers ref5_identifiers_j1 ci
  rw [rnum_eq hn (by omega) (by omega), rnum_eq hn (by omega) (by omega)]
  simp only [bsome]
  have fin := idbytes_l1 n a b la' n 0 (by omega) (by omega) (by omega)
  simp only [List.drop_zero] at fin
  have fin' : ref5_identifiers_l1 n a b n 0 = some (cb a b) := fin
  cases h1 : num a with
  | false =>
    cases h2 : num b with
    | false => simp [fin']
    | true => simp
  | true =>
    rw [if_pos rfl]
    cases h2 : num b with
    | false => simp
    | true =>
      rw [if_pos rfl, value_eq hn la' h1, value_eq hn lb' h2]
      simp only [bsome, sign3_eq]
      rw [if_pos ⟨trivial, trivial⟩]
      congr 1
      by_cases he : a.length = b.length
      · rw [va_eqlen a b 0 0 he h1 h2, if_pos rfl, he, sg_self, if_neg (by simp)]
      · by_cases hlt : a.length < b.length
        · have := val_lt h1 h2 (zb h2) la hlt
          have e1 : sg (va 0 a) (va 0 b) = -1 := if_pos this
          have e2 : sg (a.length : Int) b.length = -1 := if_pos (by omega)
          rw [e1, e2]
          rfl
        · have := val_lt h2 h1 (za h1) lb (by omega)
          have e1 : sg (va 0 a) (va 0 b) = 1 := by unfold sg; rw [if_neg (by omega), if_pos this]
          have e2 : sg (a.length : Int) b.length = 1 := by unfold sg; rw [if_neg (by omega), if_pos (by omega)]
          rw [e1, e2]
          rfl
end Go.Proofs.YtpcmhhbocifbcaaGreatDoor
namespace Go.Proofs.YtpcmhhbocifbcaaGreatDoor
open Go.PW Go
def po : List (List UInt8) → List (List UInt8) → Int
  | [], [] => 0
  | [], _ :: _ => -1
  | _ :: _, [] => 1
  | x :: a, y :: b => if ci x y ≠ 0 then ci x y else po a b
theorem po_cons (x y : List UInt8) (a b : List (List UInt8)) : po (x :: a) (y :: b) = if ci x y ≠ 0 then ci x y else po a b := rfl
theorem po_neg : ∀ (a b : List (List UInt8)), po a b = - po b a
  | [], [] => rfl
  | [], _ :: _ => rfl
  | _ :: _, [] => rfl
  | x :: a, y :: b => by
    rw [po_cons, po_cons, ci_neg x y, po_neg a b]
    by_cases h : ci y x = 0 <;> simp [h]
theorem po_nil (b : List (List UInt8)) : po [] b = sg 0 b.length := by
  cases b with
  | nil => rfl
  | cons y b =>
    show (-1 : Int) = _
    unfold sg
    rw [if_pos (by simp only [List.length_cons]; omega)]
def vo (a b : SMajorMinorPatchPre) : Int :=
  if sg a.Major b.Major ≠ 0 then sg a.Major b.Major else if sg a.Minor b.Minor ≠ 0 then sg a.Minor b.Minor else if sg a.Patch b.Patch ≠ 0 then sg a.Patch b.Patch
  else if a.Pre.length = 0 ∨ b.Pre.length = 0 then sg b.Pre.length a.Pre.length else po a.Pre b.Pre
theorem vo_neg (a b : SMajorMinorPatchPre) : vo a b = - vo b a := by
  unfold vo
  rw [sg_neg a.Major b.Major, sg_neg a.Minor, sg_neg a.Patch, sg_neg (b.Pre.length : Int), po_neg a.Pre]
  by_cases h1 : sg b.Major a.Major = 0
  · by_cases h2 : sg b.Minor a.Minor = 0
    · by_cases h3 : sg b.Patch a.Patch = 0
      · by_cases h4 : a.Pre.length = 0 ∨ b.Pre.length = 0
        · simp only [h1, h2, h3, if_pos h4, if_pos (Or.comm.1 h4)]; simp
        · simp only [h1, h2, h3, if_neg h4, if_neg (fun h => h4 (Or.comm.1 h))]; simp
      · simp [h1, h2, h3]
    · simp [h1, h2]
  · simp [h1]
theorem order_l1 {n : Nat} (hn : 1000 < n) {a b : SMajorMinorPatchPre} (ha : okv a) (hb : okv b) : ∀ (m i : Nat), i ≤ a.Pre.length → i ≤ b.Pre.length → a.Pre.length - i < m → version_Order_l1 n a b m i = some (po (a.Pre.drop i) (b.Pre.drop i))
  | 0, i, _, _, h => by omega
  | m + 1, i, hi, hj, hm => by
    have hla := (okv_pre ha).1
    simp only [version_Order_l1]
    unfold version_Order_j1
    by_cases h : i = a.Pre.length
    · rw [if_neg (by rw [decide_eq_true_eq]; omega), h, List.drop_length, po_nil, List.length_drop]
      unfold sg
      by_cases h2 : a.Pre.length < b.Pre.length
      · rw [if_pos (by rw [decide_eq_true_eq]; omega), if_pos (by omega)]
      · rw [if_neg (by rw [decide_eq_true_eq]; omega), if_neg (by omega), if_neg (by omega)]
    · have hlt : i < a.Pre.length := by omega
      rw [if_pos (by rw [decide_eq_true_eq]; omega), gidx_nat, List.getElem?_eq_getElem hlt, bsome]
      by_cases h2 : i = b.Pre.length
      · rw [if_pos (by rw [decide_eq_true_eq]; omega), List.drop_eq_getElem_cons hlt, show b.Pre.drop i = [] by rw [h2, List.drop_length]]
        rfl
      · have hlb : i < b.Pre.length := by omega
        have ea := (okv_pre ha).2 _ (List.getElem_mem hlt)
        have eb := (okv_pre hb).2 _ (List.getElem_mem hlb)
        rw [if_neg (by rw [decide_eq_true_eq]; omega), gidx_nat, List.getElem?_eq_getElem hlb, bsome, List.drop_eq_getElem_cons hlt, List.drop_eq_getElem_cons hlb, po_cons, numeric_eq n (ascii_of ea), numeric_eq n (ascii_of eb)]
        simp only [bsome]
        have key : ∀ r, version_Order_j2 n i (version_Order_l1 n a b m) r = some (if r ≠ 0 then r else po (a.Pre.drop (i + 1)) (b.Pre.drop (i + 1))) := by
          intro r
          unfold version_Order_j2 version_Order_j1
          rw [gadd_nat (by omega), bsome, order_l1 hn ha hb m (i + 1) (by omega) (by omega) (by omega), ifdec]
          split <;> rfl
        unfold version_Order_j3 strings_Compare
        simp only [bsome, key, compare_eq, or2_eq (show 10 < n by omega)]
        unfold ci
        rw [show libCompare a.Pre[i] b.Pre[i] = cb a.Pre[i] b.Pre[i] from rfl]
        cases num a.Pre[i] <;> cases num b.Pre[i] <;> simp
theorem rorder_l1 {n : Nat} (hn : 1000 < n) {a b : SMajorMinorPatchPre} (ha : okv a) (hb : okv b) : ∀ (m i : Nat), i ≤ a.Pre.length → i ≤ b.Pre.length → a.Pre.length - i < m → ref5_VersionOrder_l1 n a b m i = some (po (a.Pre.drop i) (b.Pre.drop i))
  | 0, i, _, _, h => by omega
  | m + 1, i, hi, hj, hm => by
    have hla := (okv_pre ha).1
    simp only [ref5_VersionOrder_l1]
    unfold ref5_VersionOrder_j2
    simp only [sign3_eq, bsome]
    by_cases h : i = a.Pre.length
    · rw [if_neg (by rw [decide_eq_true_eq]; omega), if_neg (by simp), h, List.drop_length, po_nil, List.length_drop]
      unfold sg
      by_cases h2 : a.Pre.length < b.Pre.length
      · rw [if_pos (by omega), if_pos (by omega)]
      · rw [if_neg (by omega), if_neg (by omega), if_neg (by omega), if_neg (by omega)]
    · have hlt : i < a.Pre.length := by omega
      rw [if_pos (by rw [decide_eq_true_eq]; omega)]
      by_cases h2 : i = b.Pre.length
      · rw [if_neg (by rw [decide_eq_true_eq]; omega), List.drop_eq_getElem_cons hlt, show b.Pre.drop i = [] by rw [h2, List.drop_length]]
        unfold sg
        rw [if_neg (by omega), if_pos (by omega)]
        rfl
      · have hlb : i < b.Pre.length := by omega
        have ea := (okv_pre ha).2 _ (List.getElem_mem hlt)
        have eb := (okv_pre hb).2 _ (List.getElem_mem hlb)
        rw [if_pos (by rw [decide_eq_true_eq]; omega), gidx_nat, gidx_nat, List.getElem?_eq_getElem hlt, List.getElem?_eq_getElem hlb, bsome, bsome, List.drop_eq_getElem_cons hlt, List.drop_eq_getElem_cons hlb, po_cons, rids_eq hn ea eb, bsome, gadd_nat (by omega), bsome,
          rorder_l1 hn ha hb m (i + 1) (by omega) (by omega) (by omega), ifdec]
        split <;> rfl
theorem sg_ne {x y : Int} : sg x y ≠ 0 ↔ x ≠ y := by
  unfold sg
  split
  · simp; omega
  · split
    · simp; omega
    · simp; omega
theorem order_eq {n : Nat} (hn : 1000 < n) {a b : SMajorMinorPatchPre} (ha : okv a) (hb : okv b) : version_Order n a b = some (vo a b) := by
  have fin := order_l1 hn ha hb n 0 (by omega) (by omega) (by have := (okv_pre ha).1; omega)
  simp only [List.drop_zero] at fin
  have fin' : version_Order_l1 n a b n 0 = some (po a.Pre b.Pre) := fin
  unfold version_Order vo
  rw [fin']
  simp only [compare_eq, bsome, or3_eq (show 10 < n by omega), ifdec]
  by_cases h1 : sg a.Major b.Major = 0
  · by_cases h2 : sg a.Minor b.Minor = 0
    · by_cases h3 : sg a.Patch b.Patch = 0
      · simp only [h1, h2, h3]
        by_cases h4 : a.Pre.length = 0 <;> by_cases h5 : b.Pre.length = 0
        · simp [h4, h5, sg_self]
          rw [List.length_eq_zero_iff.1 h4, List.length_eq_zero_iff.1 h5]
          rfl
        · simp [h4, h5]
        · simp [h4, h5]
        · simp [h4, h5]
      · simp [h1, h2, h3]
    · simp [h1, h2]
  · simp [h1]
theorem rorder_eq {n : Nat} (hn : 1000 < n) {a b : SMajorMinorPatchPre} (ha : okv a) (hb : okv b) : ref5_VersionOrder n a b = some (vo a b) := by
  have la := (okv_pre ha).1
  have lb := (okv_pre hb).1
  have fin := rorder_l1 hn ha hb n 0 (by omega) (by omega) (by omega)
  simp only [List.drop_zero] at fin
  have fin' : ref5_VersionOrder_l1 n a b n 0 = some (po a.Pre b.Pre) := fin
  have j1 : ∀ c : Bool, c = decide (a.Pre.length = 0 ∨ b.Pre.length = 0) → ref5_VersionOrder_j1 n a b c = some (if a.Pre.length = 0 ∨ b.Pre.length = 0 then sg b.Pre.length a.Pre.length else po a.Pre b.Pre) := by
    intro c hc
    unfold ref5_VersionOrder_j1
    rw [hc, fin', gaddI (by omega)]
    simp only [sign3_eq, bsome, ifdec]
    split
    · have : sg (↑a.Pre.length + ↑b.Pre.length) 0 = if a.Pre.length = 0 ∧ b.Pre.length = 0 then 0 else 1 := by
        unfold sg
        split
        · omega
        · split
          · rw [if_neg (by omega)]
          · rw [if_pos (by omega)]
      rw [this]
      split
      · rename_i h
        rw [h.1, h.2, sg_self]
        rfl
      · rw [show ∀ x, gmul x 1 = gchk (x * 1) from fun _ => rfl]
        have hb : ∀ x y, -1 ≤ sg x y ∧ sg x y ≤ 1 := by
          intro x y; unfold sg; split
          · omega
          · split <;> omega
        have := hb b.Pre.length a.Pre.length
        rw [Int.mul_one, gchk_ok (by omega), bsome]
    · rfl
  unfold ref5_VersionOrder vo
  simp only [sign3_eq, bsome, ifdec]
  by_cases h1 : a.Major ≠ b.Major
  · rw [if_pos h1, if_pos (sg_ne.2 h1)]
  rw [if_neg h1, if_neg (fun h => h1 (sg_ne.1 h))]
  by_cases h2 : a.Minor ≠ b.Minor
  · rw [if_pos h2, if_pos (sg_ne.2 h2)]
  rw [if_neg h2, if_neg (fun h => h2 (sg_ne.1 h))]
  by_cases h3 : a.Patch ≠ b.Patch
  · rw [if_pos h3, if_pos (sg_ne.2 h3)]
  rw [if_neg h3, if_neg (fun h => h3 (sg_ne.1 h))]
  by_cases h4 : a.Pre.length = 0
  · rw [if_pos (by omega)]
    exact j1 _ (by simp [h4])
  · rw [if_neg (by omega)]
    refine j1 _ ?_
    by_cases h5 : b.Pre.length = 0
    · simp [h5]
    · rw [decide_eq_false (show ¬ ((b.Pre.length : Int) = 0) by omega), decide_eq_false (by omega)]
def isz (v : SMajorMinorPatchPre) : Bool := decide (v.Major = 0 ∧ v.Minor = 0 ∧ v.Patch = 0 ∧ v.Pre.length = 0)
theorem zero_eq (n : Nat) (v : SMajorMinorPatchPre) : version_Zero n v = some (isz v) := by
  unfold version_Zero version_Zero_j1 isz
  simp only [ifdec]
  by_cases h1 : v.Major = 0 <;> by_cases h2 : v.Minor = 0 <;> by_cases h3 : v.Patch = 0 <;> simp [h1, h2, h3]
theorem samezero_eq {n : Nat} (hn : 1000 < n) (v : SMajorMinorPatchPre) : ref5_SameVersion n v (⟨0, 0, 0, ([] : List (List UInt8))⟩ : SMajorMinorPatchPre) = some (isz v) := by
  obtain ⟨k, rfl⟩ : ∃ k, n = k + 1 := ⟨n - 1, by omega⟩
  unfold ref5_SameVersion ref5_SameVersion_j1 isz
  simp only [ref5_SameVersion_l1, ifdec]
  by_cases h1 : v.Major = 0 <;> by_cases h2 : v.Minor = 0 <;> by_cases h3 : v.Patch = 0 <;> by_cases h4 : v.Pre = [] <;> simp [h1, h2, h3, h4]
end Go.Proofs.YtpcmhhbocifbcaaGreatDoor
namespace Go.Proofs.YtpcmhhbocifbcaaGreatDoor
open Go.PW Go
theorem etaV (v : SMajorMinorPatchPre) : (⟨v.Major, v.Minor, v.Patch, v.Pre⟩ : SMajorMinorPatchPre) = v := rfl
theorem etaR (r : SIntervals) : (⟨r.Intervals⟩ : SIntervals) = r := rfl
theorem etaI (r : SLowHighUnbounded) : (⟨r.Low, r.High, r.Unbounded⟩ : SLowHighUnbounded) = r := rfl
theorem beqF (c : SCodeIndex) : ((c.Code == 0 && (c.Index == 0 && true)) != true) = !decide (c = ⟨0, 0⟩) := by
  obtain ⟨a, b⟩ := c
  by_cases h1 : a = 0 <;> by_cases h2 : b = 0 <;> simp [h1, h2]
theorem vfault_iff (v : SMajorMinorPatchPre) : vfault v = ⟨0, 0⟩ ↔ (vfault v).Code = 0 := ⟨fun h => by rw [h], vfault_zero⟩
def icheck (x : SLowHighUnbounded) : Int :=
  if (vfault x.Low).Code = 0 then
    if x.Unbounded = true then (if isz x.High = true then 0 else 5)
    else if (vfault x.High).Code = 0 then (if 0 ≤ vo x.Low x.High then 5 else 0) else (vfault x.High).Code
  else (vfault x.Low).Code
theorem check_eq {n : Nat} (hn : 1000 < n) (x : SLowHighUnbounded) : verrange_check n x = some (icheck x) := by
  unfold verrange_check icheck
  simp only [etaV, validate_eq hn, bsome, beqF, vfault_iff, ifnot, zero_eq]
  by_cases h1 : (vfault x.Low).Code = 0
  · rw [if_pos h1, if_pos h1]
    cases hu : x.Unbounded with
    | true =>
      rw [if_pos rfl, if_pos rfl]
      cases isz x.High <;> rfl
    | false =>
      simp only [Bool.false_eq_true, if_false]
      by_cases h2 : (vfault x.High).Code = 0
      · rw [if_pos h2, if_pos h2, order_eq hn h1 h2, bsome, ifdec]
        split <;> rfl
      · rw [if_neg h2, if_neg h2]
  · rw [if_neg h1, if_neg h1]
def bad (l : List SLowHighUnbounded) (i : Nat) (x : SLowHighUnbounded) : Bool :=
  match i with
  | 0 => false
  | j + 1 => match l[j]? with
    | some e => e.Unbounded || decide (0 ≤ vo e.High x.Low)
    | none => false
theorem bad_succ {l : List SLowHighUnbounded} {j : Nat} {x e : SLowHighUnbounded} (h : l[j]? = some e) : bad l (j + 1) x = (e.Unbounded || decide (0 ≤ vo e.High x.Low)) := by
  show (match l[j]? with | some e => e.Unbounded || decide (0 ≤ vo e.High x.Low) | none => false) = _
  rw [h]
def istep (l : List SLowHighUnbounded) (_ : Unit) (i : Nat) (x : SLowHighUnbounded) : SCodeIndex ⊕ Unit :=
  if icheck x = 0 then (if bad l i x = true then .inl ⟨5, i⟩ else .inr ()) else .inl ⟨icheck x, i⟩
def rfault (r : SIntervals) : SCodeIndex :=
  if 12 < r.Intervals.length then ⟨2, -1⟩ else run (istep r.Intervals) (fun _ => ⟨0, 0⟩) () 0 r.Intervals
theorem okI {x : SLowHighUnbounded} (h : icheck x = 0) : okv x.Low ∧ (x.Unbounded = false → okv x.High) := by
  unfold icheck at h
  by_cases h1 : (vfault x.Low).Code = 0
  · rw [if_pos h1] at h
    refine ⟨h1, fun hu => ?_⟩
    rw [if_neg (by rw [hu]; simp)] at h
    by_cases h2 : (vfault x.High).Code = 0
    · exact h2
    · rw [if_neg h2] at h; exact absurd h h2
  · rw [if_neg h1] at h; exact absurd h h1
theorem istep_r {l : List SLowHighUnbounded} {s : Unit} {i : Nat} {x : SLowHighUnbounded} {s' : Unit} (h : istep l s i x = .inr s') : icheck x = 0 := by
  unfold istep at h
  by_cases h1 : icheck x = 0
  · exact h1
  · rw [if_neg h1] at h; cases h
theorem istep_l {l : List SLowHighUnbounded} {s : Unit} {i : Nat} {x : SLowHighUnbounded} {r : SCodeIndex} (h : istep l s i x = .inl r) : r.Code ≠ 0 := by
  unfold istep at h
  by_cases h1 : icheck x = 0
  · rw [if_pos h1] at h
    split at h
    · injection h with h; subst h; simp
    · cases h
  · rw [if_neg h1] at h
    injection h with h; subst h; exact h1
theorem rfault_zero {r : SIntervals} (h : (rfault r).Code = 0) : rfault r = ⟨0, 0⟩ := by
  have : (rfault r).Code = 0 → rfault r = ⟨0, 0⟩ := by
    unfold rfault
    split
    · intro h; cases h
    exact run_pred (fun r : SCodeIndex => r.Code = 0 → r = ⟨0, 0⟩) (fun _ _ _ _ h h0 => absurd h0 (istep_l h)) (fun _ _ => rfl) _ _ _
  exact this h
theorem rfault_iff (v : SIntervals) : rfault v = ⟨0, 0⟩ ↔ (rfault v).Code = 0 := ⟨fun h => by rw [h], rfault_zero⟩
def okUpto (l : List SLowHighUnbounded) (_ : Unit) (i : Nat) : Prop := ∀ j < i, ∀ y, l[j]? = some y → icheck y = 0
theorem okUpto_next {l : List SLowHighUnbounded} (s : Unit) (i : Nat) (x : SLowHighUnbounded) (s' : Unit) (h : okUpto l s i) (hx : l[i]? = some x) (hf : istep l s i x = .inr s') : okUpto l s' (i + 1) := by
  intro j hj y hy
  by_cases e : j = i
  · subst e; rw [hx] at hy; injection hy with hy; subst hy; exact istep_r hf
  · exact h j (by omega) y hy
theorem rangeValidate_eq {n : Nat} (hn : 1000 < n) (r : SIntervals) : verrange_Validate n r = some (rfault r) := by
  unfold verrange_Validate rfault
  rw [ifdec]
  by_cases hl : 12 < r.Intervals.length
  · rw [if_pos (by omega), if_pos hl]
  rw [if_neg (by omega), if_neg hl]
  refine loop_eq (l := r.Intervals) (L := fun m _ i => verrange_Validate_l1 n r m i) _ _ (okUpto r.Intervals) ?_ okUpto_next ?_ n () 0 (fun j h => by omega) (by omega) (by omega)
  · intro m s i x hok hi hx
    show verrange_Validate_l1 n r (m + 1) i = _
    simp only [verrange_Validate_l1]
    rw [if_pos (by rw [decide_eq_true_eq]; omega), gidx_nat, hx]
    simp only [bsome, etaV, etaI, check_eq hn]
    have j1 : ∀ c : Int, verrange_Validate_j1 n i (verrange_Validate_l1 n r m) c = nxt (fun _ => verrange_Validate_l1 n r m ((i + 1 : Nat) : Int)) (if c = 0 then .inr () else .inl ⟨c, i⟩) := by
      intro c
      unfold verrange_Validate_j1
      rw [ifdec, gadd_nat (by omega), bsome]
      by_cases hc : c = 0
      · rw [if_neg (by simpa using hc), if_pos hc, nxt_r]
      · rw [if_pos hc, if_neg hc, nxt_l]
    rw [ifdec]
    unfold istep
    by_cases hc : icheck x = 0
    · rw [if_pos hc, if_pos hc]
      unfold verrange_Validate_j2 verrange_Validate_j3
      cases i with
      | zero =>
        rw [if_neg (by simp), j1, if_pos hc]
        rfl
      | succ j =>
        rw [if_pos (by rw [decide_eq_true_eq]; omega), gsubI (by omega), bsome, show ((j + 1 : Nat) : Int) - 1 = (j : Int) by omega, gidx_nat, getElem?_lt (show j < r.Intervals.length by omega), bsome]
        have hp := okI (hok j (by omega) _ (getElem?_lt (show j < r.Intervals.length by omega)))
        have hb : bad r.Intervals (j + 1) x = (r.Intervals[j].Unbounded || decide (0 ≤ vo r.Intervals[j].High x.Low)) := bad_succ (getElem?_lt (show j < r.Intervals.length by omega))
        rw [hb]
        cases hu : r.Intervals[j].Unbounded with
        | true => rw [if_pos rfl, if_pos rfl, j1, if_neg (by omega), if_pos (by simp)]
        | false =>
          rw [if_neg (by simp), etaV, order_eq hn (hp.2 hu) (okI hc).1, bsome, Bool.false_or]
          by_cases hv : 0 ≤ vo r.Intervals[j].High x.Low
          · rw [decide_eq_true hv, if_pos rfl, if_pos rfl, j1, if_neg (by omega)]
          · rw [decide_eq_false hv, if_neg (by simp), if_neg (by simp), j1, if_pos hc]
    · rw [if_neg hc, if_neg hc]
      unfold verrange_Validate_j2
      rw [if_neg (by simp), j1, if_neg hc]
  · intro m s _
    show verrange_Validate_l1 n r (m + 1) _ = _
    simp only [verrange_Validate_l1]
    rw [if_neg (by rw [decide_eq_true_eq]; omega)]
theorem rangeFault_eq {n : Nat} (hn : 1000 < n) (r : SIntervals) : ref5_RangeFault n r = some (rfault r) := by
  unfold ref5_RangeFault rfault ref5_fault
  rw [ifdec]
  by_cases hl : 12 < r.Intervals.length
  · rw [if_pos (by omega), if_pos hl, bsome]
  rw [if_neg (by omega), if_neg hl]
  refine loop_eq (l := r.Intervals) (L := fun m _ i => ref5_RangeFault_l1 n r m i) _ _ (okUpto r.Intervals) ?_ okUpto_next ?_ n () 0 (fun j h => by omega) (by omega) (by omega)
  · intro m s i x hok hi hx
    show ref5_RangeFault_l1 n r (m + 1) i = _
    simp only [ref5_RangeFault_l1]
    rw [if_pos (by rw [decide_eq_true_eq]; omega), gidx_nat, hx]
    simp only [bsome, etaV, rvfault_eq hn, samezero_eq hn]
    have j3 : ∀ c : Bool, ref5_RangeFault_j3 n i (ref5_RangeFault_l1 n r m) c = nxt (fun _ => ref5_RangeFault_l1 n r m ((i + 1 : Nat) : Int)) (if c = true then .inl ⟨5, i⟩ else .inr ()) := by
      intro c
      unfold ref5_RangeFault_j3 ref5_fault
      rw [gadd_nat (by omega), bsome, bsome]
      cases c <;> rfl
    have j2 : okv x.Low → ref5_RangeFault_j2 n r i (ref5_RangeFault_l1 n r m) x = nxt (fun _ => ref5_RangeFault_l1 n r m ((i + 1 : Nat) : Int)) (if bad r.Intervals i x = true then .inl ⟨5, i⟩ else .inr ()) := by
      intro hlow
      unfold ref5_RangeFault_j2
      cases i with
      | zero =>
        rw [if_neg (by simp), j3]
        rfl
      | succ j =>
        have hj : j < r.Intervals.length := by omega
        rw [if_pos (by rw [decide_eq_true_eq]; omega), gsubI (by omega), bsome, show ((j + 1 : Nat) : Int) - 1 = (j : Int) by omega, gidx_nat, getElem?_lt hj, bsome]
        have hp := okI (hok j (by omega) _ (getElem?_lt hj))
        have hb : bad r.Intervals (j + 1) x = (r.Intervals[j].Unbounded || decide (0 ≤ vo r.Intervals[j].High x.Low)) := bad_succ (getElem?_lt hj)
        rw [hb]
        cases hu : r.Intervals[j].Unbounded with
        | true =>
          rw [if_pos rfl, j3, if_pos rfl, if_pos (by simp)]
        | false =>
          simp only [bsome]
          rw [if_neg (by simp), gidx_nat, getElem?_lt hj, bsome, etaV, rorder_eq hn (hp.2 hu) hlow, bsome, Bool.false_or, j3]
    unfold istep icheck ref5_fault
    by_cases h1 : (vfault x.Low).Code = 0
    · rw [if_neg (by simp [h1]), if_pos h1]
      unfold ref5_RangeFault_j1 ref5_fault
      simp only [bsome]
      cases hu : x.Unbounded with
      | true =>
        rw [if_pos rfl, if_pos rfl]
        cases hz : isz x.High with
        | false =>
          simp [nxt]
        | true =>
          simp only [Bool.not_true, Bool.false_eq_true, if_false, if_true]
          exact j2 h1
      | false =>
        simp only [Bool.not_false, Bool.false_eq_true, if_false, if_true, etaV, rvfault_eq hn, bsome]
        by_cases h2 : (vfault x.High).Code = 0
        · rw [if_neg (by simp [h2]), rorder_eq hn h1 h2, bsome, ifdec, if_pos h2]
          by_cases hv : 0 ≤ vo x.Low x.High
          · rw [if_pos hv, if_pos hv, if_neg (by simp), nxt_l]
          · rw [if_neg hv, if_neg hv, if_pos rfl, j2 h1]
        · rw [if_pos (by simpa using h2), if_neg h2, if_neg h2, nxt_l]
    · rw [if_pos (by simpa using h1), if_neg h1, if_neg h1, nxt_l, bsome]
  · intro m s _
    show ref5_RangeFault_l1 n r (m + 1) _ = _
    simp only [ref5_RangeFault_l1]
    rw [if_neg (by rw [decide_eq_true_eq]; omega)]
end Go.Proofs.YtpcmhhbocifbcaaGreatDoor
namespace Go.Proofs.YtpcmhhbocifbcaaGreatDoor
open Go.PW Go
theorem run_ok {α R : Type} {f : Unit → Nat → α → R ⊕ Unit} {z : R} : ∀ {l : List α} {i : Nat}, (∀ k x, l[k]? = some x → f () (i + k) x = .inr ()) → run f (fun _ => z) () i l = z
  | [], _, _ => rfl
  | x :: l, i, h => by
    unfold run
    have h0 := h 0 x rfl
    rw [Nat.add_zero] at h0
    rw [h0]
    refine run_ok fun k y hy => ?_
    have := h (k + 1) y hy
    rw [show i + (k + 1) = i + 1 + k by omega] at this
    exact this
theorem run_inv {α R : Type} {f : Unit → Nat → α → R ⊕ Unit} {z : R} (Q : R → Prop) (hinl : ∀ i x r, f () i x = .inl r → ¬ Q r) : ∀ {l : List α} {i : Nat}, Q (run f (fun _ => z) () i l) → ∀ k x, l[k]? = some x → f () (i + k) x = .inr ()
  | [], _, _, k, x, h => by simp at h
  | y :: l, i, hq, k, x, h => by
    unfold run at hq
    cases hf : f () i y with
    | inl r => rw [hf] at hq; exact absurd hq (hinl i y r hf)
    | inr s =>
      rw [hf] at hq
      match k, h with
      | 0, h => injection h with h; subst h; exact hf
      | k + 1, h =>
        have := run_inv Q hinl hq k x h
        rw [show i + (k + 1) = i + 1 + k by omega]
        exact this
def pbad (l : List SPackageRange) (i : Nat) (x : SPackageRange) : Bool :=
  match i with
  | 0 => false
  | j + 1 => match l[j]? with
    | some e => decide (x.Package ≤ e.Package)
    | none => false
theorem pbad_succ {l : List SPackageRange} {j : Nat} {x e : SPackageRange} (h : l[j]? = some e) : pbad l (j + 1) x = decide (x.Package ≤ e.Package) := by
  show (match l[j]? with | some e => decide (x.Package ≤ e.Package) | none => false) = _
  rw [h]
def nstep (np : Int) (l : List SPackageRange) (_ : Unit) (i : Nat) (x : SPackageRange) : Int ⊕ Unit :=
  if 0 ≤ x.Package ∧ x.Package < np then
    if (rfault x.Range).Code = 0 then (if pbad l i x = true then .inl 5 else .inr ()) else .inl (rfault x.Range).Code
  else .inl 3
def ncode (np : Int) (l : List SPackageRange) : Int := if 4 < l.length then 2 else run (nstep np l) (fun _ => 0) () 0 l
theorem needs_eq {n : Nat} (hn : 1000 < n) (np : Int) (l : List SPackageRange) : solver_Needs n l np = some (ncode np l) := by
  unfold solver_Needs ncode
  rw [ifdec]
  by_cases hl : 4 < l.length
  · rw [if_pos (by omega), if_pos hl]
  rw [if_neg (by omega), if_neg hl]
  refine loop_eq (l := l) (L := fun m _ i => solver_Needs_l1 n l np m i) _ _ (fun _ _ => True) ?_ (fun _ _ _ _ _ _ _ => trivial) ?_ n () 0 trivial (by omega) (by omega)
  · intro m s i x _ hi hx
    show solver_Needs_l1 n l np (m + 1) i = _
    simp only [solver_Needs_l1]
    rw [if_pos (by rw [decide_eq_true_eq]; omega), gidx_nat, hx, bsome]
    have j2 : ∀ c : Bool, solver_Needs_j2 n i (solver_Needs_l1 n l np m) c = nxt (fun _ => solver_Needs_l1 n l np m ((i + 1 : Nat) : Int)) (if c = true then .inl 5 else .inr ()) := by
      intro c
      unfold solver_Needs_j2
      rw [gadd_nat (by omega), bsome]
      cases c <;> rfl
    have j1 : ∀ c : Bool, solver_Needs_j1 n l i (solver_Needs_l1 n l np m) x c = nxt (fun _ => solver_Needs_l1 n l np m ((i + 1 : Nat) : Int)) (if c = true then .inl 3 else if (rfault x.Range).Code = 0 then (if pbad l i x = true then .inl 5 else .inr ()) else .inl (rfault x.Range).Code) := by
      intro c
      unfold solver_Needs_j1
      cases c with
      | true => rfl
      | false =>
        simp only [Bool.false_eq_true, if_false]
        rw [etaR, rangeValidate_eq hn, bsome, beqF]
        simp only [ifnot, rfault_iff]
        by_cases h1 : (rfault x.Range).Code = 0
        · rw [if_pos h1, if_pos h1]
          cases i with
          | zero =>
            rw [if_neg (by simp), j2]
            rfl
          | succ j =>
            have hj : j < l.length := by omega
            rw [if_pos (by rw [decide_eq_true_eq]; omega), gsubI (by omega), bsome, show ((j + 1 : Nat) : Int) - 1 = (j : Int) by omega, gidx_nat, getElem?_lt hj, bsome, j2, pbad_succ (getElem?_lt hj)]
        · rw [if_neg h1, if_neg h1, nxt_l]
    unfold nstep
    rw [j1, j1, ifdec, if_pos rfl]
    by_cases h0 : x.Package < 0
    · rw [if_pos h0, if_neg (by omega)]
    · rw [if_neg h0]
      by_cases h1 : np ≤ x.Package
      · rw [decide_eq_true h1, if_pos rfl, if_neg (by omega)]
      · rw [decide_eq_false h1, if_neg (by simp), if_pos (show 0 ≤ x.Package ∧ x.Package < np by omega)]
  · intro m s _
    show solver_Needs_l1 n l np (m + 1) _ = _
    simp only [solver_Needs_l1]
    rw [if_neg (by rw [decide_eq_true_eq]; omega)]
theorem rneeds_eq {n : Nat} (hn : 1000 < n) {np : Int} (hp : 0 ≤ np ∧ np ≤ 1000) (l : List SPackageRange) : ref5_NeedsCode n np l = some (ncode np l) := by
  unfold ref5_NeedsCode ncode
  rw [ifdec]
  by_cases hl : 4 < l.length
  · rw [if_pos (by omega), if_pos hl]
  rw [if_neg (by omega), if_neg hl]
  refine loop_eq (l := l) (L := fun m _ i => ref5_NeedsCode_l1 n np l m i) _ _ (fun _ _ => True) ?_ (fun _ _ _ _ _ _ _ => trivial) ?_ n () 0 trivial (by omega) (by omega)
  · intro m s i x _ hi hx
    show ref5_NeedsCode_l1 n np l (m + 1) i = _
    simp only [ref5_NeedsCode_l1]
    rw [if_pos (by rw [decide_eq_true_eq]; omega), gidx_nat, hx, bsome, gsubI (by omega), bsome, ref_in5, bsome, etaR, rangeFault_eq hn, bsome]
    have j1 : ∀ c : Bool, ref5_NeedsCode_j1 n i (ref5_NeedsCode_l1 n np l m) c = nxt (fun _ => ref5_NeedsCode_l1 n np l m ((i + 1 : Nat) : Int)) (if c = true then .inl 5 else .inr ()) := by
      intro c
      unfold ref5_NeedsCode_j1
      rw [gadd_nat (by omega), bsome]
      cases c <;> rfl
    unfold nstep
    rw [ifnot, ifdec]
    by_cases h0 : 0 ≤ x.Package ∧ x.Package < np
    · rw [if_pos (by omega), if_pos h0]
      by_cases h1 : (rfault x.Range).Code = 0
      · rw [if_neg (by simp [h1]), if_pos h1]
        cases i with
        | zero =>
          rw [if_neg (by simp), j1]
          rfl
        | succ j =>
          have hj : j < l.length := by omega
          rw [if_pos (by rw [decide_eq_true_eq]; omega), gsubI (by omega), bsome, show ((j + 1 : Nat) : Int) - 1 = (j : Int) by omega, gidx_nat, getElem?_lt hj, bsome, j1, pbad_succ (getElem?_lt hj)]
      · rw [if_pos h1, if_neg h1, nxt_l]
    · rw [if_neg (by omega), if_neg h0, nxt_l]
  · intro m s _
    show ref5_NeedsCode_l1 n np l (m + 1) _ = _
    simp only [ref5_NeedsCode_l1]
    rw [if_neg (by rw [decide_eq_true_eq]; omega)]
def vbad (l : List SVersionNeeds) (i : Nat) (x : SVersionNeeds) : Bool :=
  match i with
  | 0 => false
  | j + 1 => match l[j]? with
    | some e => decide (vo x.Version e.Version ≤ 0)
    | none => false
theorem vbad_succ {l : List SVersionNeeds} {j : Nat} {x e : SVersionNeeds} (h : l[j]? = some e) : vbad l (j + 1) x = decide (vo x.Version e.Version ≤ 0) := by
  show (match l[j]? with | some e => decide (vo x.Version e.Version ≤ 0) | none => false) = _
  rw [h]
def rstep (np : Int) (l : List SVersionNeeds) (_ : Unit) (i : Nat) (x : SVersionNeeds) : Int ⊕ Unit :=
  if (vfault x.Version).Code = 0 then
    if vbad l i x = true then .inl 5 else if ncode np x.Needs = 0 then .inr () else .inl (ncode np x.Needs)
  else .inl (vfault x.Version).Code
def rcode (np : Int) (l : List SVersionNeeds) : Int := if 4 < l.length then 2 else run (rstep np l) (fun _ => 0) () 0 l
theorem rstep_l {np : Int} {l : List SVersionNeeds} {i : Nat} {x : SVersionNeeds} {r : Int} (h : rstep np l () i x = .inl r) : ¬ r = 0 := by
  unfold rstep at h
  split at h
  · split at h
    · injection h with h; omega
    · split at h
      · cases h
      · injection h with h; omega
  · injection h with h; omega
theorem rstep_r {np : Int} {l : List SVersionNeeds} {i : Nat} {x : SVersionNeeds} : rstep np l () i x = .inr () ↔ okv x.Version ∧ ncode np x.Needs = 0 ∧ vbad l i x = false := by
  unfold rstep okv
  by_cases h1 : (vfault x.Version).Code = 0
  · rw [if_pos h1]
    by_cases h2 : ncode np x.Needs = 0
    · cases vbad l i x <;> simp [h1, h2]
    · cases vbad l i x <;> simp [h2]
  · rw [if_neg h1]; simp [h1]
def okUptoV (l : List SVersionNeeds) (_ : Unit) (i : Nat) : Prop := ∀ j < i, ∀ y, l[j]? = some y → okv y.Version
theorem okUptoV_next {np : Int} {l : List SVersionNeeds} (s : Unit) (i : Nat) (x : SVersionNeeds) (s' : Unit) (h : okUptoV l s i) (hx : l[i]? = some x) (hf : rstep np l s i x = .inr s') : okUptoV l s' (i + 1) := by
  intro j hj y hy
  by_cases e : j = i
  · subst e; rw [hx] at hy; injection hy with hy; subst hy; exact (rstep_r.1 hf).1
  · exact h j (by omega) y hy
theorem releases_eq {n : Nat} (hn : 1000 < n) (np : Int) (l : List SVersionNeeds) : solver_releases n l np = some (rcode np l) := by
  unfold solver_releases rcode
  rw [ifdec]
  by_cases hl : 4 < l.length
  · rw [if_pos (by omega), if_pos hl]
  rw [if_neg (by omega), if_neg hl]
  refine loop_eq (l := l) (L := fun m _ i => solver_releases_l1 n l np m i) _ _ (okUptoV l) ?_ okUptoV_next ?_ n () 0 (fun j h => by omega) (by omega) (by omega)
  · intro m s i x hok hi hx
    show solver_releases_l1 n l np (m + 1) i = _
    simp only [solver_releases_l1]
    rw [if_pos (by rw [decide_eq_true_eq]; omega), gidx_nat, hx]
    simp only [bsome, etaV, validate_eq hn, beqF, vfault_iff, ifnot]
    have j1 : ∀ c : Bool, solver_releases_j1 n np i (solver_releases_l1 n l np m) x c = nxt (fun _ => solver_releases_l1 n l np m ((i + 1 : Nat) : Int)) (if c = true then .inl 5 else if ncode np x.Needs = 0 then .inr () else .inl (ncode np x.Needs)) := by
      intro c
      unfold solver_releases_j1
      rw [gadd_nat (by omega), bsome, needs_eq hn, bsome]
      cases c with
      | true => rfl
      | false =>
        simp only [Bool.false_eq_true, if_false]
        rw [ifdec]
        by_cases h : ncode np x.Needs = 0
        · rw [if_neg (fun e => e h), if_pos h, nxt_r]
        · rw [if_pos h, if_neg h, nxt_l]
    unfold rstep
    by_cases h1 : (vfault x.Version).Code = 0
    · rw [if_pos h1, if_pos h1]
      cases i with
      | zero =>
        rw [if_neg (by simp), j1]
        rfl
      | succ j =>
        have hj : j < l.length := by omega
        rw [if_pos (by rw [decide_eq_true_eq]; omega), gsubI (by omega), bsome, show ((j + 1 : Nat) : Int) - 1 = (j : Int) by omega, gidx_nat, getElem?_lt hj, bsome, order_eq hn h1 (hok j (by omega) _ (getElem?_lt hj)), bsome, j1, vbad_succ (getElem?_lt hj)]
    · rw [if_neg h1, if_neg h1, nxt_l]
  · intro m s _
    show solver_releases_l1 n l np (m + 1) _ = _
    simp only [solver_releases_l1]
    rw [if_neg (by rw [decide_eq_true_eq]; omega)]
theorem rreleases_eq {n : Nat} (hn : 1000 < n) {np : Int} (hp : 0 ≤ np ∧ np ≤ 1000) (l : List SVersionNeeds) : ref5_ReleasesCode n np l = some (rcode np l) := by
  unfold ref5_ReleasesCode rcode
  rw [ifdec]
  by_cases hl : 4 < l.length
  · rw [if_pos (by omega), if_pos hl]
  rw [if_neg (by omega), if_neg hl]
  refine loop_eq (l := l) (L := fun m _ i => ref5_ReleasesCode_l1 n np l m i) _ _ (okUptoV l) ?_ okUptoV_next ?_ n () 0 (fun j h => by omega) (by omega) (by omega)
  · intro m s i x hok hi hx
    show ref5_ReleasesCode_l1 n np l (m + 1) i = _
    simp only [ref5_ReleasesCode_l1]
    rw [if_pos (by rw [decide_eq_true_eq]; omega), gidx_nat, hx]
    simp only [bsome, etaV, rvfault_eq hn]
    have j1 : ∀ c : Bool, ref5_ReleasesCode_j1 n np i (ref5_ReleasesCode_l1 n np l m) x c = nxt (fun _ => ref5_ReleasesCode_l1 n np l m ((i + 1 : Nat) : Int)) (if c = true then .inl 5 else if ncode np x.Needs = 0 then .inr () else .inl (ncode np x.Needs)) := by
      intro c
      unfold ref5_ReleasesCode_j1
      rw [gadd_nat (by omega), bsome, rneeds_eq hn hp, bsome]
      cases c with
      | true => rfl
      | false =>
        simp only [Bool.false_eq_true, if_false]
        rw [ifdec]
        by_cases h : ncode np x.Needs = 0
        · rw [if_neg (fun e => e h), if_pos h, nxt_r]
        · rw [if_pos h, if_neg h, nxt_l]
    unfold rstep
    rw [ifdec]
    by_cases h1 : (vfault x.Version).Code = 0
    · rw [if_neg (fun e => e h1), if_pos h1]
      cases i with
      | zero =>
        rw [if_neg (by simp), j1]
        rfl
      | succ j =>
        have hj : j < l.length := by omega
        rw [if_pos (by rw [decide_eq_true_eq]; omega), gsubI (by omega), bsome, show ((j + 1 : Nat) : Int) - 1 = (j : Int) by omega, gidx_nat, getElem?_lt hj, bsome, rorder_eq hn (hok j (by omega) _ (getElem?_lt hj)) h1, bsome, j1, vbad_succ (getElem?_lt hj), vo_neg x.Version]
        have : decide (0 ≤ vo l[j].Version x.Version) = decide (-vo l[j].Version x.Version ≤ 0) := by
          by_cases h : 0 ≤ vo l[j].Version x.Version
          · rw [decide_eq_true h, decide_eq_true (by omega)]
          · rw [decide_eq_false h, decide_eq_false (by omega)]
        rw [this]
    · rw [if_pos h1, if_neg h1, nxt_l]
  · intro m s _
    show ref5_ReleasesCode_l1 n np l (m + 1) _ = _
    simp only [ref5_ReleasesCode_l1]
    rw [if_neg (by rw [decide_eq_true_eq]; omega)]
theorem rcode_iff {np : Int} {l : List SVersionNeeds} : rcode np l = 0 ↔ l.length ≤ 4 ∧ ∀ k x, l[k]? = some x → okv x.Version ∧ ncode np x.Needs = 0 ∧ vbad l k x = false := by
  constructor
  · intro h
    unfold rcode at h
    by_cases hl : 4 < l.length
    · rw [if_pos hl] at h; cases h
    rw [if_neg hl] at h
    refine ⟨by omega, fun k x hx => ?_⟩
    have := run_inv (fun r => r = 0) (fun _ _ _ h => rstep_l h) h k x hx
    rw [Nat.zero_add] at this
    exact rstep_r.1 this
  · rintro ⟨h1, h2⟩
    unfold rcode
    rw [if_neg (by omega)]
    refine run_ok fun k x hx => ?_
    rw [Nat.zero_add]
    exact rstep_r.2 (h2 k x hx)
def ustep (np : Int) (_ : Unit) (i : Nat) (x : List SVersionNeeds) : SCodeIndex ⊕ Unit := if rcode np x = 0 then .inr () else .inl ⟨rcode np x, i⟩
def ufault (u : SPackages) : SCodeIndex := if 6 < u.Packages.length then ⟨2, -1⟩ else run (ustep u.Packages.length) (fun _ => ⟨0, 0⟩) () 0 u.Packages
theorem ustep_l {np : Int} {i : Nat} {x : List SVersionNeeds} {r : SCodeIndex} (h : ustep np () i x = .inl r) : ¬ r.Code = 0 := by
  unfold ustep at h
  split at h
  · cases h
  · injection h with h; subst h; assumption
theorem ufault_iff (u : SPackages) : ufault u = ⟨0, 0⟩ ↔ (ufault u).Code = 0 := by
  refine ⟨fun h => by rw [h], fun h => ?_⟩
  have : (ufault u).Code = 0 → ufault u = ⟨0, 0⟩ := by
    unfold ufault
    split
    · intro h; cases h
    exact run_pred (fun r : SCodeIndex => r.Code = 0 → r = ⟨0, 0⟩) (fun _ _ _ _ h h0 => absurd h0 (ustep_l h)) (fun _ _ => rfl) _ _ _
  exact this h
theorem uvalidate_eq {n : Nat} (hn : 1000 < n) (u : SPackages) : solver_Validate n u = some (ufault u) := by
  unfold solver_Validate ufault
  rw [ifdec]
  by_cases hl : 6 < u.Packages.length
  · rw [if_pos (by omega), if_pos hl]
  rw [if_neg (by omega), if_neg hl]
  refine loop_eq (l := u.Packages) (L := fun m _ i => solver_Validate_l1 n u m i) _ _ (fun _ _ => True) ?_ (fun _ _ _ _ _ _ _ => trivial) ?_ n () 0 trivial (by omega) (by omega)
  · intro m s i x _ hi hx
    show solver_Validate_l1 n u (m + 1) i = _
    simp only [solver_Validate_l1]
    rw [if_pos (by rw [decide_eq_true_eq]; omega), gidx_nat, hx, bsome, releases_eq hn, bsome, gadd_nat (by omega), bsome, ifdec]
    unfold ustep
    by_cases h : rcode u.Packages.length x = 0
    · rw [if_neg (fun e => e h), if_pos h, nxt_r]
    · rw [if_pos h, if_neg h, nxt_l]
  · intro m s _
    show solver_Validate_l1 n u (m + 1) _ = _
    simp only [solver_Validate_l1]
    rw [if_neg (by rw [decide_eq_true_eq]; omega)]
theorem ruvalidate_eq {n : Nat} (hn : 1000 < n) (u : SPackages) : ref5_UniverseFault n u = some (ufault u) := by
  unfold ref5_UniverseFault ufault ref5_fault
  rw [ifdec]
  by_cases hl : 6 < u.Packages.length
  · rw [if_pos (by omega), if_pos hl, bsome]
  rw [if_neg (by omega), if_neg hl]
  refine loop_eq (l := u.Packages) (L := fun m _ i => ref5_UniverseFault_l1 n u m i) _ _ (fun _ _ => True) ?_ (fun _ _ _ _ _ _ _ => trivial) ?_ n () 0 trivial (by omega) (by omega)
  · intro m s i x _ hi hx
    show ref5_UniverseFault_l1 n u (m + 1) i = _
    simp only [ref5_UniverseFault_l1]
    unfold ref5_fault
    rw [if_pos (by rw [decide_eq_true_eq]; omega), gidx_nat, hx, bsome, rreleases_eq hn (by omega), bsome, gadd_nat (by omega), bsome, ifdec, bsome]
    unfold ustep
    by_cases h : rcode u.Packages.length x = 0
    · rw [if_neg (fun e => e h), if_pos h, nxt_r]
    · rw [if_pos h, if_neg h, nxt_l]
  · intro m s _
    show ref5_UniverseFault_l1 n u (m + 1) _ = _
    simp only [ref5_UniverseFault_l1]
    rw [if_neg (by rw [decide_eq_true_eq]; omega)]
theorem ufault_small {u : SPackages} (h : (ufault u).Code = 0) : u.Packages.length ≤ 6 := by
  unfold ufault at h
  split at h
  · cases h
  · omega
end Go.Proofs.YtpcmhhbocifbcaaGreatDoor
namespace Go.Proofs.YtpcmhhbocifbcaaGreatDoor
open Go.PW Go
abbrev dig61 (x : Int) : Prop := 0 ≤ x ∧ x ≤ 2305843009213693950
theorem isDigest_eq (n : Nat) (x : Int) : signing_IsDigest n x = some (decide (dig61 x)) := by
  unfold signing_IsDigest signing_IsDigest_j1
  rw [ifdec]
  by_cases h1 : 0 ≤ x
  · rw [if_pos h1]
    by_cases h2 : x < 2305843009213693951
    · rw [decide_eq_true h2, decide_eq_true (show dig61 x from ⟨h1, by omega⟩)]
    · rw [decide_eq_false h2, decide_eq_false (show ¬ dig61 x from fun h => h2 (by have := h.2; omega))]
  · rw [if_neg h1, decide_eq_false (show ¬ dig61 x from fun h => h1 h.1)]
theorem risDigest_eq (n : Nat) (x : Int) : ref5_IsDigest n x = some (decide (dig61 x)) := by
  unfold ref5_IsDigest
  rw [ref_in5, bsome]
def ebad (l : List SPackageVersionDigest) (i : Nat) (x : SPackageVersionDigest) : Bool :=
  match i with
  | 0 => false
  | j + 1 => match l[j]? with
    | some e => decide (x.Package ≤ e.Package)
    | none => false
theorem ebad_succ {l : List SPackageVersionDigest} {j : Nat} {x e : SPackageVersionDigest} (h : l[j]? = some e) : ebad l (j + 1) x = decide (x.Package ≤ e.Package) := by
  show (match l[j]? with | some e => decide (x.Package ≤ e.Package) | none => false) = _
  rw [h]
def ecode (l : List SPackageVersionDigest) (i : Nat) (x : SPackageVersionDigest) : Int :=
  if 0 ≤ x.Package ∧ x.Package ≤ 5 then
    if (vfault x.Version).Code = 0 then (if dig61 x.Digest then (if ebad l i x = true then 5 else 0) else 3) else (vfault x.Version).Code
  else 3
def estep (l : List SPackageVersionDigest) (_ : Unit) (i : Nat) (x : SPackageVersionDigest) : SCodeIndex ⊕ Unit := if ecode l i x = 0 then .inr () else .inl ⟨ecode l i x, i⟩
def lfault (l : List SPackageVersionDigest) : SCodeIndex := if 6 < l.length then ⟨2, -1⟩ else run (estep l) (fun _ => ⟨0, 0⟩) () 0 l
theorem lvalidate_eq {n : Nat} (hn : 1000 < n) (l : List SPackageVersionDigest) : lockfile_Validate n l = some (lfault l) := by
  unfold lockfile_Validate lfault
  rw [ifdec]
  by_cases hl : 6 < l.length
  · rw [if_pos (by omega), if_pos hl]
  rw [if_neg (by omega), if_neg hl]
  refine loop_eq (l := l) (L := fun m _ i => lockfile_Validate_l1 n l m i) _ _ (fun _ _ => True) ?_ (fun _ _ _ _ _ _ _ => trivial) ?_ n () 0 trivial (by omega) (by omega)
  · intro m s i x _ hi hx
    show lockfile_Validate_l1 n l (m + 1) i = _
    simp only [lockfile_Validate_l1]
    rw [if_pos (by rw [decide_eq_true_eq]; omega), gidx_nat, hx, bsome, etaV, validate_eq hn, bsome]
    have j1 : ∀ c : Int, lockfile_Validate_j1 n i (lockfile_Validate_l1 n l m) c = nxt (fun _ => lockfile_Validate_l1 n l m ((i + 1 : Nat) : Int)) (if c = 0 then .inr () else .inl ⟨c, i⟩) := by
      intro c
      unfold lockfile_Validate_j1
      rw [ifdec, gadd_nat (by omega), bsome]
      by_cases hc : c = 0
      · rw [if_neg (by simpa using hc), if_pos hc, nxt_r]
      · rw [if_pos hc, if_neg hc, nxt_l]
    have j2t : lockfile_Validate_j2 n l i (lockfile_Validate_l1 n l m) x (vfault x.Version) true = nxt (fun _ : Unit => lockfile_Validate_l1 n l m ((i + 1 : Nat) : Int)) (.inl ⟨3, i⟩) := by
      unfold lockfile_Validate_j2
      rw [if_pos rfl, j1]
      rfl
    have j2f : lockfile_Validate_j2 n l i (lockfile_Validate_l1 n l m) x (vfault x.Version) false = nxt (fun _ => lockfile_Validate_l1 n l m ((i + 1 : Nat) : Int)) (if (vfault x.Version).Code = 0 then (if dig61 x.Digest then (if ebad l i x = true then .inl ⟨5, i⟩ else .inr ()) else .inl ⟨3, i⟩) else .inl ⟨(vfault x.Version).Code, i⟩) := by
      unfold lockfile_Validate_j2 lockfile_Validate_j3
      simp only [Bool.false_eq_true, if_false]
      rw [ifdec]
      by_cases h1 : (vfault x.Version).Code = 0
      · rw [if_neg (fun e => e h1), if_pos h1, isDigest_eq, bsome, ifnot]
        by_cases h2 : dig61 x.Digest
        · rw [if_pos h2, if_pos h2]
          cases i with
          | zero =>
            rw [if_neg (by simp), j1, if_pos h1]
            rfl
          | succ j =>
            have hj : j < l.length := by omega
            rw [if_pos (by rw [decide_eq_true_eq]; omega), gsubI (by omega), bsome, show ((j + 1 : Nat) : Int) - 1 = (j : Int) by omega, gidx_nat, getElem?_lt hj, bsome, ebad_succ (getElem?_lt hj), j1, j1, if_pos h1]
            cases decide (x.Package ≤ l[j].Package) <;> rfl
        · rw [if_neg h2, if_neg h2, j1]
          rfl
      · rw [if_pos h1, if_neg h1, j1, if_neg h1]
    unfold estep ecode
    rw [ifdec, j2t]
    by_cases h0 : x.Package < 0
    · rw [if_pos h0, if_neg (show ¬ (0 ≤ x.Package ∧ x.Package ≤ 5) by omega), if_neg (by simp)]
    · rw [if_neg h0]
      by_cases h1 : 6 ≤ x.Package
      · rw [decide_eq_true h1, j2t, if_neg (show ¬ (0 ≤ x.Package ∧ x.Package ≤ 5) by omega), if_neg (by simp)]
      · rw [decide_eq_false h1, j2f, if_pos (show 0 ≤ x.Package ∧ x.Package ≤ 5 by omega)]
        by_cases h2 : (vfault x.Version).Code = 0
        · rw [if_pos h2, if_pos h2]
          by_cases h3 : dig61 x.Digest
          · rw [if_pos h3, if_pos h3]
            cases ebad l i x <;> rfl
          · rw [if_neg h3, if_neg h3]
            rfl
        · rw [if_neg h2, if_neg h2, if_neg h2]
  · intro m s _
    show lockfile_Validate_l1 n l (m + 1) _ = _
    simp only [lockfile_Validate_l1]
    rw [if_neg (by rw [decide_eq_true_eq]; omega)]
end Go.Proofs.YtpcmhhbocifbcaaGreatDoor
namespace Go.Proofs.YtpcmhhbocifbcaaGreatDoor
open Go.PW Go
theorem rlvalidate_eq {n : Nat} (hn : 1000 < n) (l : List SPackageVersionDigest) : ref6_LockFault n l = some (lfault l) := by
  unfold ref6_LockFault lfault ref6_fault
  rw [ifdec]
  by_cases hl : 6 < l.length
  · rw [if_pos (by omega), if_pos hl, bsome]
  rw [if_neg (by omega), if_neg hl]
  refine loop_eq (l := l) (L := fun m _ i => ref6_LockFault_l1 n l m i) _ _ (fun _ _ => True) ?_ (fun _ _ _ _ _ _ _ => trivial) ?_ n () 0 trivial (by omega) (by omega)
  · intro m s i x _ hi hx
    show ref6_LockFault_l1 n l (m + 1) i = _
    simp only [ref6_LockFault_l1]
    unfold ref6_fault
    rw [if_pos (by rw [decide_eq_true_eq]; omega), gidx_nat, hx]
    simp only [bsome, ref_in6, etaV, rvfault_eq hn, risDigest_eq, ifnot, ifdec]
    have j1 : ∀ c : Bool, ref6_LockFault_j1 n i (ref6_LockFault_l1 n l m) c = nxt (fun _ : Unit => ref6_LockFault_l1 n l m ((i + 1 : Nat) : Int)) (if c = true then .inl ⟨5, i⟩ else .inr ()) := by
      intro c
      unfold ref6_LockFault_j1 ref6_fault
      rw [gadd_nat (by omega), bsome, bsome]
      cases c <;> rfl
    unfold estep ecode
    by_cases h1 : 0 ≤ x.Package ∧ x.Package ≤ 5
    · rw [if_pos h1, if_pos h1]
      by_cases h2 : (vfault x.Version).Code = 0
      · rw [if_neg (fun e => e h2), if_pos h2]
        by_cases h3 : dig61 x.Digest
        · rw [if_pos h3, if_pos h3]
          cases i with
          | zero =>
            rw [if_neg (by simp), j1]
            rfl
          | succ j =>
            have hj : j < l.length := by omega
            rw [if_pos (by omega), gsubI (by omega), bsome, show ((j + 1 : Nat) : Int) - 1 = (j : Int) by omega, gidx_nat, getElem?_lt hj, bsome, ebad_succ (getElem?_lt hj), j1]
            cases decide (x.Package ≤ l[j].Package) <;> rfl
        · rw [if_neg h3, if_neg h3]
          rfl
      · rw [if_pos h2, if_neg h2, if_neg h2]
        rfl
    · rw [if_neg h1, if_neg h1]
      rfl
  · intro m s _
    show ref6_LockFault_l1 n l (m + 1) _ = _
    simp only [ref6_LockFault_l1]
    rw [if_neg (by rw [decide_eq_true_eq]; omega)]
theorem ecode_l {l : List SPackageVersionDigest} {s : Unit} {i : Nat} {x : SPackageVersionDigest} {r : SCodeIndex} (h : estep l s i x = .inl r) : r.Code ≠ 0 := by
  unfold estep at h
  split at h
  · cases h
  · injection h with h; subst h; assumption
theorem lfault_zero {l : List SPackageVersionDigest} (h : (lfault l).Code = 0) : lfault l = ⟨0, 0⟩ := by
  have : (lfault l).Code = 0 → lfault l = ⟨0, 0⟩ := by
    unfold lfault
    split
    · intro h; cases h
    exact run_pred (fun r : SCodeIndex => r.Code = 0 → r = ⟨0, 0⟩) (fun _ _ _ _ h h0 => absurd h0 (ecode_l h)) (fun _ _ => rfl) _ _ _
  exact this h
theorem lfault_iff {l : List SPackageVersionDigest} : (lfault l).Code = 0 ↔ l.length ≤ 6 ∧ (∀ x ∈ l, (0 ≤ x.Package ∧ x.Package ≤ 5) ∧ okv x.Version ∧ dig61 x.Digest) ∧ l.Pairwise (fun a b => a.Package < b.Package) := by
  have one : ∀ i x, ecode l i x = 0 ↔ ((0 ≤ x.Package ∧ x.Package ≤ 5) ∧ okv x.Version ∧ dig61 x.Digest) ∧ ebad l i x = false := by
    intro i x
    unfold ecode okv
    by_cases h1 : 0 ≤ x.Package ∧ x.Package ≤ 5
    · rw [if_pos h1]
      by_cases h2 : (vfault x.Version).Code = 0
      · rw [if_pos h2]
        by_cases h3 : dig61 x.Digest
        · rw [if_pos h3]
          cases ebad l i x with
          | true => exact ⟨fun h => (by cases h), fun h => (by cases h.2)⟩
          | false => exact ⟨fun _ => ⟨⟨h1, h2, h3⟩, rfl⟩, fun _ => rfl⟩
        · rw [if_neg h3]
          exact ⟨fun h => (by cases h), fun h => absurd h.1.2.2 h3⟩
      · rw [if_neg h2]
        exact ⟨fun h => absurd h h2, fun h => absurd h.1.2.1 h2⟩
    · rw [if_neg h1]
      exact ⟨fun h => (by cases h), fun h => absurd h.1.1 h1⟩
  constructor
  · intro h
    unfold lfault at h
    by_cases hl : 6 < l.length
    · rw [if_pos hl] at h; cases h
    rw [if_neg hl] at h
    have hk := run_inv (f := estep l) (fun r : SCodeIndex => r.Code = 0) (fun i x r h => ecode_l h) h
    have hk' : ∀ k x, l[k]? = some x → ((0 ≤ x.Package ∧ x.Package ≤ 5) ∧ okv x.Version ∧ dig61 x.Digest) ∧ ebad l k x = false := by
      intro k x hx
      have := hk k x hx
      rw [Nat.zero_add] at this
      unfold estep at this
      split at this
      · rename_i h0; exact (one k x).1 h0
      · cases this
    refine ⟨by omega, fun x hx => ?_, ?_⟩
    · obtain ⟨k, hk⟩ := List.getElem?_of_mem hx
      exact (hk' k x hk).1
    · rw [List.pairwise_iff_getElem]
      intro i j hi hj hij
      induction j with
      | zero => omega
      | succ j ih =>
        have hb := (hk' (j + 1) _ (getElem?_lt hj)).2
        rw [ebad_succ (getElem?_lt (show j < l.length by omega)), decide_eq_false_iff_not] at hb
        by_cases e : i = j
        · subst e; omega
        · have := ih (by omega) (by omega)
          omega
  · rintro ⟨h1, h2, h3⟩
    unfold lfault
    rw [if_neg (by omega), run_ok]
    intro k x hx
    rw [Nat.zero_add]
    unfold estep
    rw [if_pos ((one k x).2 ⟨h2 x (get_mem hx), ?_⟩)]
    match k, hx with
    | 0, _ => rfl
    | j + 1, hx =>
      have hj := get_lt hx
      rw [ebad_succ (getElem?_lt (show j < l.length by omega)), decide_eq_false_iff_not]
      rw [List.pairwise_iff_getElem] at h3
      have := h3 j (j + 1) (by omega) hj (by omega)
      rw [getElem?_lt hj] at hx
      injection hx with hx
      rw [hx] at this
      omega
end Go.Proofs.YtpcmhhbocifbcaaGreatDoor
namespace Go.Proofs.YtpcmhhbocifbcaaGreatDoor
open Go.PW Go
theorem digit_cut {k : Nat} (h : k < 10) : gcut ([48, 49, 50, 51, 52, 53, 54, 55, 56, 57] : List UInt8) (k : Int) ((k : Int) + 1) = some [UInt8.ofNat (48 + k)] := by
  rcases (show k = 0 ∨ k = 1 ∨ k = 2 ∨ k = 3 ∨ k = 4 ∨ k = 5 ∨ k = 6 ∨ k = 7 ∨ k = 8 ∨ k = 9 by omega) with e | e | e | e | e | e | e | e | e | e <;> subst e <;> rfl
theorem decDigits_step {u : Nat} (h : ¬ u < 10) : Lib.decDigits u = Lib.decDigits (u / 10) ++ [UInt8.ofNat (48 + u % 10)] := by
  rw [Lib.decDigits, dif_neg h]
theorem rdigits_eq : ∀ (n u : Nat), u < 10 ^ n → 0 < n → u ≤ 4611686018427387904 → n ≤ 100000 → ref5_Digits n u = some (Lib.decDigits u) ∧ (Lib.decDigits u).length ≤ n
  | 0, _, _, h, _, _ => by omega
  | n + 1, u, hu, _, hb, hn => by
    simp only [ref5_Digits]
    rw [ifdec]
    by_cases h : u < 10
    · rw [if_pos (by omega), gaddI (by omega), bsome, digit_cut h, bsome, Lib.decDigits_one h]
      exact ⟨rfl, by simp⟩
    · have hq : u / 10 < 10 ^ n := by
        rw [Nat.pow_succ] at hu
        exact Nat.div_lt_of_lt_mul (by omega)
      have hn0 : 0 < n := by
        rcases Nat.eq_zero_or_pos n with e | e
        · subst e; simp at hq; omega
        · exact e
      obtain ⟨ih, il⟩ := rdigits_eq n (u / 10) hq hn0 (by omega) (by omega)
      have e1 : gquo (u : Int) 10 = some ((u / 10 : Nat) : Int) := by
        unfold gquo
        rw [if_neg (by decide)]
        show gchk ((u / 10 : Nat) : Int) = _
        exact gchk_ok (by omega)
      have e2 : grem (u : Int) 10 = some ((u % 10 : Nat) : Int) := by
        unfold grem
        rw [if_neg (by decide)]
        rfl
      have hl : (Lib.decDigits (u / 10) ++ [UInt8.ofNat (48 + u % 10)]).length ≤ n + 1 := by simp; omega
      have e3 : gcat (Lib.decDigits (u / 10)) [UInt8.ofNat (48 + u % 10)] = some (Lib.decDigits (u / 10) ++ [UInt8.ofNat (48 + u % 10)]) := by
        unfold gcat
        rw [if_pos]
        simp at hl ⊢
        unfold big
        omega
      rw [if_neg (by omega), e1, bsome, ih, bsome, e2, bsome, bsome, gaddI (by omega), bsome, digit_cut (Nat.mod_lt _ (by omega)), bsome, e3, bsome, decDigits_step h]
      exact ⟨rfl, hl⟩
theorem libItoa_nat {u : Nat} (h : u ≤ 4611686018427387904) : libItoa (u : Int) = some (Lib.decDigits u) := by
  have hl : (Lib.decDigits u).length ≤ 20 := (rdigits_eq 20 u (by omega) (by omega) h (by omega)).2
  have e : Lib.itoa (u : Int) = Lib.decDigits u := by
    unfold Lib.itoa
    rw [if_neg (by omega)]
    rfl
  unfold libItoa
  rw [e, if_pos ⟨by omega, by omega⟩]
end Go.Proofs.YtpcmhhbocifbcaaGreatDoor
namespace Go.Proofs.YtpcmhhbocifbcaaGreatDoor
open Go.PW Go
def pt : Bool → List (List UInt8) → List UInt8
  | _, [] => []
  | b, x :: l => (if b = true then 45 else 46) :: (x ++ pt false l)
theorem pt_cons (b : Bool) (x : List UInt8) (l : List (List UInt8)) : pt b (x :: l) = (if b = true then 45 else 46) :: (x ++ pt false l) := rfl
theorem join_pt : ∀ (l : List (List UInt8)) (x : List UInt8), Lib.join (x :: l) [46] = x ++ pt false l
  | [], x => by simp [Lib.join, List.intercalate, pt]
  | y :: l, x => by
    have ih := join_pt l y
    unfold Lib.join at ih ⊢
    rw [pt_cons, ← ih]
    simp [List.intercalate]
def vtext (v : SMajorMinorPatchPre) : List UInt8 := Lib.decDigits v.Major.toNat ++ [46] ++ Lib.decDigits v.Minor.toNat ++ [46] ++ Lib.decDigits v.Patch.toNat ++ pt true v.Pre
theorem okv_num {v : SMajorMinorPatchPre} (h : okv v) : (0 ≤ v.Major ∧ v.Major ≤ 1000000000) ∧ (0 ≤ v.Minor ∧ v.Minor ≤ 1000000000) ∧ (0 ≤ v.Patch ∧ v.Patch ≤ 1000000000) := by
  unfold okv vfault at h
  by_cases h1 : 0 ≤ v.Major ∧ v.Major ≤ 1000000000
  case neg => rw [if_neg h1] at h; cases h
  by_cases h2 : 0 ≤ v.Minor ∧ v.Minor ≤ 1000000000
  case neg => rw [if_pos h1, if_neg h2] at h; cases h
  by_cases h3 : 0 ≤ v.Patch ∧ v.Patch ≤ 1000000000
  case neg => rw [if_pos h1, if_pos h2, if_neg h3] at h; cases h
  exact ⟨h1, h2, h3⟩
theorem dec_le {a : Int} (h : 0 ≤ a ∧ a ≤ 1000000000) : (Lib.decDigits a.toNat).length ≤ 20 := (rdigits_eq 20 a.toNat (by omega) (by omega) (by omega) (by omega)).2
theorem itoa_int {a : Int} (h : 0 ≤ a ∧ a ≤ 1000000000) (n : Nat) : strconv_Itoa n a = some (Lib.decDigits a.toNat) := by
  unfold strconv_Itoa
  have := libItoa_nat (u := a.toNat) (by omega)
  rwa [show ((a.toNat : Nat) : Int) = a by omega] at this
theorem rdig_int {a : Int} (h : 0 ≤ a ∧ a ≤ 1000000000) {n : Nat} (hn : 20 ≤ n ∧ n ≤ 100000) : ref5_Digits n a = some (Lib.decDigits a.toNat) := by
  have := (rdigits_eq n a.toNat (Nat.lt_of_lt_of_le (show a.toNat < 10 ^ 20 by omega) (Nat.pow_le_pow_right (by omega) hn.1)) (by omega) (by omega) hn.2).1
  rwa [show ((a.toNat : Nat) : Int) = a by omega] at this
theorem gcat_ok {s t : List UInt8} (h : s.length + t.length ≤ 100000) : gcat s t = some (s ++ t) := if_pos (by unfold big; omega)
theorem pt_len : ∀ (l : List (List UInt8)) (b : Bool), (∀ x ∈ l, x.length ≤ 8) → (pt b l).length ≤ 9 * l.length
  | [], _, _ => by simp [pt]
  | x :: l, b, h => by
    have ih := pt_len l false (fun y hy => h y (by simp [hy]))
    have := h x (by simp)
    rw [pt_cons]
    simp only [List.length_cons, List.length_append]
    omega
theorem format_eq {n : Nat} (hn : 1000 < n) {v : SMajorMinorPatchPre} (h : okv v) : version_Format n v = some (vtext v, ⟨0, 0⟩) := by
  obtain ⟨h1, h2, h3⟩ := okv_num h
  obtain ⟨hp, hi⟩ := okv_pre h
  have l1 := dec_le h1
  have l2 := dec_le h2
  have l3 := dec_le h3
  have hx : ∀ x ∈ v.Pre, x.length ≤ 8 := fun x hx => (okb_of_ident (hi x hx)).1.2
  have lp := pt_len v.Pre true hx
  unfold version_Format version_Format_j1
  rw [validate_eq hn, bsome, beqF, ifnot, if_pos ((vfault_iff v).2 h), itoa_int h1, itoa_int h2, itoa_int h3]
  simp only [bsome]
  rw [gcat_ok (by simp; omega), bsome, gcat_ok (by simp; omega), bsome, gcat_ok (by simp; omega), bsome, gcat_ok (by simp; omega), bsome]
  unfold vtext
  cases hpre : v.Pre with
  | nil =>
    rw [if_neg (by simp)]
    simp [pt]
  | cons x l =>
    rw [hpre] at lp hp
    have hj : Lib.join (x :: l) [46] = x ++ pt false l := join_pt l x
    have lj : (x ++ pt false l).length ≤ 40 := by
      rw [pt_cons] at lp
      simp only [List.length_cons, List.length_append] at lp ⊢
      simp only [List.length_cons] at hp
      omega
    have ej : strings_Join n (x :: l) ([46] : List UInt8) = some (x ++ pt false l) := by
      unfold strings_Join libJoin
      rw [hj, if_pos ⟨by unfold big; simp only [List.length_cons] at hp ⊢; omega, by unfold big; omega⟩]
    rw [if_pos (by rw [decide_eq_true_eq]; simp only [List.length_cons]; omega), ej, bsome, gcat_ok (by simp only [List.length_cons, List.length_nil]; omega), bsome, gcat_ok (by simp only [List.length_append, List.length_cons, List.length_nil] at lj ⊢; omega), bsome, pt_cons]
    rfl
theorem vtext_l1 {n : Nat} (v : SMajorMinorPatchPre) (hp : v.Pre.length ≤ 4) (hx : ∀ x ∈ v.Pre, x.length ≤ 8) : ∀ (m i : Nat) (s : List UInt8), i ≤ v.Pre.length → v.Pre.length - i < m → s.length ≤ 100 + 10 * i → ref5_VersionText_l1 n v m s i = some (s ++ pt (decide (i = 0)) (v.Pre.drop i))
  | 0, i, _, _, h, _ => by omega
  | m + 1, i, s, hi, hm, hs => by
    simp only [ref5_VersionText_l1]
    by_cases h : i = v.Pre.length
    · rw [if_neg (by rw [decide_eq_true_eq]; omega), h, List.drop_length]
      simp [pt]
    · have hlt : i < v.Pre.length := by omega
      have h8 := hx _ (List.getElem_mem hlt)
      have j1 : ∀ c : UInt8, ref5_VersionText_j1 n v i (ref5_VersionText_l1 n v m) (s ++ [c]) = some (s ++ c :: (v.Pre[i] ++ pt false (v.Pre.drop (i + 1)))) := by
        intro c
        unfold ref5_VersionText_j1
        rw [gidx_nat, getElem?_lt hlt, bsome, gcat_ok (by simp; omega), bsome, gadd_nat (by omega), bsome, vtext_l1 v hp hx m (i + 1) _ (by omega) (by omega) (by simp; omega), decide_eq_false (show ¬ (i + 1 = 0) by omega)]
        simp
      rw [if_pos (by rw [decide_eq_true_eq]; omega), List.drop_eq_getElem_cons hlt, pt_cons, gcat_ok (by simp; omega), gcat_ok (by simp; omega), bsome, bsome, j1, j1]
      by_cases h0 : i = 0
      · rw [if_pos (by rw [decide_eq_true_eq]; omega), decide_eq_true h0, if_pos rfl]
      · rw [if_neg (by rw [decide_eq_true_eq]; omega), decide_eq_false h0, if_neg (by simp)]
end Go.Proofs.YtpcmhhbocifbcaaGreatDoor
namespace Go.Proofs.YtpcmhhbocifbcaaGreatDoor
open Go.PW Go
theorem rvtext_eq {n : Nat} (hn : 1000 < n ∧ n ≤ 100000) {v : SMajorMinorPatchPre} (h : okv v) : ref5_VersionText n v = some (vtext v) := by
  obtain ⟨h1, h2, h3⟩ := okv_num h
  obtain ⟨hp, hi⟩ := okv_pre h
  have l1 := dec_le h1
  have l2 := dec_le h2
  have l3 := dec_le h3
  have hx : ∀ x ∈ v.Pre, x.length ≤ 8 := fun x hx => (okb_of_ident (hi x hx)).1.2
  unfold ref5_VersionText
  rw [rdig_int h1 ⟨by omega, hn.2⟩, rdig_int h2 ⟨by omega, hn.2⟩, rdig_int h3 ⟨by omega, hn.2⟩]
  simp only [bsome]
  rw [gcat_ok (by simp; omega), bsome, gcat_ok (by simp; omega), bsome, gcat_ok (by simp; omega), bsome, gcat_ok (by simp; omega), bsome]
  have := vtext_l1 (n := n) v hp hx n 0 (Lib.decDigits v.Major.toNat ++ [46] ++ Lib.decDigits v.Minor.toNat ++ [46] ++ Lib.decDigits v.Patch.toNat) (by omega) (by omega) (by simp; omega)
  rw [List.drop_zero] at this
  exact this
theorem vtext_len {v : SMajorMinorPatchPre} (h : okv v) : (vtext v).length ≤ 100 := by
  obtain ⟨h1, h2, h3⟩ := okv_num h
  obtain ⟨hp, hi⟩ := okv_pre h
  have l1 := dec_le h1
  have l2 := dec_le h2
  have l3 := dec_le h3
  have hx : ∀ x ∈ v.Pre, x.length ≤ 8 := fun x hx => (okb_of_ident (hi x hx)).1.2
  have lp := pt_len v.Pre true hx
  unfold vtext
  simp only [List.length_append, List.length_cons, List.length_nil]
  omega
end Go.Proofs.YtpcmhhbocifbcaaGreatDoor
namespace Go.Proofs.YtpcmhhbocifbcaaGreatDoor
open Go.PW Go
def Dg (a : Int) : Prop := 0 ≤ a ∧ a < 2305843009213693951
instance (a : Int) : Decidable (Dg a) := inferInstanceAs (Decidable (_ ∧ _))
def sumOf (s : List UInt8) : Int := s.foldl (fun h b => (h * 257 + (b.toNat : Int) + 1) % 2305843009213693951) 1
theorem mod_dg (a : Int) : Dg (a % 2305843009213693951) := by unfold Dg; omega
theorem grem_nn {a : Int} (h : 0 ≤ a) : grem a 2305843009213693951 = some (a % 2305843009213693951) := by
  unfold grem
  rw [if_neg (by decide), Int.tmod_eq_emod_of_nonneg h]
theorem kand1 (b : Nat) (h : b < 9223372036854775808) : kand .i64 (b : Int) 1 = ((b % 2 : Nat) : Int) := by
  unfold kand bitsOf
  have e1 : (BitVec.ofInt (IntKind.bits .i64) (b : Int) &&& BitVec.ofInt (IntKind.bits .i64) 1).toNat = b % 2 := by
    show (BitVec.ofInt 64 (b : Int) &&& BitVec.ofInt 64 1).toNat = b % 2
    rw [BitVec.toNat_and, BitVec.ofInt_natCast, BitVec.toNat_ofNat, Nat.mod_eq_of_lt (by omega)]
    exact Nat.and_one_is_mod b
  rw [e1, IntKind.wrap_i64]
  omega
theorem kshr1 (b : Nat) : kshr .i64 (b : Int) 1 = ((b / 2 : Nat) : Int) := by
  unfold kshr
  have : (2 : Int) ^ min 1 (IntKind.bits .i64) = 2 := rfl
  rw [this, Int.fdiv_eq_ediv_of_nonneg _ (by decide)]
  omega
theorem mod_step (s a b : Int) : (s % 2305843009213693951 + (a % 2305843009213693951) * b) % 2305843009213693951 = (s + a * b) % 2305843009213693951 := by
  rw [Int.add_emod, Int.emod_emod, Int.mul_emod (a % 2305843009213693951) b, Int.emod_emod, ← Int.mul_emod, ← Int.add_emod]
theorem mod_step' (s a b : Int) : (s + (a % 2305843009213693951) * b) % 2305843009213693951 = (s + a * b) % 2305843009213693951 := by
  rw [Int.add_emod, Int.mul_emod (a % 2305843009213693951) b, Int.emod_emod, ← Int.mul_emod, ← Int.add_emod]
theorem mul_l : ∀ (m k b : Nat) (a s : Int), k < m → b < 2 ^ k → k ≤ 60 → Dg a → Dg s → digest_mul_l1 2000 m a (b : Int) s = some ((s + a * b) % 2305843009213693951) := by
  intro m
  induction m with
  | zero => intro k b a s h; omega
  | succ m ih =>
    intro k b a s hk hb hk60 ha hs
    have hb63 : b < 9223372036854775808 := Nat.lt_of_lt_of_le hb (Nat.le_trans (Nat.pow_le_pow_right (by decide) hk60) (by decide))
    unfold Dg at ha hs
    rw [digest_mul_l1]
    by_cases h0 : b = 0
    · subst h0
      rw [if_neg (by simp)]
      unfold digest_mul_j1
      rw [Int.emod_eq_of_lt (by simp; omega) (by simp; omega)]
      simp
    · rw [if_pos (by simp; omega), kand1 b hb63]
      obtain ⟨k, rfl⟩ : ∃ j, k = j + 1 := ⟨k - 1, by
        cases k with
        | zero => simp at hb; omega
        | succ k => omega⟩
      have hb2 : b / 2 < 2 ^ k := by rw [Nat.pow_succ] at hb; omega
      have hda := mod_dg (2 * a)
      by_cases hbit : b % 2 = 1
      · rw [if_pos (by simp [hbit]), gaddI (by omega), bsome, grem_nn (by omega), bsome]
        unfold digest_mul_j2
        rw [gmulI (by omega), bsome, grem_nn (by omega), bsome, kshr1, ih k (b / 2) _ _ (by omega) hb2 (by omega) hda (mod_dg _), mod_step]
        congr 2
        have : (b : Int) = 2 * ((b / 2 : Nat) : Int) + 1 := by omega
        rw [this, Int.mul_add, Int.mul_one, Int.add_assoc, Int.add_comm (a * _), ← Int.mul_assoc, Int.mul_comm a 2]
      · rw [if_neg (by simp; omega)]
        unfold digest_mul_j2
        rw [gmulI (by omega), bsome, grem_nn (by omega), bsome, kshr1, ih k (b / 2) _ _ (by omega) hb2 (by omega) hda hs, mod_step']
        congr 2
        have : (b : Int) = 2 * ((b / 2 : Nat) : Int) := by omega
        rw [this, ← Int.mul_assoc, Int.mul_comm a 2]
theorem mul_eq (a : Int) (b : Nat) (hb : b < 2 ^ 60) (ha : Dg a) : digest_mul 2000 a (b : Int) = some ((a * b) % 2305843009213693951) := by
  unfold digest_mul
  rw [mul_l 2000 60 b a 0 (by omega) hb (by omega) ha (by unfold Dg; omega), Int.zero_add]
theorem next_eq (a c : Int) (b : Nat) (hb : b < 2 ^ 60) (ha : Dg a) (hc : Dg c) : digest_next 2000 ⟨a, c⟩ (b : Int) = some ((a * b + c) % 2305843009213693951) := by
  unfold digest_next
  have h1 := mod_dg (a * b)
  rw [mul_eq a b hb ha, bsome]
  unfold Dg at h1 hc
  rw [gaddI (by simp only []; omega), bsome, grem_nn (by simp only []; omega), bsome]
  congr 1
  exact Int.emod_add_emod _ _ _
theorem wrap_u8 (b : UInt8) : IntKind.wrap .i64 (b.toNat : Int) = (b.toNat : Int) := by
  rw [IntKind.wrap_i64]
  have := b.toNat_lt
  omega
theorem bts_get (s : List UInt8) (i : Nat) (h : i < s.length) : (bts s)[i]? = some ((s[i].toNat : Nat) : Int) := by
  unfold bts
  rw [List.getElem?_map, getElem?_lt h]; rfl
theorem bts_len (s : List UInt8) : (bts s).length = s.length := by simp [bts]
theorem foldl_snoc {α β : Type} (f : β → α → β) (z : β) (l : List α) (i : Nat) (h : i < l.length) : (l.take (i + 1)).foldl f z = f ((l.take i).foldl f z) l[i] := by
  rw [List.take_add_one, getElem?_lt h, List.foldl_append]; rfl
theorem sumOf_dg (s : List UInt8) : Dg (sumOf s) := by
  unfold sumOf
  rcases List.eq_nil_or_concat s with rfl | ⟨l, x, rfl⟩
  · unfold Dg; simp
  · rw [List.concat_eq_append, List.foldl_append]; exact mod_dg _
theorem of_l (s : List UInt8) (hl : s.length ≤ 100) : ∀ (m i : Nat), s.length - i < m → i ≤ s.length → digest_Of_l1 2000 (bts s) m (sumOf (s.take i)) (i : Int) = some (sumOf s, ⟨0, 0⟩) := by
  intro m
  induction m with
  | zero => intro i h; omega
  | succ m ih =>
    intro i h hil
    rw [digest_Of_l1]
    by_cases hlt : i < s.length
    · have hb := s[i].toNat_lt
      rw [if_pos (by rw [bts_len]; simp; omega), gidx_nat, bts_get s i hlt, bsome, wrap_u8, gaddI (by omega), bsome]
      have hd := sumOf_dg (s.take i)
      have hn := next_eq (sumOf (s.take i)) ((s[i].toNat : Int) + 1) 257 (by decide) hd (by unfold Dg; omega)
      rw [show ((257 : Nat) : Int) = 257 from rfl] at hn
      rw [hn, bsome, gadd_nat (by omega), bsome]
      have := ih (i + 1) (by omega) (by omega)
      have e1 : sumOf (s.take (i + 1)) = (sumOf (s.take i) * 257 + ((s[i].toNat : Int) + 1)) % 2305843009213693951 := by
        unfold sumOf
        rw [foldl_snoc _ _ _ _ hlt, Int.add_assoc]
      rw [e1] at this
      exact this
    · rw [if_neg (by rw [bts_len]; simp; omega), List.take_of_length_le (by omega)]
theorem of_eq (s : List UInt8) (hl : s.length ≤ 100) : digest_Of 2000 (bts s) = some (sumOf s, ⟨0, 0⟩) := by
  unfold digest_Of
  rw [if_neg (by rw [bts_len]; simp; omega)]
  exact of_l s hl 2000 0 (by omega) (by omega)
theorem times_l : ∀ (m k b : Nat) (a s : Int), k < m → b < 2 ^ k → k ≤ 60 → Dg a → Dg s → ref1_times_l1 2000 m a (b : Int) s = some ((s + a * b) % 2305843009213693951) := by
  intro m
  induction m with
  | zero => intro k b a s h; omega
  | succ m ih =>
    intro k b a s hk hb hk60 ha hs
    unfold Dg at ha hs
    rw [ref1_times_l1]
    by_cases h0 : b = 0
    · subst h0
      rw [if_neg (by simp)]
      unfold ref1_times_j1
      rw [Int.emod_eq_of_lt (by simp; omega) (by simp; omega)]
      simp
    · have hb63 : b < 9223372036854775808 := Nat.lt_of_lt_of_le hb (Nat.le_trans (Nat.pow_le_pow_right (by decide) hk60) (by decide))
      have hr : grem (b : Int) 2 = some ((b % 2 : Nat) : Int) := by
        unfold grem
        rw [if_neg (by decide), Int.tmod_eq_emod_of_nonneg (by omega)]; rfl
      have hq : gquo (b : Int) 2 = some ((b / 2 : Nat) : Int) := by
        unfold gquo
        rw [if_neg (by decide), Int.tdiv_eq_ediv_of_nonneg (by omega), gchk_ok (by omega)]; rfl
      rw [if_pos (by simp; omega), hr, bsome]
      obtain ⟨k, rfl⟩ : ∃ j, k = j + 1 := ⟨k - 1, by
        cases k with
        | zero => simp at hb; omega
        | succ k => omega⟩
      have hb2 : b / 2 < 2 ^ k := by rw [Nat.pow_succ] at hb; omega
      have hda := mod_dg (a + a)
      by_cases hbit : b % 2 = 1
      · rw [if_pos (by simp [hbit]), gaddI (by omega), bsome, grem_nn (by omega), bsome]
        unfold ref1_times_j2
        rw [gaddI (by omega), bsome, grem_nn (by omega), bsome, hq, bsome]
        rw [ih k (b / 2) ((a + a) % 2305843009213693951) ((s + a) % 2305843009213693951) (by omega) hb2 (by omega) hda (mod_dg _), mod_step]
        refine congrArg (fun z => some (z % 2305843009213693951)) ?_
        have : (b : Int) = 2 * ((b / 2 : Nat) : Int) + 1 := by omega
        rw [this, Int.mul_add, Int.mul_one, Int.add_assoc, Int.add_comm (a * _), ← Int.mul_assoc, Int.mul_comm a 2, Int.two_mul]
      · rw [if_neg (by simp; omega)]
        unfold ref1_times_j2
        rw [gaddI (by omega), bsome, grem_nn (by omega), bsome, hq, bsome]
        rw [ih k (b / 2) ((a + a) % 2305843009213693951) s (by omega) hb2 (by omega) hda hs, mod_step']
        refine congrArg (fun z => some (z % 2305843009213693951)) ?_
        have : (b : Int) = 2 * ((b / 2 : Nat) : Int) := by omega
        rw [this, ← Int.mul_assoc, Int.mul_comm a 2, Int.two_mul]
theorem times_eq (a : Int) (b : Nat) (hb : b < 2 ^ 60) (ha : Dg a) : ref1_times 2000 a (b : Int) = some ((a * b) % 2305843009213693951) := by
  unfold ref1_times
  rw [times_l 2000 60 b a 0 (by omega) hb (by omega) ha (by unfold Dg; omega), Int.zero_add]
theorem rof_l (s : List UInt8) (hl : s.length ≤ 100) : ∀ (m i : Nat), s.length - i < m → i ≤ s.length → ref1_DigestOf_l1 2000 (bts s) m (sumOf (s.take i)) (i : Int) = some (sumOf s) := by
  intro m
  induction m with
  | zero => intro i h; omega
  | succ m ih =>
    intro i h hil
    rw [ref1_DigestOf_l1]
    by_cases hlt : i < s.length
    · have hb := s[i].toNat_lt
      have hn := times_eq (sumOf (s.take i)) 257 (by decide) (sumOf_dg _)
      rw [show ((257 : Nat) : Int) = 257 from rfl] at hn
      have d1 := mod_dg (sumOf (s.take i) * 257)
      unfold Dg at d1
      rw [if_pos (by rw [bts_len]; simp; omega), hn, bsome, gidx_nat, bts_get s i hlt, bsome, wrap_u8, gaddI (by omega), bsome, gaddI (by omega), bsome, grem_nn (by omega), bsome, gadd_nat (by omega), bsome]
      have := ih (i + 1) (by omega) (by omega)
      have e1 : sumOf (s.take (i + 1)) = (sumOf (s.take i) * 257 % 2305843009213693951 + (s[i].toNat : Int) + 1) % 2305843009213693951 := by
        unfold sumOf
        rw [foldl_snoc _ _ _ _ hlt, Int.add_assoc (_ % _), Int.emod_add_emod, Int.add_assoc]
      rw [e1] at this
      exact this
    · rw [if_neg (by rw [bts_len]; simp; omega), List.take_of_length_le (by omega)]
theorem rof_eq (s : List UInt8) (hl : s.length ≤ 100) : ref1_DigestOf 2000 (bts s) = some (sumOf s) := rof_l s hl 2000 0 (by omega) (by omega)
end Go.Proofs.YtpcmhhbocifbcaaGreatDoor
namespace Go.Proofs.YtpcmhhbocifbcaaGreatDoor
open Go.PW Go
def vsum (v : SMajorMinorPatchPre) : Int := sumOf (vtext v)
theorem seal_eq {v : SMajorMinorPatchPre} (h : okv v) : lockfile_seal 2000 v = some (vsum v) := by
  unfold lockfile_seal
  rw [format_eq (by omega) h, bsome, of_eq _ (vtext_len h), bsome]
  rfl
theorem rvsum_eq {v : SMajorMinorPatchPre} (h : okv v) : ref6_VersionSum 2000 v = some (vsum v) := by
  unfold ref6_VersionSum
  rw [rvtext_eq ⟨by omega, by omega⟩ h, bsome, rof_eq _ (vtext_len h), bsome]
  rfl
def corr : Int → List SPackageVersionDigest → List Int
  | _, [] => []
  | i, x :: l => if x.Digest ≠ vsum x.Version then i :: corr (i + 1) l else corr (i + 1) l
theorem corr_cons (i : Int) (x : SPackageVersionDigest) (l : List SPackageVersionDigest) : corr i (x :: l) = if x.Digest ≠ vsum x.Version then i :: corr (i + 1) l else corr (i + 1) l := rfl
theorem corrupt_l1 {l : List SPackageVersionDigest} (hl : l.length ≤ 6) (hv : ∀ x ∈ l, okv x.Version) : ∀ (m i : Nat) (s : List Int), i ≤ l.length → l.length - i < m → s.length ≤ i → lockfile_Corrupt_l1 2000 l m s i = some (s ++ corr i (l.drop i), ⟨0, 0⟩)
  | 0, i, _, _, h, _ => by omega
  | m + 1, i, s, hi, hm, hs => by
    simp only [lockfile_Corrupt_l1]
    by_cases h : i = l.length
    · rw [if_neg (by rw [decide_eq_true_eq]; omega), h, List.drop_length]
      simp [corr]
    · have hlt : i < l.length := by omega
      rw [if_pos (by rw [decide_eq_true_eq]; omega), gidx_nat, getElem?_lt hlt, bsome, etaV, seal_eq (hv _ (List.getElem_mem hlt)), bsome, ifdec, List.drop_eq_getElem_cons hlt, corr_cons]
      unfold lockfile_Corrupt_j1
      rw [gapp_ok (by simp; omega), bsome, gadd_nat (by omega), bsome, bsome, show ((i : Int) + 1) = ((i + 1 : Nat) : Int) by omega]
      by_cases hd : l[i].Digest ≠ vsum l[i].Version
      · rw [if_pos hd, if_pos hd, corrupt_l1 hl hv m (i + 1) _ (by omega) (by omega) (by simp; omega)]
        simp
      · rw [if_neg hd, if_neg hd, corrupt_l1 hl hv m (i + 1) _ (by omega) (by omega) (by omega)]
theorem rcorrupt_l1 {l : List SPackageVersionDigest} (hl : l.length ≤ 6) (hv : ∀ x ∈ l, okv x.Version) : ∀ (m i : Nat) (s : List Int), i ≤ l.length → l.length - i < m → s.length ≤ i → ref6_Corrupt_l1 2000 l m s i = some (s ++ corr i (l.drop i))
  | 0, i, _, _, h, _ => by omega
  | m + 1, i, s, hi, hm, hs => by
    simp only [ref6_Corrupt_l1]
    by_cases h : i = l.length
    · rw [if_neg (by rw [decide_eq_true_eq]; omega), h, List.drop_length]
      simp [corr]
    · have hlt : i < l.length := by omega
      rw [if_pos (by rw [decide_eq_true_eq]; omega), gidx_nat, getElem?_lt hlt, bsome, etaV, rvsum_eq (hv _ (List.getElem_mem hlt)), bsome, ifdec, List.drop_eq_getElem_cons hlt, corr_cons]
      unfold ref6_Corrupt_j1
      rw [gapp_ok (by simp; omega), bsome, gadd_nat (by omega), bsome, bsome, show ((i : Int) + 1) = ((i + 1 : Nat) : Int) by omega]
      by_cases hd : l[i].Digest ≠ vsum l[i].Version
      · rw [if_pos hd, if_pos hd, rcorrupt_l1 hl hv m (i + 1) _ (by omega) (by omega) (by simp; omega)]
        simp
      · rw [if_neg hd, if_neg hd, rcorrupt_l1 hl hv m (i + 1) _ (by omega) (by omega) (by omega)]
end Go.Proofs.YtpcmhhbocifbcaaGreatDoor
namespace Go.Proofs.YtpcmhhbocifbcaaGreatDoor
open Go.PW Go
theorem sg_zero {a b : Int} (h : sg a b = 0) : a = b := by
  unfold sg at h
  split at h
  · omega
  · split at h
    · omega
    · omega
theorem cb_zero : ∀ {a b : List UInt8}, cb a b = 0 → a = b
  | [], [], _ => rfl
  | [], _ :: _, h => by cases h
  | _ :: _, [], h => by cases h
  | x :: a, y :: b, h => by
    rw [cb_cons] at h
    by_cases h1 : x < y
    · rw [if_pos h1] at h; cases h
    · rw [if_neg h1] at h
      by_cases h2 : y < x
      · rw [if_pos h2] at h; cases h
      · rw [if_neg h2] at h
        have h3 : x = y := by
          apply UInt8.toNat_inj.1
          have g1 : ¬ x.toNat < y.toNat := fun e => h1 (UInt8.lt_iff_toNat_lt.2 e)
          have g2 : ¬ y.toNat < x.toNat := fun e => h2 (UInt8.lt_iff_toNat_lt.2 e)
          omega
        rw [h3, cb_zero h]
theorem ci_zero {a b : List UInt8} (h : ci a b = 0) : a = b := by
  unfold ci at h
  by_cases h1 : num a = true ∧ num b = true
  · rw [if_pos h1] at h
    by_cases h2 : sg (a.length : Int) b.length ≠ 0
    · rw [if_pos h2] at h; exact absurd h h2
    · rw [if_neg h2] at h; exact cb_zero h
  · rw [if_neg h1] at h
    by_cases h2 : num a = true
    · rw [if_pos h2] at h; cases h
    · rw [if_neg h2] at h
      by_cases h3 : num b = true
      · rw [if_pos h3] at h; cases h
      · rw [if_neg h3] at h; exact cb_zero h
theorem po_zero : ∀ {a b : List (List UInt8)}, po a b = 0 → a = b
  | [], [], _ => rfl
  | [], _ :: _, h => by cases h
  | _ :: _, [], h => by cases h
  | x :: a, y :: b, h => by
    rw [po_cons] at h
    by_cases h1 : ci x y ≠ 0
    · rw [if_pos h1] at h; exact absurd h h1
    · rw [if_neg h1] at h
      have h2 : ci x y = 0 := Classical.not_not.1 h1
      rw [ci_zero h2, po_zero h]
theorem vo_zero {a b : SMajorMinorPatchPre} : vo a b = 0 ↔ a = b := by
  constructor
  · intro h
    unfold vo at h
    by_cases h1 : sg a.Major b.Major ≠ 0
    · rw [if_pos h1] at h; exact absurd h h1
    rw [if_neg h1] at h
    by_cases h2 : sg a.Minor b.Minor ≠ 0
    · rw [if_pos h2] at h; exact absurd h h2
    rw [if_neg h2] at h
    by_cases h3 : sg a.Patch b.Patch ≠ 0
    · rw [if_pos h3] at h; exact absurd h h3
    rw [if_neg h3] at h
    have e1 := sg_zero (Classical.not_not.1 h1)
    have e2 := sg_zero (Classical.not_not.1 h2)
    have e3 := sg_zero (Classical.not_not.1 h3)
    have e4 : a.Pre = b.Pre := by
      by_cases h4 : a.Pre.length = 0 ∨ b.Pre.length = 0
      · rw [if_pos h4] at h
        have := sg_zero h
        have la : a.Pre.length = 0 := by omega
        have lb : b.Pre.length = 0 := by omega
        rw [List.length_eq_zero_iff.1 la, List.length_eq_zero_iff.1 lb]
      · rw [if_neg h4] at h
        exact po_zero h
    obtain ⟨a1, a2, a3, a4⟩ := a
    obtain ⟨b1, b2, b3, b4⟩ := b
    simp only [] at e1 e2 e3 e4
    subst e1 e2 e3 e4
    rfl
  · intro h
    subst h
    have := vo_neg a a
    omega
end Go.Proofs.YtpcmhhbocifbcaaGreatDoor
namespace Go.Proofs.YtpcmhhbocifbcaaGreatDoor
open Go.PW Go
theorem same_iff_l1 {n : Nat} (v w : SMajorMinorPatchPre) (hl : v.Pre.length = w.Pre.length) (hb : v.Pre.length ≤ 1000) : ∀ (m i : Nat), i ≤ v.Pre.length → v.Pre.length - i < m → ∃ b, ref5_SameVersion_l1 n v w m i = some b ∧ (b = true ↔ v.Pre.drop i = w.Pre.drop i)
  | 0, i, _, h => by omega
  | m + 1, i, hi, hm => by
    simp only [ref5_SameVersion_l1]
    by_cases h : i = v.Pre.length
    · rw [if_neg (by rw [decide_eq_true_eq]; omega)]
      refine ⟨true, rfl, fun _ => ?_, fun _ => rfl⟩
      rw [List.drop_eq_nil_of_le (by omega), List.drop_eq_nil_of_le (by omega)]
    · have hlt : i < v.Pre.length := by omega
      have hlw : i < w.Pre.length := by omega
      obtain ⟨b, hb1, hb2⟩ := same_iff_l1 (n := n) v w hl hb m (i + 1) (by omega) (by omega)
      rw [if_pos (by rw [decide_eq_true_eq]; omega), gidx_nat, gidx_nat, getElem?_lt hlt, getElem?_lt hlw, bsome, bsome, ifdec, List.drop_eq_getElem_cons hlt, List.drop_eq_getElem_cons hlw]
      by_cases he : v.Pre[i] ≠ w.Pre[i]
      · rw [if_pos he]
        exact ⟨false, rfl, fun h => (by cases h), fun h => absurd (List.cons.inj h).1 he⟩
      · rw [if_neg he, gadd_nat (by omega), bsome]
        refine ⟨b, hb1, hb2.trans ⟨fun h => ?_, fun h => (List.cons.inj h).2⟩⟩
        rw [Classical.not_not.1 he, h]
theorem same_iff {n : Nat} (hn : 1100 < n) (v w : SMajorMinorPatchPre) (hb : v.Pre.length ≤ 1000) : ref5_SameVersion n v w = some (decide (v = w)) := by
  unfold ref5_SameVersion ref5_SameVersion_j1
  simp only [ifdec, if_true]
  by_cases h1 : v.Major ≠ w.Major
  · rw [if_pos h1, decide_eq_false (fun e => h1 (by rw [e]))]
  rw [if_neg h1]
  by_cases h2 : v.Minor ≠ w.Minor
  · rw [if_pos h2, decide_eq_false (fun e => h2 (by rw [e]))]
  rw [if_neg h2]
  by_cases h3 : v.Patch ≠ w.Patch
  · rw [if_pos h3, decide_eq_false (fun e => h3 (by rw [e]))]
  rw [if_neg h3]
  by_cases h4 : v.Pre.length ≠ w.Pre.length
  · rw [if_pos (by omega), decide_eq_false (fun e => h4 (by rw [e]))]
  rw [if_neg (by omega)]
  obtain ⟨b, hb1, hb2⟩ := same_iff_l1 (n := n) v w (Classical.not_not.1 h4) hb n 0 (by omega) (by omega)
  rw [show ((0 : Nat) : Int) = 0 from rfl] at hb1
  rw [hb1]
  congr 1
  rw [List.drop_zero, List.drop_zero] at hb2
  have hiff : b = true ↔ v = w := by
    rw [hb2]
    constructor
    · intro e
      obtain ⟨a1, a2, a3, a4⟩ := v
      obtain ⟨b1, b2, b3, b4⟩ := w
      simp only [ne_eq, Classical.not_not] at h1 h2 h3
      simp only [] at e
      subst h1 h2 h3 e
      rfl
    · intro e; rw [e]
  by_cases he : v = w
  · rw [decide_eq_true he]; exact hiff.2 he
  · rw [decide_eq_false he]
    cases hbb : b with
    | false => rfl
    | true => exact absurd (hiff.1 hbb) he
end Go.Proofs.YtpcmhhbocifbcaaGreatDoor
namespace Go.Proofs.YtpcmhhbocifbcaaGreatDoor
open Go.PW Go
def posL (p : Int) : Nat → List SPackageVersionDigest → Int
  | _, [] => -1
  | i, x :: l => if x.Package = p then (i : Int) else posL p (i + 1) l
theorem posL_cons (p : Int) (i : Nat) (x : SPackageVersionDigest) (l : List SPackageVersionDigest) : posL p i (x :: l) = if x.Package = p then (i : Int) else posL p (i + 1) l := rfl
def ent (l : List SPackageVersionDigest) (p : Int) : Option SPackageVersionDigest := l.find? (fun x => decide (x.Package = p))
theorem posL_spec (p : Int) : ∀ (l l0 : List SPackageVersionDigest) (i : Nat), l0.drop i = l → (posL p i l < 0 ∧ ent l p = none) ∨ (∃ j : Nat, posL p i l = j ∧ ∃ x, l0[j]? = some x ∧ ent l p = some x)
  | [], _, _, _ => .inl ⟨by unfold posL; omega, rfl⟩
  | x :: l, l0, i, h => by
    rw [posL_cons]
    by_cases hx : x.Package = p
    · rw [if_pos hx]
      refine .inr ⟨i, rfl, x, ?_, by unfold ent; rw [List.find?_cons_of_pos (by simpa using hx)]⟩
      have := congrArg (·[0]?) h
      simpa using this
    · rw [if_neg hx]
      have e : ent (x :: l) p = ent l p := by unfold ent; rw [List.find?_cons_of_neg (by simpa using hx)]
      rw [e]
      refine posL_spec p l l0 (i + 1) ?_
      rw [← List.drop_drop, h]
      rfl
theorem drift_l2 {n : Nat} (a0 a1 : List SPackageVersionDigest) (w3 : List Int) (x4 : Int) (lp1 : List Int → Int → Option (List Int × SCodeIndex)) (x7 : Int) (hl : a1.length ≤ 6) : ∀ (m i : Nat), i ≤ a1.length → a1.length - i < m →
    lockfile_Drift_l2 n a0 a1 w3 x4 lp1 x7 m i = lockfile_Drift_j3 n a0 a1 w3 x4 lp1 x7 (posL x4 i (a1.drop i))
  | 0, i, _, h => by omega
  | m + 1, i, hi, hm => by
    simp only [lockfile_Drift_l2]
    unfold lockfile_Drift_j6 lockfile_Drift_j5
    by_cases h : i = a1.length
    · rw [if_neg (by rw [decide_eq_true_eq]; omega), h, List.drop_length]
      rfl
    · have hlt : i < a1.length := by omega
      rw [if_pos (by rw [decide_eq_true_eq]; omega), gidx_nat, getElem?_lt hlt, bsome, ifdec, gadd_nat (by omega), bsome, drift_l2 a0 a1 w3 x4 lp1 x7 hl m (i + 1) (by omega) (by omega), List.drop_eq_getElem_cons hlt, posL_cons]
      by_cases hp : a1[i].Package = x4
      · rw [if_pos hp, if_pos hp]
      · rw [if_neg hp, if_neg hp]
theorem drift_l3 {n : Nat} (hn : 100 < n) (a0 a1 : List SPackageVersionDigest) (w3 : List Int) (x4 : Int) (lp1 : List Int → Int → Option (List Int × SCodeIndex)) (hl : a1.length ≤ 6) (hl0 : a0.length ≤ 6) : ∀ (m i : Nat), i ≤ a0.length → a0.length - i < m →
    lockfile_Drift_l3 n a0 a1 w3 x4 lp1 m i = lockfile_Drift_j3 n a0 a1 w3 x4 lp1 (posL x4 i (a0.drop i)) (posL x4 0 a1)
  | 0, i, _, h => by omega
  | m + 1, i, hi, hm => by
    have h2 : ∀ x7, lockfile_Drift_j7 n a0 a1 w3 x4 lp1 x7 = lockfile_Drift_j3 n a0 a1 w3 x4 lp1 x7 (posL x4 0 a1) := by
      intro x7
      unfold lockfile_Drift_j7 lockfile_Drift_j2
      exact drift_l2 a0 a1 w3 x4 lp1 x7 hl n 0 (by omega) (by omega)
    simp only [lockfile_Drift_l3]
    unfold lockfile_Drift_j8
    by_cases h : i = a0.length
    · rw [if_neg (by rw [decide_eq_true_eq]; omega), h, List.drop_length, h2]
      rfl
    · have hlt : i < a0.length := by omega
      rw [if_pos (by rw [decide_eq_true_eq]; omega), gidx_nat, getElem?_lt hlt, bsome, ifdec, gadd_nat (by omega), bsome, drift_l3 hn a0 a1 w3 x4 lp1 hl hl0 m (i + 1) (by omega) (by omega), List.drop_eq_getElem_cons hlt, posL_cons, h2]
      by_cases hp : a0[i].Package = x4
      · rw [if_pos hp, if_pos hp]
      · rw [if_neg hp, if_neg hp]
end Go.Proofs.YtpcmhhbocifbcaaGreatDoor
namespace Go.Proofs.YtpcmhhbocifbcaaGreatDoor
open Go.PW Go
theorem etaE (e : SPackageVersionDigest) : (⟨e.Package, (⟨e.Version.Major, e.Version.Minor, e.Version.Patch, e.Version.Pre⟩ : SMajorMinorPatchPre), e.Digest⟩ : SPackageVersionDigest) = e := rfl
theorem ent_pack {l : List SPackageVersionDigest} {p : Int} {x : SPackageVersionDigest} (h : ent l p = some x) : x.Package = p := by
  unfold ent at h
  have := List.find?_some h
  simpa using this
theorem ent_mem {l : List SPackageVersionDigest} {p : Int} {x : SPackageVersionDigest} (h : ent l p = some x) : x ∈ l := List.mem_of_find?_eq_some h
theorem eq_entry {x y : SPackageVersionDigest} (h1 : x.Package = y.Package) (h2 : x.Version = y.Version) (h3 : x.Digest = y.Digest) : x = y := by
  obtain ⟨a, b, c⟩ := x
  obtain ⟨d, e, f⟩ := y
  simp only [] at h1 h2 h3
  subst h1 h2 h3
  rfl
def pick (q : Int → Bool) : Nat → Int → List Int
  | 0, _ => []
  | k + 1, p => if q p = true then p :: pick q k (p + 1) else pick q k (p + 1)
theorem pick_succ (q : Int → Bool) (k : Nat) (p : Int) : pick q (k + 1) p = if q p = true then p :: pick q k (p + 1) else pick q k (p + 1) := rfl
theorem pick_mem {q : Int → Bool} : ∀ {k : Nat} {p x : Int}, x ∈ pick q k p ↔ (p ≤ x ∧ x < p + k) ∧ q x = true
  | 0, p, x => by
    unfold pick
    constructor
    · intro h; cases h
    · intro h; omega
  | k + 1, p, x => by
    have ih := pick_mem (q := q) (k := k) (p := p + 1) (x := x)
    rw [pick_succ]
    by_cases h : q p = true
    · rw [if_pos h, List.mem_cons, ih]
      constructor
      · rintro (rfl | h2)
        · exact ⟨by omega, h⟩
        · exact ⟨by omega, h2.2⟩
      · intro h2
        by_cases e : x = p
        · exact .inl e
        · exact .inr ⟨by omega, h2.2⟩
    · rw [if_neg h, ih]
      constructor
      · intro h2; exact ⟨by omega, h2.2⟩
      · intro h2
        have : x ≠ p := fun e => h (e ▸ h2.2)
        exact ⟨by omega, h2.2⟩
theorem pick_len (q : Int → Bool) : ∀ (k : Nat) (p : Int), (pick q k p).length ≤ k
  | 0, _ => Nat.le_refl _
  | k + 1, p => by
    have := pick_len q k (p + 1)
    rw [pick_succ]
    split
    · simp only [List.length_cons]; omega
    · omega
theorem pick_congr {q q' : Int → Bool} : ∀ (k : Nat) (p : Int), (∀ x, p ≤ x → x < p + k → q x = q' x) → pick q k p = pick q' k p
  | 0, _, _ => rfl
  | k + 1, p, h => by
    rw [pick_succ, pick_succ, h p (by omega) (by omega), pick_congr k (p + 1) (fun x h1 h2 => h x (by omega) (by omega))]
def drq (a b : List SPackageVersionDigest) (p : Int) : Bool := decide (ent a p ≠ ent b p)
def drifts (a b : List SPackageVersionDigest) : List Int := pick (drq a b) 6 0
theorem drift_j3 {n : Nat} (hn : 1000 < n) {a0 a1 : List SPackageVersionDigest} (h0 : ∀ x ∈ a0, okv x.Version) (h1 : ∀ x ∈ a1, okv x.Version) (w3 : List Int) (x4 : Int) (lp1 : List Int → Int → Option (List Int × SCodeIndex)) :
    lockfile_Drift_j3 n a0 a1 w3 x4 lp1 (posL x4 0 a0) (posL x4 0 a1) = lockfile_Drift_j4 n w3 x4 lp1 (drq a0 a1 x4) := by
  unfold lockfile_Drift_j3 drq
  rcases posL_spec x4 a0 a0 0 rfl with ⟨p1, p2⟩ | ⟨j, p1, x, p2, p3⟩
  · rcases posL_spec x4 a1 a1 0 rfl with ⟨q1, q2⟩ | ⟨k, q1, y, q2, q3⟩
    · rw [decide_eq_true p1, decide_eq_true q1, if_neg (by simp), if_neg (by rw [decide_eq_true_eq]; omega), p2, q2]
      simp
    · rw [decide_eq_true p1, decide_eq_false (show ¬ posL x4 0 a1 < 0 by omega), if_pos (by decide), p2, q3]
      simp
  · rcases posL_spec x4 a1 a1 0 rfl with ⟨q1, q2⟩ | ⟨k, q1, y, q2, q3⟩
    · rw [decide_eq_true q1, decide_eq_false (show ¬ posL x4 0 a0 < 0 by omega), if_pos (by decide), q2, p3]
      simp
    · rw [decide_eq_false (show ¬ posL x4 0 a0 < 0 by omega), decide_eq_false (show ¬ posL x4 0 a1 < 0 by omega), if_neg (by simp), if_pos (by rw [decide_eq_true_eq]; omega), p1, q1, gidx_nat, gidx_nat, p2, q2, bsome, bsome, etaV, etaV, p3, q3, ifdec]
      have px := ent_pack p3
      have py := ent_pack q3
      by_cases hd : x.Digest ≠ y.Digest
      · rw [if_pos hd, decide_eq_true (show some x ≠ some y from fun e => hd (by injection e with e; rw [e]))]
      · rw [if_neg hd, order_eq hn (h0 x (ent_mem p3)) (h1 y (ent_mem q3)), bsome]
        have e : (vo x.Version y.Version ≠ 0) ↔ (some x ≠ some y) := by
          constructor
          · intro h e; injection e with e; exact h (vo_zero.2 (by rw [e]))
          · intro h e; exact h (congrArg some (eq_entry (px.trans py.symm) (vo_zero.1 e) (Classical.not_not.1 hd)))
        rw [decide_eq_decide.2 e]
theorem drift_l1 {n : Nat} (hn : 1000 < n) {a0 a1 : List SPackageVersionDigest} (l0 : a0.length ≤ 6) (l1 : a1.length ≤ 6) (h0 : ∀ x ∈ a0, okv x.Version) (h1 : ∀ x ∈ a1, okv x.Version) : ∀ (m p k : Nat) (w : List Int), p + k = 6 → k < m → w.length ≤ p →
    lockfile_Drift_l1 n a0 a1 m w p = some (w ++ pick (drq a0 a1) k p, ⟨0, 0⟩)
  | 0, _, _, _, _, h, _ => by omega
  | m + 1, p, 0, w, hp, hm, hw => by
    simp only [lockfile_Drift_l1]
    rw [if_neg (by rw [decide_eq_true_eq]; omega)]
    simp [pick]
  | m + 1, p, k + 1, w, hp, hm, hw => by
    simp only [lockfile_Drift_l1]
    have key := drift_l3 (n := n) (by omega) a0 a1 w p (lockfile_Drift_l1 n a0 a1 m) l1 l0 n 0 (by omega) (by omega)
    rw [List.drop_zero, show ((0 : Nat) : Int) = 0 from rfl, drift_j3 hn h0 h1] at key
    rw [if_pos (by rw [decide_eq_true_eq]; omega), key, pick_succ]
    unfold lockfile_Drift_j4 lockfile_Drift_j1
    rw [gapp_ok (by simp; omega), bsome, gadd_nat (by omega), bsome, bsome, show ((p : Int) + 1) = ((p + 1 : Nat) : Int) by omega]
    by_cases h : drq a0 a1 p = true
    · rw [if_pos h, if_pos h, drift_l1 hn l0 l1 h0 h1 m (p + 1) k _ (by omega) (by omega) (by simp; omega)]
      simp
    · rw [if_neg h, if_neg h, drift_l1 hn l0 l1 h0 h1 m (p + 1) k _ (by omega) (by omega) (by omega)]
theorem beqL (l : List SPackageVersionDigest) {α : Type} (x y : α) : (if (((lfault l).Code == 0 && ((lfault l).Index == 0 && true)) != true) = true then x else y) = if (lfault l).Code = 0 then y else x := by
  rw [beqF, ifnot]
  by_cases h : (lfault l).Code = 0
  · rw [if_pos (lfault_zero h), if_pos h]
  · rw [if_neg (fun e => h (by rw [e])), if_neg h]
theorem drift_eq {n : Nat} (hn : 1000 < n) (a b : List SPackageVersionDigest) : lockfile_Drift n a b = some (if (lfault a).Code = 0 then (if (lfault b).Code = 0 then (drifts a b, ⟨0, 0⟩) else ([], ⟨(lfault b).Code, -2⟩)) else ([], lfault a)) := by
  unfold lockfile_Drift
  rw [lvalidate_eq hn, lvalidate_eq hn]
  simp only [bsome]
  rw [beqL, beqL]
  by_cases ha : (lfault a).Code = 0
  · rw [if_pos ha, if_pos ha]
    by_cases hb : (lfault b).Code = 0
    · rw [if_pos hb, if_pos hb]
      obtain ⟨a1, a2, a3⟩ := lfault_iff.1 ha
      obtain ⟨b1, b2, b3⟩ := lfault_iff.1 hb
      have := drift_l1 hn a1 b1 (fun x hx => (a2 x hx).2.1) (fun x hx => (b2 x hx).2.1) n 0 6 [] (by omega) (by omega) (by simp)
      rw [List.nil_append] at this
      exact this
    · rw [if_neg hb, if_neg hb]
  · rw [if_neg ha, if_neg ha]
theorem samelock_l1 {n : Nat} (hn : 1100 < n) (a b : List SPackageVersionDigest) (hl : a.length = b.length) (hb : a.length ≤ 1000) (hp : ∀ x ∈ a, x.Version.Pre.length ≤ 1000) : ∀ (m i : Nat), i ≤ a.length → a.length - i < m → ref6_SameLock_l1 n a b m i = some (decide (a.drop i = b.drop i))
  | 0, i, _, h => by omega
  | m + 1, i, hi, hm => by
    simp only [ref6_SameLock_l1]
    unfold ref6_SameLock_j1
    by_cases h : i = a.length
    · rw [if_neg (by rw [decide_eq_true_eq]; omega), List.drop_eq_nil_of_le (by omega), List.drop_eq_nil_of_le (by omega)]
      rfl
    · have hlt : i < a.length := by omega
      have hlw : i < b.length := by omega
      rw [if_pos (by rw [decide_eq_true_eq]; omega), gidx_nat, gidx_nat, getElem?_lt hlt, getElem?_lt hlw, bsome, bsome, ifdec, ifdec, etaV, etaV, same_iff (by omega) _ _ (hp _ (List.getElem_mem hlt)), bsome, ifnot, gadd_nat (by omega), bsome, samelock_l1 hn a b hl hb hp m (i + 1) (by omega) (by omega), List.drop_eq_getElem_cons hlt, List.drop_eq_getElem_cons hlw]
      simp only [if_true]
      by_cases h1 : a[i].Package ≠ b[i].Package
      · rw [if_pos h1, decide_eq_false (fun e => h1 (by rw [(List.cons.inj e).1]))]
      rw [if_neg h1]
      by_cases h2 : a[i].Digest ≠ b[i].Digest
      · rw [if_pos h2, decide_eq_false (fun e => h2 (by rw [(List.cons.inj e).1]))]
      rw [if_neg h2]
      by_cases h3 : a[i].Version = b[i].Version
      · have e := eq_entry (Classical.not_not.1 h1) h3 (Classical.not_not.1 h2)
        rw [if_pos h3]
        congr 1
        rw [decide_eq_decide]
        constructor
        · intro h; rw [e, h]
        · intro h; exact (List.cons.inj h).2
      · rw [if_neg h3, decide_eq_false (fun e => h3 (by rw [(List.cons.inj e).1]))]
theorem samelock_eq {n : Nat} (hn : 1100 < n) (a b : List SPackageVersionDigest) (hb : a.length ≤ 1000) (hp : ∀ x ∈ a, x.Version.Pre.length ≤ 1000) : ref6_SameLock n a b = some (decide (a = b)) := by
  unfold ref6_SameLock
  rw [ifdec]
  by_cases h : a.length = b.length
  · rw [if_neg (by omega)]
    have := samelock_l1 hn a b h hb hp n 0 (by omega) (by omega)
    rw [List.drop_zero, List.drop_zero] at this
    exact this
  · rw [if_pos (by omega), decide_eq_false (fun e => h (by rw [e]))]
theorem of_eqf {n : Nat} {l : List SPackageVersionDigest} (hl : l.length ≤ 6) (p : Int) : ∀ (m i : Nat) (s : List SPackageVersionDigest), i ≤ l.length → l.length - i < m → s.length ≤ i → ref6_of_l1 n l p m s i = some (s ++ (l.drop i).filter (fun x => decide (x.Package = p)))
  | 0, i, _, _, h, _ => by omega
  | m + 1, i, s, hi, hm, hs => by
    simp only [ref6_of_l1]
    by_cases h : i = l.length
    · rw [if_neg (by rw [decide_eq_true_eq]; omega), h, List.drop_length]
      simp
    · have hlt : i < l.length := by omega
      unfold ref6_of_j1
      rw [if_pos (by rw [decide_eq_true_eq]; omega), gidx_nat, getElem?_lt hlt, bsome, ifdec, etaE, gapp_ok (by simp; omega), bsome, gadd_nat (by omega), bsome, bsome, List.drop_eq_getElem_cons hlt]
      by_cases hd : l[i].Package = p
      · rw [if_pos hd, of_eqf hl p m (i + 1) _ (by omega) (by omega) (by simp; omega), List.filter_cons_of_pos (by simpa using hd)]
        simp
      · rw [if_neg hd, of_eqf hl p m (i + 1) _ (by omega) (by omega) (by omega), List.filter_cons_of_neg (by simpa using hd)]
theorem filter_ent (p : Int) : ∀ {l : List SPackageVersionDigest}, l.Pairwise (fun a b => a.Package < b.Package) → l.filter (fun x => decide (x.Package = p)) = (ent l p).toList
  | [], _ => rfl
  | x :: l, h => by
    have h1 := List.pairwise_cons.1 h
    have ih := filter_ent p h1.2
    unfold ent at ih ⊢
    by_cases hx : x.Package = p
    · rw [List.filter_cons_of_pos (by simpa using hx), List.find?_cons_of_pos (by simpa using hx)]
      have : l.filter (fun x => decide (x.Package = p)) = [] := by
        rw [List.filter_eq_nil_iff]
        intro y hy
        have := h1.1 y hy
        rw [decide_eq_true_eq]
        omega
      rw [this]
      rfl
    · rw [List.filter_cons_of_neg (by simpa using hx), List.find?_cons_of_neg (by simpa using hx), ih]
theorem toList_inj {α : Type} : ∀ {a b : Option α}, a.toList = b.toList ↔ a = b
  | none, none => by simp
  | none, some _ => by simp
  | some _, none => by simp
  | some _, some _ => by simp
theorem okv_pre1000 {v : SMajorMinorPatchPre} (h : okv v) : v.Pre.length ≤ 1000 := by have := (okv_pre h).1; omega
theorem rdrift_l1 {n : Nat} (hn : 1100 < n) {a b : List SPackageVersionDigest} (ha : (lfault a).Code = 0) (hb : (lfault b).Code = 0) : ∀ (m p k : Nat) (w : List Int), p + k = 6 → k < m → w.length ≤ p →
    ref6_Drift_l1 n a b m w p = some (w ++ pick (drq a b) k p)
  | 0, _, _, _, _, h, _ => by omega
  | m + 1, p, 0, w, hp, hm, hw => by
    simp only [ref6_Drift_l1]
    rw [if_neg (by rw [decide_eq_true_eq]; omega)]
    simp [pick]
  | m + 1, p, k + 1, w, hp, hm, hw => by
    simp only [ref6_Drift_l1]
    obtain ⟨a1, a2, a3⟩ := lfault_iff.1 ha
    obtain ⟨b1, b2, b3⟩ := lfault_iff.1 hb
    have ea : ref6_of n a p = some ((ent a p).toList) := by
      have := of_eqf (n := n) a1 (p : Int) n 0 [] (by omega) (by omega) (by simp)
      rw [List.drop_zero, List.nil_append, filter_ent _ a3] at this
      exact this
    have eb : ref6_of n b p = some ((ent b p).toList) := by
      have := of_eqf (n := n) b1 (p : Int) n 0 [] (by omega) (by omega) (by simp)
      rw [List.drop_zero, List.nil_append, filter_ent _ b3] at this
      exact this
    have es := samelock_eq hn ((ent a p).toList) ((ent b p).toList) (by cases ent a p <;> simp) (fun x hx => okv_pre1000 (a2 x (ent_mem (p := p) (by simpa using hx))).2.1)
    have ed : (decide ((ent a p).toList = (ent b p).toList)) = !drq a b p := by
      unfold drq
      rw [show decide ((ent a p).toList = (ent b p).toList) = decide (ent a p = ent b p) from decide_eq_decide.2 toList_inj]
      by_cases h : ent a p = ent b p <;> simp [h]
    rw [if_pos (by rw [decide_eq_true_eq]; omega), ea, bsome, eb, bsome, es, bsome, ed, Bool.not_not, pick_succ]
    unfold ref6_Drift_j1
    rw [gapp_ok (by simp; omega), bsome, gadd_nat (by omega), bsome, bsome, show ((p : Int) + 1) = ((p + 1 : Nat) : Int) by omega]
    by_cases h : drq a b p = true
    · rw [if_pos h, if_pos h, rdrift_l1 hn ha hb m (p + 1) k _ (by omega) (by omega) (by simp; omega)]
      simp
    · rw [if_neg h, if_neg h, rdrift_l1 hn ha hb m (p + 1) k _ (by omega) (by omega) (by omega)]
theorem rdrift_eq {n : Nat} (hn : 1100 < n) {a b : List SPackageVersionDigest} (ha : (lfault a).Code = 0) (hb : (lfault b).Code = 0) : ref6_Drift n a b = some (drifts a b) := by
  have := rdrift_l1 hn ha hb n 0 6 [] (by omega) (by omega) (by simp)
  rw [List.nil_append] at this
  exact this
end Go.Proofs.YtpcmhhbocifbcaaGreatDoor
namespace Go.Proofs.YtpcmhhbocifbcaaGreatDoor
open Go.PW Go
theorem loop_fin {α S R : Type} {l : List α} {L : Nat → S → Int → Option R} (z : Option R) (I : S → Nat → Prop)
    (hstep : ∀ m s (i : Nat) x, I s i → i < l.length → l[i]? = some x → ∃ s', I s' (i + 1) ∧ L (m + 1) s i = L m s' ((i + 1 : Nat) : Int))
    (hend : ∀ m s, I s l.length → L (m + 1) s (l.length : Int) = z) :
    ∀ m s (i : Nat), I s i → i ≤ l.length → l.length - i < m → L m s i = z := by
  intro m
  induction m with
  | zero => intro s i _ _ h; omega
  | succ m ih =>
    intro s i hi hl hm
    by_cases h : i = l.length
    · subst h
      exact hend m s hi
    · have hlt : i < l.length := by omega
      obtain ⟨s', h1, h2⟩ := hstep m s i _ hi hlt (getElem?_lt hlt)
      rw [h2]
      exact ih s' (i + 1) h1 (by omega) (by omega)
theorem ints_eq {n : Nat} (hn : 1000 < n) (l : List Int) (hl : l.length ≤ 100) : ref5_Ints n l l = some true := by
  unfold ref5_Ints
  rw [if_neg (by simp)]
  refine loop_fin (l := l) (L := fun m (_ : Unit) i => ref5_Ints_l1 n l l m i) (some true) (fun _ _ => True) ?_ ?_ n () 0 trivial (by omega) (by omega)
  · intro m s i x _ hi hx
    refine ⟨(), trivial, ?_⟩
    show ref5_Ints_l1 n l l (m + 1) i = ref5_Ints_l1 n l l m _
    simp only [ref5_Ints_l1]
    rw [if_pos (by rw [decide_eq_true_eq]; omega), gidx_nat, hx, bsome, bsome, if_neg (by simp), gadd_nat (by omega), bsome]
  · intro m s _
    show ref5_Ints_l1 n l l (m + 1) _ = _
    simp only [ref5_Ints_l1]
    rw [if_neg (by rw [decide_eq_true_eq]; omega)]
theorem wide_ex {n : Nat} (hn : 1000 < n) (l : List SPackageVersionDigest) : ∃ b, law6_wideLock n l = some b := by
  have fin : ∀ i lp, ∃ b, law6_wideLock_j1 n l i lp false = some b ∧ True := by
    intro i lp
    unfold law6_wideLock_j1
    exact ⟨_, if_neg (by simp), trivial⟩
  have h := loop_ex (L := fun m i => law6_wideLock_l1 n l m i) 20 (fun _ => True) ?_ ?_ n 0 (by omega) (by omega)
  · obtain ⟨b, hb, -⟩ := h; exact ⟨b, hb⟩
  · intro m i hi ⟨b, hb, _⟩
    have hb : law6_wideLock_l1 n l m ((i + 1 : Nat) : Int) = some b := hb
    show ∃ b, law6_wideLock_l1 n l (m + 1) i = some b ∧ True
    simp only [law6_wideLock_l1]
    rw [ifdec]
    by_cases h1 : i < l.length
    · rw [if_pos (by omega), decide_eq_true (show (i : Int) < 20 by omega)]
      unfold law6_wideLock_j1
      rw [if_pos rfl, gidx_nat, getElem?_lt h1, bsome, gadd_nat (by omega), bsome, hb]
      split
      · exact ⟨_, rfl, trivial⟩
      · exact ⟨_, rfl, trivial⟩
    · rw [if_neg (by omega)]; exact fin _ _
  · intro m
    show ∃ b, law6_wideLock_l1 n l (m + 1) (20 : Nat) = some b ∧ True
    simp only [law6_wideLock_l1]
    split
    · rw [decide_eq_false (by omega)]; exact fin _ _
    · exact fin _ _
theorem corr_len : ∀ (l : List SPackageVersionDigest) (i : Int), (corr i l).length ≤ l.length
  | [], _ => Nat.le_refl _
  | x :: l, i => by
    have := corr_len l (i + 1)
    rw [corr_cons]
    split
    · simp only [List.length_cons]; omega
    · simp only [List.length_cons]; omega
theorem corrupt_eq (l : List SPackageVersionDigest) : lockfile_Corrupt 2000 l = some (if (lfault l).Code = 0 then (corr 0 l, ⟨0, 0⟩) else ([], lfault l)) := by
  unfold lockfile_Corrupt
  rw [lvalidate_eq (by omega), bsome, beqL]
  by_cases h : (lfault l).Code = 0
  · obtain ⟨a1, a2, a3⟩ := lfault_iff.1 h
    have := corrupt_l1 a1 (fun x hx => (a2 x hx).2.1) 2000 0 [] (by omega) (by omega) (by simp)
    rw [List.nil_append, List.drop_zero] at this
    rw [if_pos h, if_pos h]
    exact this
  · rw [if_neg h, if_neg h]
theorem rcorrupt_eq {l : List SPackageVersionDigest} (h : (lfault l).Code = 0) : ref6_Corrupt 2000 l = some (corr 0 l) := by
  obtain ⟨a1, a2, a3⟩ := lfault_iff.1 h
  have := rcorrupt_l1 a1 (fun x hx => (a2 x hx).2.1) 2000 0 [] (by omega) (by omega) (by simp)
  rw [List.nil_append, List.drop_zero] at this
  exact this
theorem beqRefl (r : SCodeIndex) : (r.Code == r.Code && (r.Index == r.Index && true)) = true := by simp
theorem drifts_len (a b : List SPackageVersionDigest) : (drifts a b).length ≤ 6 := pick_len _ _ _
theorem law_match (a b : List SPackageVersionDigest) : law6_LockfileMatchesSpec 2000 a b = some true := by
  unfold law6_LockfileMatchesSpec
  rw [locks_eq, bsome, if_neg (by simp)]
  obtain ⟨u, hu⟩ := wide_ex (n := 2000) (by omega) a
  obtain ⟨v, hv⟩ := wide_ex (n := 2000) (by omega) b
  rw [hu, hv, bsome, bsome]
  have main : law6_LockfileMatchesSpec_j1 2000 a b false = some true := by
    unfold law6_LockfileMatchesSpec_j1
    rw [if_neg (by simp), rlvalidate_eq (by omega), lvalidate_eq (by omega), corrupt_eq]
    simp only [bsome]
    rw [beqRefl, if_neg (by simp)]
    unfold law6_LockfileMatchesSpec_j2 law6_LockfileMatchesSpec_j5 law6_LockfileMatchesSpec_j3 law6_LockfileMatchesSpec_j4 law6_fault
    rw [drift_eq (by omega), rlvalidate_eq (by omega)]
    simp only [bsome]
    by_cases ha : (lfault a).Code = 0
    · have hz := lfault_zero ha
      have hl := (lfault_iff.1 ha).1
      have hc := corr_len a 0
      rw [if_pos ha, if_pos ha, rcorrupt_eq ha]
      simp only [bsome]
      rw [ints_eq (by omega) _ (by omega), hz]
      simp only [bsome]
      by_cases hb : (lfault b).Code = 0
      · rw [if_pos hb, rdrift_eq (by omega) ha hb]
        simp only [bsome]
        rw [ints_eq (by omega) _ (by have := drifts_len a b; omega), hb]
        rfl
      · rw [if_neg hb]
        simp [hb, bsome]
    · rw [if_neg ha, if_neg ha]
      simp [ha, bsome]
  cases u with
  | true => rfl
  | false =>
    cases v with
    | true => rfl
    | false => exact main
end Go.Proofs.YtpcmhhbocifbcaaGreatDoor
namespace Go.Proofs.YtpcmhhbocifbcaaGreatDoor
open Go.PW Go
theorem lock_ext : ∀ (l1 l2 : List SPackageVersionDigest), l1.Pairwise (fun a b => a.Package < b.Package) → l2.Pairwise (fun a b => a.Package < b.Package) → (∀ x, x ∈ l1 ↔ x ∈ l2) → l1 = l2
  | [], [], _, _, _ => rfl
  | [], y :: l, _, _, h => by have := (h y).2 List.mem_cons_self; cases this
  | x :: l, [], _, _, h => by have := (h x).1 List.mem_cons_self; cases this
  | x :: l1, y :: l2, h1, h2, h => by
    obtain ⟨a1, a2⟩ := List.pairwise_cons.1 h1
    obtain ⟨b1, b2⟩ := List.pairwise_cons.1 h2
    have e : x = y := by
      have hx := (h x).1 List.mem_cons_self
      have hy := (h y).2 List.mem_cons_self
      rcases List.mem_cons.1 hx with g | g
      · exact g
      · rcases List.mem_cons.1 hy with g' | g'
        · exact g'.symm
        · have := b1 x g
          have := a1 y g'
          omega
    subst e
    rw [lock_ext l1 l2 a2 b2 fun z => ?_]
    constructor
    · intro hz
      have := a1 z hz
      rcases List.mem_cons.1 ((h z).1 (List.mem_cons_of_mem _ hz)) with g | g
      · subst g; omega
      · exact g
    · intro hz
      have := b1 z hz
      rcases List.mem_cons.1 ((h z).2 (List.mem_cons_of_mem _ hz)) with g | g
      · subst g; omega
      · exact g
theorem ent_of_mem : ∀ {l : List SPackageVersionDigest}, l.Pairwise (fun a b => a.Package < b.Package) → ∀ x ∈ l, ent l x.Package = some x
  | [], _, _, h => by cases h
  | y :: l, hp, x, h => by
    obtain ⟨a1, a2⟩ := List.pairwise_cons.1 hp
    unfold ent
    rcases List.mem_cons.1 h with g | g
    · subst g
      rw [List.find?_cons_of_pos (by simp)]
    · have := a1 x g
      rw [List.find?_cons_of_neg (by simp; omega)]
      exact ent_of_mem a2 x g
theorem drifts_nil {a b : List SPackageVersionDigest} (ha : (lfault a).Code = 0) (hb : (lfault b).Code = 0) : drifts a b = [] ↔ a = b := by
  obtain ⟨a1, a2, a3⟩ := lfault_iff.1 ha
  obtain ⟨b1, b2, b3⟩ := lfault_iff.1 hb
  constructor
  · intro h
    have hq : ∀ p : Int, 0 ≤ p → p < 6 → ent a p = ent b p := by
      intro p h1 h2
      by_cases e : ent a p = ent b p
      · exact e
      · have : p ∈ drifts a b := pick_mem.2 ⟨by omega, decide_eq_true e⟩
        rw [h] at this
        cases this
    refine lock_ext a b a3 b3 fun x => ⟨fun hx => ?_, fun hx => ?_⟩
    · have h1 := (a2 x hx).1
      have := hq x.Package (by omega) (by omega)
      rw [ent_of_mem a3 x hx] at this
      exact ent_mem this.symm
    · have h1 := (b2 x hx).1
      have := hq x.Package (by omega) (by omega)
      rw [ent_of_mem b3 x hx] at this
      exact ent_mem this
  · rintro rfl
    have : ∀ x, ¬ x ∈ drifts a a := by
      intro x hx
      have := (pick_mem.1 hx).2
      unfold drq at this
      simp at this
    exact List.eq_nil_iff_forall_not_mem.2 this
theorem drifts_symm (a b : List SPackageVersionDigest) : drifts a b = drifts b a := by
  unfold drifts
  refine pick_congr 6 0 fun x _ _ => ?_
  unfold drq
  rw [decide_eq_decide]
  exact ⟨fun h e => h e.symm, fun h e => h e.symm⟩
theorem has_l1 {n : Nat} (l : List Int) (hl : l.length ≤ 1000) (x : Int) : ∀ (m i : Nat), i ≤ l.length → l.length - i < m → ref5_Has_l1 n l x m i = some (decide (x ∈ l.drop i))
  | 0, i, _, h => by omega
  | m + 1, i, hi, hm => by
    simp only [ref5_Has_l1]
    by_cases h : i = l.length
    · rw [if_neg (by rw [decide_eq_true_eq]; omega), h, List.drop_length]
      rfl
    · have hlt : i < l.length := by omega
      rw [if_pos (by rw [decide_eq_true_eq]; omega), gidx_nat, getElem?_lt hlt, bsome, ifdec, gadd_nat (by omega), bsome, has_l1 l hl x m (i + 1) (by omega) (by omega), List.drop_eq_getElem_cons hlt]
      by_cases he : l[i] = x
      · rw [if_pos he]
        simp [he]
      · rw [if_neg he]
        congr 1
        rw [decide_eq_decide]
        rw [List.mem_cons]
        exact ⟨fun h => .inr h, fun h => h.resolve_left (fun e => he e.symm)⟩
theorem has_eq {n : Nat} (hn : 1000 < n) (l : List Int) (hl : l.length ≤ 100) (x : Int) : ref5_Has n l x = some (decide (x ∈ l)) := by
  have := has_l1 (n := n) l (by omega) x n 0 (by omega) (by omega)
  rw [List.drop_zero] at this
  exact this
theorem dist_l1 {n : Nat} (hn : 1000 < n) (a b c : List SPackageVersionDigest) (z1 z2 z3 : SCodeIndex) : ∀ (m i : Nat), i ≤ (drifts a c).length → (drifts a c).length - i < m → law6_LockfileDriftIsADistance_l1 n (drifts a b, z1) (drifts b c, z2) (drifts a c, z3) m i = some true
  | 0, i, _, h => by omega
  | m + 1, i, hi, hm => by
    simp only [law6_LockfileDriftIsADistance_l1]
    have hl := drifts_len a c
    by_cases h : i = (drifts a c).length
    · rw [if_neg (by rw [decide_eq_true_eq]; omega)]
    · have hlt : i < (drifts a c).length := by omega
      have hm1 : (drifts a c)[i] ∈ drifts a c := List.getElem_mem hlt
      have hor : (drifts a c)[i] ∈ drifts a b ∨ (drifts a c)[i] ∈ drifts b c := by
        obtain ⟨h1, h2⟩ := pick_mem.1 hm1
        unfold drq at h2
        rw [decide_eq_true_eq] at h2
        by_cases e : ent a (drifts a c)[i] = ent b (drifts a c)[i]
        · refine .inr (pick_mem.2 ⟨h1, decide_eq_true ?_⟩)
          rw [← e]
          exact h2
        · exact .inl (pick_mem.2 ⟨h1, decide_eq_true e⟩)
      unfold law6_LockfileDriftIsADistance_j5
      rw [if_pos (by rw [decide_eq_true_eq]; omega), gidx_nat, getElem?_lt hlt, bsome, has_eq hn _ (by have := drifts_len a b; omega), bsome, has_eq hn _ (by have := drifts_len b c; omega), bsome, ifnot, gadd_nat (by omega), bsome, dist_l1 hn a b c z1 z2 z3 m (i + 1) (by omega) (by omega)]
      by_cases h1 : (drifts a c)[i] ∈ drifts a b
      · rw [if_pos h1]
        rfl
      · rw [if_neg h1, decide_eq_true (hor.resolve_left h1)]
        rfl
theorem law_distance (a b c : List SPackageVersionDigest) : law6_LockfileDriftIsADistance 2000 a b c = some true := by
  unfold law6_LockfileDriftIsADistance
  rw [locks_eq, bsome, if_neg (by simp)]
  obtain ⟨u, hu⟩ := wide_ex (n := 2000) (by omega) a
  obtain ⟨v, hv⟩ := wide_ex (n := 2000) (by omega) b
  obtain ⟨w, hw⟩ := wide_ex (n := 2000) (by omega) c
  rw [hu, hv, hw, bsome, bsome, bsome]
  have main : law6_LockfileDriftIsADistance_j1 2000 a b c false = some true := by
    unfold law6_LockfileDriftIsADistance_j1 law6_LockfileDriftIsADistance_j2 law6_LockfileDriftIsADistance_j3
    rw [if_neg (by simp), drift_eq (by omega), drift_eq (by omega), drift_eq (by omega), drift_eq (by omega)]
    simp only [bsome]
    by_cases ha : (lfault a).Code = 0
    · by_cases hb : (lfault b).Code = 0
      · by_cases hc : (lfault c).Code = 0
        · rw [if_pos ha, if_pos hb, if_pos hb, if_pos ha, if_pos hb, if_pos hc, if_pos ha, if_pos hc]
          have hi := ints_eq (n := 2000) (by omega) (drifts a b) (by have := drifts_len a b; omega)
          have hl := (lfault_iff.1 ha).1
          have hs := samelock_eq (n := 2000) (by omega) a b (by omega) (fun x hx => okv_pre1000 ((lfault_iff.1 ha).2.1 x hx).2.1)
          have he : (decide (((drifts a b).length : Int) = 0)) = decide (a = b) := by
            rw [decide_eq_decide, ← drifts_nil ha hb]
            constructor
            · intro h; exact List.length_eq_zero_iff.1 (by omega)
            · intro h; rw [h]; rfl
          have hd := dist_l1 (n := 2000) (by omega) a b c ⟨0, 0⟩ ⟨0, 0⟩ ⟨0, 0⟩ 2000 0 (by omega) (by have := drifts_len a c; omega)
          rw [drifts_symm b a]
          simp only [ne_eq, not_true_eq_false, decide_false, Bool.false_eq_true, if_false]
          rw [hi, bsome, if_neg (by simp), hs, bsome, he]
          unfold law6_LockfileDriftIsADistance_j4
          rw [if_neg (by simp)]
          exact hd
        · simp [ha, hb, hc]
      · simp [ha, hb]
    · simp [ha]
      by_cases hb : (lfault b).Code = 0
      · by_cases hc : (lfault c).Code = 0
        · simp [hb, hc]
        · simp [hb, hc]
      · simp [hb]
  cases u with
  | true => rfl
  | false =>
    cases v with
    | true => rfl
    | false =>
      cases w with
      | true => rfl
      | false => exact main
end Go.Proofs.YtpcmhhbocifbcaaGreatDoor
namespace Go.Proofs.YtpcmhhbocifbcaaGreatDoor
open Go.PW Go
theorem sg_lt {x y : Int} : sg x y < 0 ↔ x < y := by
  unfold sg
  split
  · constructor <;> omega
  · split <;> constructor <;> omega
theorem lex_lt {x y r : Int} : (if sg x y ≠ 0 then sg x y else r) < 0 ↔ x < y ∨ (x = y ∧ r < 0) := by
  unfold sg
  by_cases h1 : x < y
  · simp [h1]
  · by_cases h2 : y < x
    · simp [h1, h2]
      omega
    · have : x = y := by omega
      simp [h1, h2, this]
theorem cb_lt (x y : UInt8) (a b : List UInt8) : cb (x :: a) (y :: b) < 0 ↔ x.toNat < y.toNat ∨ (x = y ∧ cb a b < 0) := by
  rw [cb_cons]
  by_cases h1 : x < y
  · rw [if_pos h1]
    have := UInt8.lt_iff_toNat_lt.1 h1
    exact ⟨fun _ => .inl this, fun _ => by omega⟩
  · rw [if_neg h1]
    have g1 : ¬ x.toNat < y.toNat := fun e => h1 (UInt8.lt_iff_toNat_lt.2 e)
    by_cases h2 : y < x
    · rw [if_pos h2]
      have g2 := UInt8.lt_iff_toNat_lt.1 h2
      refine ⟨fun h => by omega, fun h => ?_⟩
      rcases h with h | ⟨rfl, _⟩ <;> omega
    · rw [if_neg h2]
      have g2 : ¬ y.toNat < x.toNat := fun e => h2 (UInt8.lt_iff_toNat_lt.2 e)
      have e : x = y := UInt8.toNat_inj.1 (by omega)
      exact ⟨fun h => .inr ⟨e, h⟩, fun h => h.elim (fun h => absurd h g1) (·.2)⟩
theorem cb_trans : ∀ {a b c : List UInt8}, cb a b < 0 → cb b c < 0 → cb a c < 0
  | [], _, [], h1, h2 => by
    rename_i b
    cases b with
    | nil => exact h1
    | cons y b => exact absurd h2 (by show ¬ (1 : Int) < 0; omega)
  | [], _, _ :: _, _, _ => by show (-1 : Int) < 0; omega
  | _ :: _, [], _, h1, _ => absurd h1 (by show ¬ (1 : Int) < 0; omega)
  | _ :: _, _ :: _, [], _, h2 => absurd h2 (by show ¬ (1 : Int) < 0; omega)
  | x :: a, y :: b, z :: c, h1, h2 => by
    rw [cb_lt] at h1 h2 ⊢
    rcases h1 with h1 | ⟨rfl, h1⟩
    · rcases h2 with h2 | ⟨rfl, h2⟩
      · left; omega
      · left; exact h1
    · rcases h2 with h2 | ⟨rfl, h2⟩
      · left; exact h2
      · exact .inr ⟨rfl, cb_trans h1 h2⟩
theorem ci_trans {a b c : List UInt8} (h1 : ci a b < 0) (h2 : ci b c < 0) : ci a c < 0 := by
  unfold ci at h1 h2 ⊢
  cases ha : num a <;> cases hb : num b <;> cases hc : num c <;> simp only [ha, hb, hc, and_self, and_true, and_false, Bool.false_eq_true, if_true, if_false, lex_lt] at h1 h2 ⊢ <;> first | omega | exact cb_trans h1 h2 | skip
  rcases h1 with h1 | ⟨e1, h1⟩
  · rcases h2 with h2 | ⟨e2, h2⟩
    · left; omega
    · left; omega
  · rcases h2 with h2 | ⟨e2, h2⟩
    · left; omega
    · exact .inr ⟨by omega, cb_trans h1 h2⟩
theorem ci_self (x : List UInt8) : ci x x = 0 := by have := ci_neg x x; omega
theorem po_lt (x y : List UInt8) (a b : List (List UInt8)) : po (x :: a) (y :: b) < 0 ↔ ci x y < 0 ∨ (x = y ∧ po a b < 0) := by
  rw [po_cons]
  by_cases h : ci x y = 0
  · rw [if_neg (fun e => e h), h]
    exact ⟨fun g => .inr ⟨ci_zero h, g⟩, fun g => g.elim (fun g => by omega) (·.2)⟩
  · rw [if_pos h]
    refine ⟨fun g => .inl g, fun g => g.elim id fun g => ?_⟩
    rw [g.1, ci_self] at h
    exact absurd rfl h
theorem po_trans : ∀ {a b c : List (List UInt8)}, po a b < 0 → po b c < 0 → po a c < 0
  | [], _, [], h1, h2 => by
    rename_i b
    cases b with
    | nil => exact h1
    | cons y b => exact absurd h2 (by show ¬ (1 : Int) < 0; omega)
  | [], _, _ :: _, _, _ => by show (-1 : Int) < 0; omega
  | _ :: _, [], _, h1, _ => absurd h1 (by show ¬ (1 : Int) < 0; omega)
  | _ :: _, _ :: _, [], _, h2 => absurd h2 (by show ¬ (1 : Int) < 0; omega)
  | x :: a, y :: b, z :: c, h1, h2 => by
    rw [po_lt] at h1 h2 ⊢
    rcases h1 with h1 | ⟨rfl, h1⟩
    · rcases h2 with h2 | ⟨rfl, h2⟩
      · exact .inl (ci_trans h1 h2)
      · left; exact h1
    · rcases h2 with h2 | ⟨rfl, h2⟩
      · left; exact h2
      · exact .inr ⟨rfl, po_trans h1 h2⟩
def pr (a b : List (List UInt8)) : Int := if a.length = 0 ∨ b.length = 0 then sg b.length a.length else po a b
theorem pr_trans {a b c : List (List UInt8)} (h1 : pr a b < 0) (h2 : pr b c < 0) : pr a c < 0 := by
  unfold pr at h1 h2 ⊢
  by_cases ha : a.length = 0
  · rw [if_pos (.inl ha), sg_lt] at h1
    omega
  · by_cases hc : c.length = 0
    · rw [if_pos (.inr hc), sg_lt]
      omega
    · by_cases hb : b.length = 0
      · rw [if_pos (.inl hb), sg_lt] at h2
        omega
      · rw [if_neg (by omega)] at h1 h2 ⊢
        exact po_trans h1 h2
theorem vo_lt (a b : SMajorMinorPatchPre) : vo a b < 0 ↔ a.Major < b.Major ∨ (a.Major = b.Major ∧ (a.Minor < b.Minor ∨ (a.Minor = b.Minor ∧ (a.Patch < b.Patch ∨ (a.Patch = b.Patch ∧ pr a.Pre b.Pre < 0))))) := by
  unfold vo pr
  rw [lex_lt, lex_lt, lex_lt]
theorem vo_trans {a b c : SMajorMinorPatchPre} (h1 : vo a b < 0) (h2 : vo b c < 0) : vo a c < 0 := by
  rw [vo_lt] at h1 h2 ⊢
  have ht : pr a.Pre b.Pre < 0 → pr b.Pre c.Pre < 0 → pr a.Pre c.Pre < 0 := pr_trans
  omega
theorem rise {np : Int} {l : List SVersionNeeds} (h : rcode np l = 0) : ∀ (j i : Nat) (x y : SVersionNeeds), i < j → l[i]? = some x → l[j]? = some y → vo x.Version y.Version < 0
  | 0, _, _, _, h, _, _ => by omega
  | j + 1, i, x, y, hij, hx, hy => by
    have hj : j < l.length := by have := get_lt hy; omega
    have hv := ((rcode_iff.1 h).2 (j + 1) y hy).2.2
    rw [vbad_succ (getElem?_lt hj), decide_eq_false_iff_not] at hv
    have h1 : vo l[j].Version y.Version < 0 := by rw [vo_neg]; omega
    by_cases e : i = j
    · subst e
      rw [getElem?_lt hj] at hx
      injection hx with hx
      rw [← hx]
      exact h1
    · exact vo_trans (rise h j i x l[j] (by omega) hx (getElem?_lt hj)) h1
theorem rise_inj {np : Int} {l : List SVersionNeeds} (h : rcode np l = 0) {i j : Nat} {x y : SVersionNeeds} (hx : l[i]? = some x) (hy : l[j]? = some y) (e : x.Version = y.Version) : i = j := by
  have hz : vo x.Version y.Version = 0 := vo_zero.2 e
  have hz' : vo y.Version x.Version = 0 := vo_zero.2 e.symm
  rcases Nat.lt_trichotomy i j with g | g | g
  · have := rise h j i x y g hx hy; omega
  · exact g
  · have := rise h i j y x g hy hx; omega
end Go.Proofs.YtpcmhhbocifbcaaGreatDoor
namespace Go.Proofs.YtpcmhhbocifbcaaGreatDoor
open Go.PW Go
theorem u_small {u : SPackages} (h : (ufault u).Code = 0) : u.Packages.length ≤ 6 ∧ ∀ x ∈ u.Packages, rcode u.Packages.length x = 0 := by
  refine ⟨ufault_small h, fun x hx => ?_⟩
  unfold ufault at h
  split at h
  · cases h
  refine run_all (fun r : SCodeIndex => r.Code = 0) (fun x => rcode u.Packages.length x = 0) (fun _ _ _ _ h => ustep_l h) ?_ _ _ _ h x hx
  intro s i x s' h
  unfold ustep at h
  split at h
  · assumption
  · cases h
def inr1 (ps : List (List SVersionNeeds)) (i : Nat) (x : Int) : Bool := match ps[i]? with
  | some p => decide (-1 ≤ x ∧ x < p.length)
  | none => false
theorem inr1_some {ps : List (List SVersionNeeds)} {i : Nat} {p : List SVersionNeeds} (h : ps[i]? = some p) (x : Int) : inr1 ps i x = decide (-1 ≤ x ∧ x < p.length) := by
  unfold inr1
  rw [h]
def cstep (ps : List (List SVersionNeeds)) (_ : Unit) (i : Nat) (x : Int) : SCodeIndex ⊕ Unit := if inr1 ps i x = true then .inr () else .inl ⟨3, -4⟩
def cfault (u : SPackages) (c : List Int) : SCodeIndex := if c.length ≠ u.Packages.length then ⟨9, -3⟩ else run (cstep u.Packages) (fun _ => ⟨0, 0⟩) () 0 c
theorem cstep_l {ps : List (List SVersionNeeds)} {i : Nat} {x : Int} {r : SCodeIndex} (h : cstep ps () i x = .inl r) : ¬ r.Code = 0 := by
  unfold cstep at h
  split at h
  · cases h
  · injection h with h; subst h; simp
theorem cfault_zero {u : SPackages} {c : List Int} (h : (cfault u c).Code = 0) : cfault u c = ⟨0, 0⟩ := by
  have : (cfault u c).Code = 0 → cfault u c = ⟨0, 0⟩ := by
    unfold cfault
    split
    · intro h; cases h
    exact run_pred (fun r : SCodeIndex => r.Code = 0 → r = ⟨0, 0⟩) (fun _ _ _ _ h h0 => absurd h0 (cstep_l h)) (fun _ _ => rfl) _ _ _
  exact this h
theorem cfault_in {u : SPackages} {c : List Int} (h : (cfault u c).Code = 0) : c.length = u.Packages.length ∧ ∀ k x, c[k]? = some x → inr1 u.Packages k x = true := by
  unfold cfault at h
  split at h
  · cases h
  · rename_i hl
    refine ⟨Classical.not_not.1 hl, fun k x hx => ?_⟩
    have := run_inv (fun r : SCodeIndex => r.Code = 0) (fun _ _ _ h => cstep_l h) h k x hx
    rw [Nat.zero_add] at this
    unfold cstep at this
    split at this
    · assumption
    · cases this
theorem beqC (u : SPackages) (c : List Int) {α : Type} (x y : α) : (if (((cfault u c).Code == 0 && ((cfault u c).Index == 0 && true)) != true) = true then x else y) = if (cfault u c).Code = 0 then y else x := by
  rw [beqF, ifnot]
  by_cases h : (cfault u c).Code = 0
  · rw [if_pos (cfault_zero h), if_pos h]
  · rw [if_neg (fun e => h (by rw [e])), if_neg h]
theorem beqU (u : SPackages) {α : Type} (x y : α) : (if (((ufault u).Code == 0 && ((ufault u).Index == 0 && true)) != true) = true then x else y) = if (ufault u).Code = 0 then y else x := by
  rw [beqF, ifnot]
  by_cases h : (ufault u).Code = 0
  · rw [if_pos ((ufault_iff u).2 h), if_pos h]
  · rw [if_neg (fun e => h (by rw [e])), if_neg h]
theorem chosen_eq {n : Nat} (hn : 1000 < n) {u : SPackages} (hu : (ufault u).Code = 0) (c : List Int) : solver_Chosen n u c = some (cfault u c) := by
  obtain ⟨h1, h2⟩ := u_small hu
  unfold solver_Chosen cfault
  rw [ifdec]
  by_cases hl : c.length ≠ u.Packages.length
  · rw [if_pos (by omega), if_pos hl]
  rw [if_neg (by omega), if_neg hl]
  have hl := Classical.not_not.1 hl
  refine loop_eq (l := c) (L := fun m _ i => solver_Chosen_l1 n u c m i) _ _ (fun _ _ => True) ?_ (fun _ _ _ _ _ _ _ => trivial) ?_ n () 0 trivial (by omega) (by omega)
  · intro m s i x _ hi hx
    show solver_Chosen_l1 n u c (m + 1) i = _
    simp only [solver_Chosen_l1]
    have hp := getElem?_lt (show i < u.Packages.length by omega)
    have j1 : ∀ b : Bool, solver_Chosen_j1 n i (solver_Chosen_l1 n u c m) b = nxt (fun _ : Unit => solver_Chosen_l1 n u c m ((i + 1 : Nat) : Int)) (if b = true then .inl ⟨3, -4⟩ else .inr ()) := by
      intro b
      unfold solver_Chosen_j1
      rw [gadd_nat (by omega), bsome]
      cases b <;> rfl
    rw [if_pos (by rw [decide_eq_true_eq]; omega), gidx_nat, hx, bsome, ifdec, gidx_nat, hp, bsome, j1, j1]
    unfold cstep
    rw [inr1_some hp]
    by_cases g1 : x < -1
    · rw [if_pos g1, decide_eq_false (show ¬ (-1 ≤ x ∧ x < (u.Packages[i].length : Int)) by omega)]
      rfl
    · rw [if_neg g1]
      by_cases g2 : (u.Packages[i].length : Int) ≤ x
      · rw [decide_eq_true g2, decide_eq_false (show ¬ (-1 ≤ x ∧ x < (u.Packages[i].length : Int)) by omega)]
        rfl
      · rw [decide_eq_false g2, decide_eq_true (show (-1 ≤ x ∧ x < (u.Packages[i].length : Int)) by omega)]
        rfl
  · intro m s _
    show solver_Chosen_l1 n u c (m + 1) _ = _
    simp only [solver_Chosen_l1]
    rw [if_neg (by rw [decide_eq_true_eq]; omega)]
theorem rchosen_eq {n : Nat} (hn : 1000 < n) {u : SPackages} (hu : (ufault u).Code = 0) (c : List Int) : ref5_ChosenFault n u c = some (cfault u c) := by
  obtain ⟨h1, h2⟩ := u_small hu
  unfold ref5_ChosenFault cfault ref5_fault
  rw [ifdec]
  by_cases hl : c.length ≠ u.Packages.length
  · rw [if_pos (by omega), if_pos hl, bsome]
  rw [if_neg (by omega), if_neg hl]
  have hl := Classical.not_not.1 hl
  refine loop_eq (l := c) (L := fun m _ i => ref5_ChosenFault_l1 n u c m i) _ _ (fun _ _ => True) ?_ (fun _ _ _ _ _ _ _ => trivial) ?_ n () 0 trivial (by omega) (by omega)
  · intro m s i x _ hi hx
    show ref5_ChosenFault_l1 n u c (m + 1) i = _
    simp only [ref5_ChosenFault_l1]
    unfold ref5_fault
    have hp := getElem?_lt (show i < u.Packages.length by omega)
    have h4 := (rcode_iff.1 (h2 _ (get_mem hp))).1
    rw [if_pos (by rw [decide_eq_true_eq]; omega), gidx_nat, hx, bsome, gidx_nat, hp, bsome, gsubI (by omega), bsome, ref_in5, bsome, ifnot, bsome, gadd_nat (by omega), bsome]
    unfold cstep
    rw [inr1_some hp]
    by_cases g : -1 ≤ x ∧ x < (u.Packages[i].length : Int)
    · rw [if_pos (by omega), decide_eq_true g]
      rfl
    · rw [if_neg (by omega), decide_eq_false g]
      rfl
  · intro m s _
    show ref5_ChosenFault_l1 n u c (m + 1) _ = _
    simp only [ref5_ChosenFault_l1]
    rw [if_neg (by rw [decide_eq_true_eq]; omega)]
def ver1 (ps : List (List SVersionNeeds)) (i : Nat) (c : Int) : Option SMajorMinorPatchPre := if 0 ≤ c then ps[i]?.bind fun p => p[c.toNat]?.map (·.Version) else none
def mkl (ps : List (List SVersionNeeds)) : Nat → List Int → List SPackageVersionDigest
  | _, [] => []
  | i, c :: cs => match ver1 ps i c with
    | some v => ⟨i, v, vsum v⟩ :: mkl ps (i + 1) cs
    | none => mkl ps (i + 1) cs
theorem mkl_cons (ps : List (List SVersionNeeds)) (i : Nat) (c : Int) (cs : List Int) : mkl ps i (c :: cs) = match ver1 ps i c with
    | some v => ⟨i, v, vsum v⟩ :: mkl ps (i + 1) cs
    | none => mkl ps (i + 1) cs := rfl
theorem clone_eq {n : Nat} {v : SMajorMinorPatchPre} (h : okv v) : version_Copy n v = some v := by
  have := (okv_pre h).1
  unfold version_Copy slices_Clone_string
  rw [gapp_ok (by simp; omega), bsome, bsome, List.nil_append]
theorem ver1_cases {ps : List (List SVersionNeeds)} {i : Nat} {x : Int} (h : inr1 ps i x = true) : (x = -1 ∧ ver1 ps i x = none) ∨ ∃ (p : List SVersionNeeds) (k : Nat) (r : SVersionNeeds), x = k ∧ ps[i]? = some p ∧ p[k]? = some r ∧ ver1 ps i x = some r.Version := by
  unfold inr1 at h
  cases hp : ps[i]? with
  | none => rw [hp] at h; cases h
  | some p =>
    rw [hp] at h
    have h : -1 ≤ x ∧ x < p.length := of_decide_eq_true h
    by_cases h0 : 0 ≤ x
    · obtain ⟨k, rfl⟩ := natOf h0
      have hk : k < p.length := by omega
      refine .inr ⟨p, k, p[k], rfl, rfl, getElem?_lt hk, ?_⟩
      unfold ver1
      rw [if_pos h0, hp]
      simp [hk]
    · refine .inl ⟨by omega, ?_⟩
      unfold ver1
      rw [if_neg h0]
theorem make_l1 {u : SPackages} (hu : (ufault u).Code = 0) {c : List Int} (hc : (cfault u c).Code = 0) : ∀ (m i : Nat) (s : List SPackageVersionDigest), i ≤ c.length → c.length - i < m → s.length ≤ i → lockfile_Make_l1 2000 u c m s i = some (s ++ mkl u.Packages i (c.drop i), ⟨0, 0⟩)
  | 0, i, _, _, h, _ => by omega
  | m + 1, i, s, hi, hm, hs => by
    obtain ⟨u1, u2⟩ := u_small hu
    obtain ⟨c1, c2⟩ := cfault_in hc
    simp only [lockfile_Make_l1]
    by_cases h : i = c.length
    · rw [if_neg (by rw [decide_eq_true_eq]; omega), h, List.drop_length]
      simp [mkl]
    · have hlt : i < c.length := by omega
      have hx := getElem?_lt hlt
      unfold lockfile_Make_j1
      rw [if_pos (by rw [decide_eq_true_eq]; omega), gidx_nat, hx, bsome, ifdec, gadd_nat (by omega), bsome, List.drop_eq_getElem_cons hlt, mkl_cons]
      rcases ver1_cases (c2 i _ hx) with ⟨e1, e2⟩ | ⟨p, k, r, e1, e2, e3, e4⟩
      · rw [if_neg (by omega), e2, make_l1 hu hc m (i + 1) s (by omega) (by omega) (by omega)]
      · have hok := ((rcode_iff.1 (u2 p (get_mem e2))).2 k r e3).1
        rw [e4, e1]
        rw [if_pos (by omega), gidx_nat, e2, bsome, gidx_nat, e3, bsome, etaV, clone_eq hok, bsome, seal_eq hok, bsome, gapp_ok (by simp; omega), bsome, bsome, make_l1 hu hc m (i + 1) _ (by omega) (by omega) (by simp; omega)]
        simp
theorem locked_l1 {u : SPackages} (hu : (ufault u).Code = 0) {c : List Int} (hc : (cfault u c).Code = 0) : ∀ (m i : Nat) (s : List SPackageVersionDigest), i ≤ c.length → c.length - i < m → s.length ≤ i → ref6_Locked_l1 2000 u c m s i = some (s ++ mkl u.Packages i (c.drop i))
  | 0, i, _, _, h, _ => by omega
  | m + 1, i, s, hi, hm, hs => by
    obtain ⟨u1, u2⟩ := u_small hu
    obtain ⟨c1, c2⟩ := cfault_in hc
    simp only [ref6_Locked_l1]
    by_cases h : i = c.length
    · rw [if_neg (by rw [decide_eq_true_eq]; omega), h, List.drop_length]
      simp [mkl]
    · have hlt : i < c.length := by omega
      have hx := getElem?_lt hlt
      unfold ref6_Locked_j1
      rw [if_pos (by rw [decide_eq_true_eq]; omega), gidx_nat, hx, bsome, ifdec, gadd_nat (by omega), bsome, List.drop_eq_getElem_cons hlt, mkl_cons]
      rcases ver1_cases (c2 i _ hx) with ⟨e1, e2⟩ | ⟨p, k, r, e1, e2, e3, e4⟩
      · rw [if_neg (by omega), e2, locked_l1 hu hc m (i + 1) s (by omega) (by omega) (by omega)]
      · have hok := ((rcode_iff.1 (u2 p (get_mem e2))).2 k r e3).1
        rw [e4, e1]
        rw [if_pos (by omega), gidx_nat, e2, bsome, gidx_nat, e3, bsome, etaV, rvsum_eq hok, bsome, gapp_ok (by simp; omega), bsome, bsome, locked_l1 hu hc m (i + 1) _ (by omega) (by omega) (by simp; omega)]
        simp
def made (u : SPackages) (c : List Int) : List SPackageVersionDigest := mkl u.Packages 0 c
theorem make_eq (u : SPackages) (c : List Int) : lockfile_Make 2000 u c = some (if (ufault u).Code = 0 then (if (cfault u c).Code = 0 then (made u c, ⟨0, 0⟩) else ([], cfault u c)) else ([], ufault u)) := by
  unfold lockfile_Make
  rw [uvalidate_eq (by omega), bsome, beqU]
  by_cases hu : (ufault u).Code = 0
  · rw [if_pos hu, if_pos hu, chosen_eq (by omega) hu, bsome, beqC]
    by_cases hc : (cfault u c).Code = 0
    · obtain ⟨u1, u2⟩ := u_small hu
      obtain ⟨c1, c2⟩ := cfault_in hc
      rw [if_pos hc, if_pos hc]
      exact make_l1 hu hc 2000 0 [] (by omega) (by omega) (by simp)
    · rw [if_neg hc, if_neg hc]
  · rw [if_neg hu, if_neg hu]
theorem locked_eq {u : SPackages} (hu : (ufault u).Code = 0) {c : List Int} (hc : (cfault u c).Code = 0) : ref6_Locked 2000 u c = some (made u c) := by
  obtain ⟨u1, u2⟩ := u_small hu
  obtain ⟨c1, c2⟩ := cfault_in hc
  exact locked_l1 hu hc 2000 0 [] (by omega) (by omega) (by simp)
end Go.Proofs.YtpcmhhbocifbcaaGreatDoor
namespace Go.Proofs.YtpcmhhbocifbcaaGreatDoor
open Go.PW Go
theorem vastNeeds_ex {n : Nat} (hn : 1000 < n) (l : List SPackageRange) : ∃ b, law6_vastNeeds n l = some b := by
  have h := loop_ex (L := fun m i => law6_vastNeeds_l1 n l m i) 20 (fun _ => True) ?_ ?_ n 0 (by omega) (by omega)
  · obtain ⟨b, hb, -⟩ := h; exact ⟨b, hb⟩
  · intro m i hi ⟨b, hb, _⟩
    have hb : law6_vastNeeds_l1 n l m ((i + 1 : Nat) : Int) = some b := hb
    show ∃ b, law6_vastNeeds_l1 n l (m + 1) i = some b ∧ True
    simp only [law6_vastNeeds_l1]
    unfold law6_vastNeeds_j1
    rw [ifdec]
    by_cases h1 : i < l.length
    · rw [if_pos (by omega), if_pos (by rw [decide_eq_true_eq]; omega), gidx_nat, getElem?_lt h1, bsome, ifdec]
      by_cases h2 : 40 < l[i].Range.Intervals.length
      · rw [if_pos (by omega)]; exact ⟨_, rfl, trivial⟩
      · rw [if_neg (by omega)]
        refine loop_ex (L := fun k j => law6_vastNeeds_l2 n i (law6_vastNeeds_l1 n l m) l[i] k j) l[i].Range.Intervals.length (fun _ => True) ?_ ?_ n 0 (by omega) (by omega)
        · intro k j hj ⟨c, hc, _⟩
          have hc : law6_vastNeeds_l2 n i (law6_vastNeeds_l1 n l m) l[i] k ((j + 1 : Nat) : Int) = some c := hc
          show ∃ b, law6_vastNeeds_l2 n i (law6_vastNeeds_l1 n l m) l[i] (k + 1) j = some b ∧ True
          simp only [law6_vastNeeds_l2]
          have j2 : ∀ x : Bool, ∃ b, law6_vastNeeds_j2 n j (law6_vastNeeds_l2 n i (law6_vastNeeds_l1 n l m) l[i] k) x = some b ∧ True := by
            intro x
            unfold law6_vastNeeds_j2
            rw [gadd_nat (by omega), bsome, hc]
            cases x
            · exact ⟨_, if_neg (by simp), trivial⟩
            · exact ⟨_, if_pos rfl, trivial⟩
          rw [if_pos (by rw [decide_eq_true_eq]; omega), gidx_nat, getElem?_lt hj, bsome]
          split
          · exact j2 _
          · exact j2 _
        · intro k
          show ∃ b, law6_vastNeeds_l2 n i (law6_vastNeeds_l1 n l m) l[i] (k + 1) _ = some b ∧ True
          simp only [law6_vastNeeds_l2]
          rw [if_neg (by rw [decide_eq_true_eq]; omega), gadd_nat (by omega), bsome, hb]
          exact ⟨_, rfl, trivial⟩
    · rw [if_neg (by omega), if_neg (by simp)]; exact ⟨_, rfl, trivial⟩
  · intro m
    show ∃ b, law6_vastNeeds_l1 n l (m + 1) (20 : Nat) = some b ∧ True
    simp only [law6_vastNeeds_l1]
    unfold law6_vastNeeds_j1
    split
    · rw [if_neg (by simp)]; exact ⟨_, rfl, trivial⟩
    · rw [if_neg (by simp)]; exact ⟨_, rfl, trivial⟩
theorem vast_ex {n : Nat} (hn : 1000 < n) (u : SPackages) (w : List SPackageRange) : ∃ b, law6_vast n u w = some b := by
  have fin : ∀ k : Int, ∀ lp, ∃ b, law6_vast_j1 n u w k lp false = some b ∧ True := by
    intro k lp
    unfold law6_vast_j1 law6_vast_j3
    rw [if_neg (by simp)]
    obtain ⟨b, hb⟩ := vastNeeds_ex hn w
    rw [hb, bsome]
    split
    · exact ⟨_, rfl, trivial⟩
    · exact ⟨_, rfl, trivial⟩
  have h := loop_ex (L := fun m i => law6_vast_l1 n u w m i) 20 (fun _ => True) ?_ ?_ n 0 (by omega) (by omega)
  · obtain ⟨b, hb, -⟩ := h; exact ⟨b, hb⟩
  · intro m i hi ⟨b, hb, _⟩
    have hb : law6_vast_l1 n u w m ((i + 1 : Nat) : Int) = some b := hb
    show ∃ b, law6_vast_l1 n u w (m + 1) i = some b ∧ True
    simp only [law6_vast_l1]
    rw [ifdec]
    by_cases h1 : i < u.Packages.length
    · rw [if_pos (by omega), decide_eq_true (show (i : Int) < 20 by omega)]
      unfold law6_vast_j1
      rw [if_pos rfl, gidx_nat, getElem?_lt h1, bsome, ifdec]
      by_cases h2 : 20 < u.Packages[i].length
      · rw [if_pos (by omega)]; exact ⟨_, rfl, trivial⟩
      · rw [if_neg (by omega)]
        refine loop_ex (L := fun k j => law6_vast_l2 n i (law6_vast_l1 n u w m) u.Packages[i] k j) u.Packages[i].length (fun _ => True) ?_ ?_ n 0 (by omega) (by omega)
        · intro k j hj ⟨c, hc, _⟩
          have hc : law6_vast_l2 n i (law6_vast_l1 n u w m) u.Packages[i] k ((j + 1 : Nat) : Int) = some c := hc
          show ∃ b, law6_vast_l2 n i (law6_vast_l1 n u w m) u.Packages[i] (k + 1) j = some b ∧ True
          simp only [law6_vast_l2]
          have j2 : ∀ x : Bool, ∃ b, law6_vast_j2 n j (law6_vast_l2 n i (law6_vast_l1 n u w m) u.Packages[i] k) x = some b ∧ True := by
            intro x
            unfold law6_vast_j2
            rw [gadd_nat (by omega), bsome, hc]
            cases x
            · exact ⟨_, if_neg (by simp), trivial⟩
            · exact ⟨_, if_pos rfl, trivial⟩
          rw [if_pos (by rw [decide_eq_true_eq]; omega), gidx_nat, getElem?_lt hj, bsome]
          split
          · exact j2 _
          · obtain ⟨d, hd⟩ := vastNeeds_ex hn u.Packages[i][j].Needs
            rw [hd, bsome]
            exact j2 _
        · intro k
          show ∃ b, law6_vast_l2 n i (law6_vast_l1 n u w m) u.Packages[i] (k + 1) _ = some b ∧ True
          simp only [law6_vast_l2]
          rw [if_neg (by rw [decide_eq_true_eq]; omega), gadd_nat (by omega), bsome, hb]
          exact ⟨_, rfl, trivial⟩
    · rw [if_neg (by omega)]; exact fin _ _
  · intro m
    show ∃ b, law6_vast_l1 n u w (m + 1) (20 : Nat) = some b ∧ True
    simp only [law6_vast_l1]
    split
    · rw [decide_eq_false (by omega)]; exact fin _ _
    · exact fin _ _
theorem mkl_mem {ps : List (List SVersionNeeds)} : ∀ (cs : List Int) (i : Nat) (e : SPackageVersionDigest), e ∈ mkl ps i cs → ∃ (k : Nat) (c : Int) (v : SMajorMinorPatchPre), cs[k]? = some c ∧ ver1 ps (i + k) c = some v ∧ e = ⟨((i + k : Nat) : Int), v, vsum v⟩
  | [], _, _, h => by cases h
  | c :: cs, i, e, h => by
    rw [mkl_cons] at h
    have next : e ∈ mkl ps (i + 1) cs → ∃ (k : Nat) (c' : Int) (v : SMajorMinorPatchPre), (c :: cs)[k]? = some c' ∧ ver1 ps (i + k) c' = some v ∧ e = ⟨((i + k : Nat) : Int), v, vsum v⟩ := by
      intro h
      obtain ⟨k, c', v, h1, h2, h3⟩ := mkl_mem cs (i + 1) e h
      refine ⟨k + 1, c', v, h1, ?_, ?_⟩
      · rw [show i + (k + 1) = i + 1 + k by omega]; exact h2
      · rw [show i + (k + 1) = i + 1 + k by omega]; exact h3
    cases hv : ver1 ps i c with
    | none => rw [hv] at h; exact next h
    | some v =>
      rw [hv] at h
      rcases List.mem_cons.1 h with g | g
      · exact ⟨0, c, v, rfl, hv, g⟩
      · exact next g
theorem mkl_pw {ps : List (List SVersionNeeds)} : ∀ (cs : List Int) (i : Nat), (mkl ps i cs).Pairwise (fun a b => a.Package < b.Package)
  | [], _ => List.Pairwise.nil
  | c :: cs, i => by
    rw [mkl_cons]
    cases ver1 ps i c with
    | none => exact mkl_pw cs (i + 1)
    | some v =>
      refine List.Pairwise.cons (fun e he => ?_) (mkl_pw cs (i + 1))
      obtain ⟨k, c', v', _, _, rfl⟩ := mkl_mem cs (i + 1) e he
      show (i : Int) < ((i + 1 + k : Nat) : Int)
      omega
theorem mkl_len {ps : List (List SVersionNeeds)} : ∀ (cs : List Int) (i : Nat), (mkl ps i cs).length ≤ cs.length
  | [], _ => Nat.le_refl _
  | c :: cs, i => by
    have := mkl_len (ps := ps) cs (i + 1)
    rw [mkl_cons]
    cases ver1 ps i c with
    | none => simp only [List.length_cons]; omega
    | some v => simp only [List.length_cons]; omega
theorem made_ok {u : SPackages} (hu : (ufault u).Code = 0) {c : List Int} (hc : (cfault u c).Code = 0) : ∀ (k : Nat) (x : Int) (v : SMajorMinorPatchPre), c[k]? = some x → ver1 u.Packages k x = some v → okv v := by
  intro k x v hx hv
  obtain ⟨u1, u2⟩ := u_small hu
  obtain ⟨c1, c2⟩ := cfault_in hc
  rcases ver1_cases (c2 k x hx) with ⟨e1, e2⟩ | ⟨p, j, r, e1, e2, e3, e4⟩
  · rw [e2] at hv; cases hv
  · rw [e4] at hv
    injection hv with hv
    rw [← hv]
    exact ((rcode_iff.1 (u2 p (get_mem e2))).2 j r e3).1
theorem made_valid {u : SPackages} (hu : (ufault u).Code = 0) {c : List Int} (hc : (cfault u c).Code = 0) : (lfault (made u c)).Code = 0 := by
  obtain ⟨u1, u2⟩ := u_small hu
  obtain ⟨c1, c2⟩ := cfault_in hc
  refine lfault_iff.2 ⟨?_, fun e he => ?_, mkl_pw c 0⟩
  · have := mkl_len (ps := u.Packages) c 0
    unfold made
    omega
  · obtain ⟨k, x, v, h1, h2, rfl⟩ := mkl_mem c 0 e he
    rw [Nat.zero_add] at h2 ⊢
    have hk := get_lt h1
    refine ⟨⟨?_, ?_⟩, made_ok hu hc k x v h1 h2, ?_⟩
    · show (0 : Int) ≤ (k : Int); omega
    · show (k : Int) ≤ 5; omega
    · have := sumOf_dg (vtext v)
      unfold Dg at this
      show 0 ≤ vsum v ∧ vsum v ≤ 2305843009213693950
      unfold vsum
      omega
theorem law_make (u : SPackages) (c : List Int) : law6_LockfileMakeMatchesSpec 2000 u c = some true := by
  unfold law6_LockfileMakeMatchesSpec
  rw [locks_eq, bsome, if_neg (by simp)]
  obtain ⟨w, hw⟩ := vast_ex (n := 2000) (by omega) u []
  rw [hw, bsome, ruvalidate_eq (by omega), bsome]
  cases w with
  | true => rfl
  | false =>
    rw [if_neg (by simp), ifdec]
    unfold law6_LockfileMakeMatchesSpec_j1 law6_LockfileMakeMatchesSpec_j2
    rw [make_eq]
    by_cases hu : (ufault u).Code = 0
    · rw [if_pos hu, if_pos hu, rchosen_eq (by omega) hu]
      simp only [bsome]
      by_cases hc : (cfault u c).Code = 0
      · have hv := lfault_iff.1 (made_valid hu hc)
        have hs := samelock_eq (n := 2000) (by omega) (made u c) (made u c) (by have := hv.1; omega) (fun x hx => okv_pre1000 (hv.2.1 x hx).2.1)
        rw [if_pos hc, locked_eq hu hc, cfault_zero hc]
        simp only [bsome]
        rw [hs]
        simp [bsome]
      · rw [if_neg hc]
        simp [hc]
    · rw [if_neg hu, if_neg hu]
      simp [hu, bsome]
end Go.Proofs.YtpcmhhbocifbcaaGreatDoor
namespace Go.Proofs.YtpcmhhbocifbcaaGreatDoor
open Go.PW Go
theorem ent_mkl {ps : List (List SVersionNeeds)} : ∀ (cs : List Int) (i k : Nat), ent (mkl ps i cs) ((i + k : Nat) : Int) = (cs[k]?).bind fun c => (ver1 ps (i + k) c).map fun v => ⟨((i + k : Nat) : Int), v, vsum v⟩
  | [], i, k => by simp [mkl, ent]
  | c :: cs, i, 0 => by
    rw [mkl_cons]
    simp only [Nat.add_zero, List.getElem?_cons_zero]
    rw [bsome]
    cases hv : ver1 ps i c with
    | some v =>
      unfold ent
      rw [List.find?_cons_of_pos (by simp)]
      rfl
    | none =>
      simp only [Option.map_none]
      cases he : ent (mkl ps (i + 1) cs) (i : Int) with
      | none => rfl
      | some e =>
        obtain ⟨k, c', v', _, _, h3⟩ := mkl_mem cs (i + 1) e (ent_mem he)
        have := ent_pack he
        rw [h3] at this
        simp only [] at this
        omega
  | c :: cs, i, k + 1 => by
    have ih := ent_mkl (ps := ps) cs (i + 1) k
    rw [show i + 1 + k = i + (k + 1) by omega] at ih
    rw [mkl_cons, List.getElem?_cons_succ, ← ih]
    cases hv : ver1 ps i c with
    | some v =>
      unfold ent
      rw [List.find?_cons_of_neg (by simp; omega)]
    | none => rfl
theorem ent_made (u : SPackages) (c : List Int) (k : Nat) : ent (made u c) (k : Int) = (c[k]?).bind fun x => (ver1 u.Packages k x).map fun v => ⟨(k : Int), v, vsum v⟩ := by
  have := ent_mkl (ps := u.Packages) c 0 k
  rw [Nat.zero_add] at this
  exact this
theorem ver1_inj {u : SPackages} (hu : (ufault u).Code = 0) {k : Nat} {x y : Int} (hx : inr1 u.Packages k x = true) (hy : inr1 u.Packages k y = true) (h : ver1 u.Packages k x = ver1 u.Packages k y) : x = y := by
  obtain ⟨u1, u2⟩ := u_small hu
  rcases ver1_cases hx with ⟨e1, e2⟩ | ⟨p, j, r, e1, e2, e3, e4⟩
  · rcases ver1_cases hy with ⟨f1, f2⟩ | ⟨q, i, s, f1, f2, f3, f4⟩
    · rw [e1, f1]
    · rw [e2, f4] at h; cases h
  · rcases ver1_cases hy with ⟨f1, f2⟩ | ⟨q, i, s, f1, f2, f3, f4⟩
    · rw [f2, e4] at h; cases h
    · rw [e2] at f2
      injection f2 with f2
      subst f2
      rw [e4, f4] at h
      injection h with h
      rw [e1, f1, rise_inj (u2 p (get_mem e2)) e3 f3 h]
theorem drq_made {u : SPackages} (hu : (ufault u).Code = 0) {a b : List Int} (ha : (cfault u a).Code = 0) (hb : (cfault u b).Code = 0) {k : Nat} {x y : Int} (hx : a[k]? = some x) (hy : b[k]? = some y) : drq (made u a) (made u b) (k : Int) = decide (x ≠ y) := by
  have h1 := (cfault_in ha).2 k x hx
  have h2 := (cfault_in hb).2 k y hy
  unfold drq
  rw [ent_made, ent_made, hx, hy, bsome, bsome, decide_eq_decide]
  refine not_congr ⟨fun h => ?_, fun h => by rw [h]⟩
  refine ver1_inj hu h1 h2 ?_
  cases hv : ver1 u.Packages k x with
  | none =>
    cases hw : ver1 u.Packages k y with
    | none => rfl
    | some w => rw [hv, hw] at h; cases h
  | some v =>
    cases hw : ver1 u.Packages k y with
    | none => rw [hv, hw] at h; cases h
    | some w =>
      rw [hv, hw] at h
      simp only [Option.map_some, Option.some.injEq, SPackageVersionDigest.mk.injEq] at h
      rw [h.2.1]
theorem drq_beyond {u : SPackages} {a b : List Int} {k : Nat} (hx : a[k]? = none) (hy : b[k]? = none) : drq (made u a) (made u b) (k : Int) = false := by
  unfold drq
  rw [ent_made, ent_made, hx, hy]
  simp
theorem pick_none {q : Int → Bool} (k : Nat) (p : Int) (h : ∀ x, p ≤ x → x < p + k → q x = false) : pick q k p = [] := by
  refine List.eq_nil_iff_forall_not_mem.2 fun x hx => ?_
  obtain ⟨h1, h2⟩ := pick_mem.1 hx
  rw [h x h1.1 h1.2] at h2
  cases h2
theorem corr_nil : ∀ (l : List SPackageVersionDigest) (i : Int), (∀ x ∈ l, x.Digest = vsum x.Version) → corr i l = []
  | [], _, _ => rfl
  | x :: l, i, h => by
    rw [corr_cons, if_neg (fun e => e (h x (by simp))), corr_nil l (i + 1) (fun y hy => h y (by simp [hy]))]
theorem made_corr (u : SPackages) (c : List Int) : corr 0 (made u c) = [] := by
  refine corr_nil _ _ fun e he => ?_
  obtain ⟨k, x, v, _, _, rfl⟩ := mkl_mem c 0 e he
  rfl
theorem selections_l1 {u : SPackages} (hu : (ufault u).Code = 0) {a b : List Int} (ha : (cfault u a).Code = 0) (hb : (cfault u b).Code = 0) : ∀ (m i : Nat) (w : List Int), i ≤ a.length → a.length - i < m → w.length ≤ i → w ++ pick (drq (made u a) (made u b)) (6 - i) i = drifts (made u a) (made u b) →
    law6_LockfileDriftOfSelections_l1 2000 a b (drifts (made u a) (made u b), ⟨0, 0⟩) ([], ⟨0, 0⟩) m w i = some true
  | 0, i, _, _, h, _, _ => by omega
  | m + 1, i, w, hi, hm, hw, he => by
    obtain ⟨u1, u2⟩ := u_small hu
    obtain ⟨a1, a2⟩ := cfault_in ha
    obtain ⟨b1, b2⟩ := cfault_in hb
    simp only [law6_LockfileDriftOfSelections_l1]
    unfold law6_LockfileDriftOfSelections_j3 law6_LockfileDriftOfSelections_j4 law6_LockfileDriftOfSelections_j5
    by_cases h : i = a.length
    · have hp : pick (drq (made u a) (made u b)) (6 - i) i = [] := pick_none _ _ fun x h1 h2 => by
        obtain ⟨k, rfl⟩ := natOf (show 0 ≤ x by omega)
        exact drq_beyond (List.getElem?_eq_none (by omega)) (List.getElem?_eq_none (by omega))
      rw [hp, List.append_nil] at he
      rw [if_neg (by rw [decide_eq_true_eq]; omega), if_neg (by simp), he]
      have hl := drifts_len (made u a) (made u b)
      rw [ints_eq (by omega) _ (show (drifts (made u a) (made u b)).length ≤ 100 by omega)]
      simp [bsome]
    · have hlt : i < a.length := by omega
      have hx := getElem?_lt hlt
      have hy := getElem?_lt (show i < b.length by omega)
      have hq := drq_made hu ha hb hx hy
      rw [show 6 - i = (6 - (i + 1)) + 1 by omega, pick_succ, hq, ifdec, show (i : Int) + 1 = ((i + 1 : Nat) : Int) by omega] at he
      rw [if_pos (by rw [decide_eq_true_eq]; omega), if_pos (by rw [decide_eq_true_eq]; omega), gidx_nat, gidx_nat, hx, hy, bsome, bsome, ifdec, gapp_ok (by simp; omega), bsome, gadd_nat (by omega), bsome, bsome]
      by_cases hd : a[i] ≠ b[i]
      · rw [if_pos hd] at he ⊢
        refine selections_l1 hu ha hb m (i + 1) _ (by omega) (by omega) (by simp; omega) ?_
        rw [List.append_assoc]
        exact he
      · rw [if_neg hd] at he ⊢
        exact selections_l1 hu ha hb m (i + 1) _ (by omega) (by omega) (by omega) he
theorem law_selections (u : SPackages) (a b : List Int) : law6_LockfileDriftOfSelections 2000 u a b = some true := by
  unfold law6_LockfileDriftOfSelections
  rw [locks_eq, bsome, if_neg (by simp)]
  obtain ⟨w, hw⟩ := vast_ex (n := 2000) (by omega) u []
  rw [hw, bsome, make_eq, make_eq]
  cases w with
  | true => rfl
  | false =>
    rw [if_neg (by simp)]
    simp only [bsome]
    unfold law6_LockfileDriftOfSelections_j1 law6_LockfileDriftOfSelections_j2
    by_cases hu : (ufault u).Code = 0
    · rw [if_pos hu, if_pos hu]
      by_cases ha : (cfault u a).Code = 0
      · rw [if_pos ha]
        by_cases hb : (cfault u b).Code = 0
        · rw [if_pos hb]
          simp only [ne_eq, not_true_eq_false, decide_false, Bool.false_eq_true, if_false]
          rw [drift_eq (by omega), bsome, corrupt_eq, bsome, if_pos (made_valid hu ha), if_pos (made_valid hu hb), if_pos (made_valid hu ha), made_corr]
          have := (u_small hu).1
          have := (cfault_in ha).1
          exact selections_l1 hu ha hb 2000 0 [] (by omega) (by omega) (by simp) rfl
        · rw [if_neg hb]
          simp [hb]
      · rw [if_neg ha]
        by_cases hb : (cfault u b).Code = 0
        · rw [if_pos hb]
          simp [ha]
        · rw [if_neg hb]
          simp [ha, hb]
    · rw [if_neg hu, if_neg hu]
      simp [hu]
end Go.Proofs.YtpcmhhbocifbcaaGreatDoor
