/- Explain: identifiers: what the program's checks and the document's compute; their order. -/
import Derived.Test.YtpcmhhbocifbcaaGreatDoorD
import Derived.Test.YtpcmhhbocifbcaaGreatDoorPwPlain
import Derived.Laws.RangeString
import Derived.Lib.ItoaNum
import Derived.Lib.Split
set_option linter.unusedVariables false
set_option linter.unusedSimpArgs false
namespace Go.Proofs.YtpcmhhbocifbcaaGreatDoor
open Go.PW Go
end Go.Proofs.YtpcmhhbocifbcaaGreatDoor
namespace Go.Proofs.YtpcmhhbocifbcaaGreatDoor
open Go.PW Go
theorem ref_in5 (n : Nat) (a b c : Int) : ref5_in n a b c = some (decide (b ≤ a ∧ a ≤ c)) := by
  unfold ref5_in ref5_in_j1
  by_cases h : b ≤ a <;> simp [h]
theorem ref_in6 (n : Nat) (a b c : Int) : ref6_in n a b c = some (decide (b ≤ a ∧ a ≤ c)) := by
  unfold ref6_in ref6_in_j1
  by_cases h : b ≤ a <;> simp [h]
theorem wrap_byte (c : UInt8) : IntKind.wrap .i64 (c.toNat : Int) = (c.toNat : Int) := wrap_i64 (by have := c.toNat_lt; omega)
def isd (c : UInt8) : Bool := decide (48 ≤ c.toNat) && decide (c.toNat ≤ 57)
def okb (c : UInt8) : Bool := isd c || (decide (97 ≤ c.toNat) && decide (c.toNat ≤ 122)) || (decide (65 ≤ c.toNat) && decide (c.toNat ≤ 90)) || decide (c.toNat = 45)
theorem okb_ascii {c : UInt8} (h : okb c = true) : c.toNat < 128 := by
  unfold okb isd at h
  simp at h
  omega
def num (s : List UInt8) : Bool := s.all isd
def ident (s : List UInt8) : Bool := decide (1 ≤ s.length ∧ s.length ≤ 8) && s.all okb && (!(num s) || decide (s.length = 1) || decide (s.head? ≠ some 48))
theorem bsz (s : List UInt8) : (⟨s.toArray⟩ : ByteArray).size = s.length := rfl
theorem byte_at (s : List UInt8) (pos : Nat) (h : pos < (⟨s.toArray⟩ : ByteArray).size) : (⟨s.toArray⟩ : ByteArray)[pos]'h = s[pos]'(by rw [bsz] at h; exact h) := by
  simp [ByteArray.getElem_eq_getElem_data]
theorem nonDigits_from (s : List UInt8) (ha : ∀ c ∈ s, c.toNat < 128) : ∀ (f pos : Nat), pos ≤ s.length → s.length - pos ≤ f → (0 ≤ Lib.idxFuncFrom noDigit true ⟨s.toArray⟩ f pos ↔ (s.drop pos).any (fun c => !isd c) = true) := by
  intro f
  induction f with
  | zero =>
    intro pos h1 h2
    have : pos = s.length := by omega
    subst this
    simp [Lib.idxFuncFrom]
  | succ f ih =>
    intro pos h1 h2
    unfold Lib.idxFuncFrom
    by_cases hp : pos < s.length
    · have hps : pos < (⟨s.toArray⟩ : ByteArray).size := by rw [bsz]; exact hp
      have hasc : ((⟨s.toArray⟩ : ByteArray)[pos]'hps).toNat < 128 := by rw [byte_at]; exact ha _ (List.getElem_mem hp)
      rw [if_pos hps, decode_ascii _ _ hps hasc, byte_at, List.drop_eq_getElem_cons hp, List.any_cons]
      have e : noDigit s[pos].toNat = !isd s[pos] := by
        unfold noDigit isd
        by_cases a : s[pos].toNat < 48 <;> by_cases b : 57 < s[pos].toNat <;> simp [a, b] <;> omega
      simp only [e]
      cases hd : isd s[pos] with
      | true =>
        simp only [Bool.not_true, Bool.false_eq_true, if_false, Bool.false_or]
        exact ih (pos + 1) (by omega) (by omega)
      | false =>
        simp only [Bool.not_false, if_true, Bool.true_or, iff_true]
        omega
    · have : pos = s.length := by omega
      subst this
      rw [if_neg (by rw [bsz]; exact hp)]
      simp
theorem nonDigits_ascii {s : List UInt8} (ha : ∀ c ∈ s, c.toNat < 128) : libNonDigits s = !(num s) := by
  unfold libNonDigits Lib.idxFunc
  have h := nonDigits_from s ha (⟨s.toArray⟩ : ByteArray).size 0 (by omega) (by rw [bsz]; omega)
  rw [List.drop_zero] at h
  have e : num s = !(s.any fun c => !isd c) := by unfold num; rw [List.all_eq_not_any_not]
  rw [e, Bool.not_not]
  rw [Bool.eq_iff_iff, decide_eq_true_iff]
  exact h
theorem numeric_eq (n : Nat) {s : List UInt8} (ha : ∀ c ∈ s, c.toNat < 128) : version_numeric n s = some (num s) := by
  unfold version_numeric strings_ContainsFunc
  rw [bsome, nonDigits_ascii ha, Bool.not_not]
theorem id_byte (n : Nat) (x2 : Int) (lp : Int → Option Bool) (y : UInt8) :
    (if (decide ((y.toNat : Int) < 48)) = true then
        if (decide ((y.toNat : Int) < 97)) = true then
          if (decide ((y.toNat : Int) < 65)) = true then
            version_identifier_j2 n x2 lp (decide ((y.toNat : Int) ≠ 45))
          else
            if (decide (90 < (y.toNat : Int))) = true then
              version_identifier_j2 n x2 lp (decide ((y.toNat : Int) ≠ 45))
            else
              version_identifier_j2 n x2 lp false
        else
          if (decide (122 < (y.toNat : Int))) = true then
            if (decide ((y.toNat : Int) < 65)) = true then
              version_identifier_j2 n x2 lp (decide ((y.toNat : Int) ≠ 45))
            else
              if (decide (90 < (y.toNat : Int))) = true then
                version_identifier_j2 n x2 lp (decide ((y.toNat : Int) ≠ 45))
              else
                version_identifier_j2 n x2 lp false
          else
            version_identifier_j2 n x2 lp false
      else
        if (decide (57 < (y.toNat : Int))) = true then
          if (decide ((y.toNat : Int) < 97)) = true then
            if (decide ((y.toNat : Int) < 65)) = true then
              version_identifier_j2 n x2 lp (decide ((y.toNat : Int) ≠ 45))
            else
              if (decide (90 < (y.toNat : Int))) = true then
                version_identifier_j2 n x2 lp (decide ((y.toNat : Int) ≠ 45))
              else
                version_identifier_j2 n x2 lp false
          else
            if (decide (122 < (y.toNat : Int))) = true then
              if (decide ((y.toNat : Int) < 65)) = true then
                version_identifier_j2 n x2 lp (decide ((y.toNat : Int) ≠ 45))
              else
                if (decide (90 < (y.toNat : Int))) = true then
                  version_identifier_j2 n x2 lp (decide ((y.toNat : Int) ≠ 45))
                else
                  version_identifier_j2 n x2 lp false
            else
              version_identifier_j2 n x2 lp false
        else
          version_identifier_j2 n x2 lp false) = version_identifier_j2 n x2 lp (!okb y) := by
  have key : ∀ b : Bool, (b = true ↔ ¬ (okb y = true)) → version_identifier_j2 n x2 lp b = version_identifier_j2 n x2 lp (!okb y) := by
    intro b hb
    have : b = !okb y := by
      cases hh : okb y <;> cases b <;> simp [hh] at hb ⊢
    rw [this]
  simp only [decide_eq_true_eq]
  repeat' split
  all_goals
    refine key _ ?_
    simp only [okb, isd, decide_eq_true_eq, Bool.or_eq_true, Bool.and_eq_true, Bool.false_eq_true, false_iff, Classical.not_not, not_or, not_and, ne_eq]
    omega
theorem identifier_l1 (n : Nat) (s : List UInt8) (hl : s.length ≤ 8) (hpos : 1 ≤ s.length) : ∀ (m i : Nat), i ≤ s.length → s.length - i < m → (∀ c ∈ s.take i, okb c = true) →
    version_identifier_l1 n s m i = some ((s.drop i).all okb && (!(num s) || decide (s.length = 1) || decide (s.head? ≠ some 48))) := by
  intro m
  induction m with
  | zero => intro i _ h; omega
  | succ m ih =>
    intro i hi hm hall
    rw [version_identifier_l1]
    by_cases h : i < s.length
    · rw [if_pos (by rw [decide_eq_true_eq]; omega), gidx_nat, getElem?_lt h, bsome, id_byte, List.drop_eq_getElem_cons h, List.all_cons]
      unfold version_identifier_j2
      cases ho : okb s[i] with
      | false => simp
      | true =>
        rw [if_neg (by simp), gadd_nat (by omega), bsome, ih (i + 1) (by omega) (by omega) ?_]
        · simp
        · intro c hc
          rw [List.take_succ_eq_append_getElem h, List.mem_append, List.mem_singleton] at hc
          rcases hc with hc | rfl
          · exact hall c hc
          · exact ho
    · have e : i = s.length := by omega
      subst e
      rw [List.take_length] at hall
      rw [if_neg (by rw [decide_eq_true_eq]; omega), numeric_eq n fun c hc => okb_ascii (hall c hc), bsome, List.drop_length, List.all_nil]
      unfold version_identifier_j3
      cases hn : num s with
      | false => simp
      | true =>
        rw [if_neg (by simp)]
        by_cases h1 : s.length = 1
        · rw [if_pos (by rw [decide_eq_true_eq]; omega)]
          simp [h1]
        · rw [if_neg (by rw [decide_eq_true_eq]; omega)]
          match s, h1 with
          | [], _ => simp at hpos
          | x :: r, h1 =>
            rw [show (0 : Int) = ((0 : Nat) : Int) from rfl, gidx_nat]
            simp only [List.getElem?_cons_zero]
            rw [bsome]
            simp only [Bool.not_true, Bool.false_or, Bool.true_and, List.head?_cons]
            congr 1
            have : ((x.toNat : Int) ≠ 48) ↔ some x ≠ some 48 := by
              constructor
              · intro h e
                injection e with e
                subst e
                exact h rfl
              · intro h e
                refine h (congrArg some ?_)
                exact UInt8.toNat_inj.1 (by have : x.toNat = 48 := by omega
                                            rw [this]; rfl)
            have hr : r ≠ [] := fun e => h1 (by rw [e]; rfl)
            simp [hr, this]
end Go.Proofs.YtpcmhhbocifbcaaGreatDoor
namespace Go.Proofs.YtpcmhhbocifbcaaGreatDoor
open Go.PW Go
theorem identifier_eq {n : Nat} (hn : 1000 < n) (s : List UInt8) : version_identifier n s = some (ident s) := by
  unfold version_identifier version_identifier_j1 ident
  by_cases h0 : s.length = 0
  · rw [if_pos (by rw [decide_eq_true_eq]; omega), if_pos rfl]
    simp [h0]
  · rw [if_neg (by rw [decide_eq_true_eq]; omega)]
    by_cases h8 : 8 < s.length
    · rw [if_pos (by rw [decide_eq_true_eq]; omega)]
      rw [decide_eq_false (by omega)]; rfl
    · rw [if_neg (by rw [decide_eq_true_eq]; omega)]
      have := identifier_l1 n s (by omega) (by omega) n 0 (by omega) (by omega) (by simp)
      refine Eq.trans this ?_
      rw [decide_eq_true (show 1 ≤ s.length ∧ s.length ≤ 8 by omega)]
      simp
theorem rnum_l1 (n : Nat) (s : List UInt8) (hl : s.length ≤ 1000) : ∀ (m i : Nat), i ≤ s.length → s.length - i < m → ref5_Numeric_l1 n s m i = some ((s.drop i).all isd && decide (0 < s.length)) := by
  intro m
  induction m with
  | zero => intro i _ h; omega
  | succ m ih =>
    intro i hi hm
    rw [ref5_Numeric_l1]
    by_cases h : i < s.length
    · rw [if_pos (by rw [decide_eq_true_eq]; omega), gidx_nat, getElem?_lt h, bsome, bsome, List.drop_eq_getElem_cons h, List.all_cons]
      unfold ref5_Numeric_j1 isd
      by_cases a : s[i].toNat < 48
      · rw [if_pos (by rw [decide_eq_true_eq]; omega), if_pos rfl]
        simp; omega
      · rw [if_neg (by rw [decide_eq_true_eq]; omega)]
        by_cases b : 57 < s[i].toNat
        · rw [if_pos (by rw [decide_eq_true_eq]; omega)]
          simp; omega
        · rw [if_neg (by rw [decide_eq_true_eq]; omega), gadd_nat (by omega), bsome, ih (i + 1) (by omega) (by omega), decide_eq_true (show 48 ≤ s[i].toNat by omega), decide_eq_true (show s[i].toNat ≤ 57 by omega)]
          rfl
    · rw [if_neg (by rw [decide_eq_true_eq]; omega), List.drop_eq_nil_of_le (by omega)]
      simp
theorem rnum_eq {n : Nat} (hn : 1000 < n) {s : List UInt8} (hl : s.length ≤ 100) (hp : 0 < s.length) : ref5_Numeric n s = some (num s) := by
  unfold ref5_Numeric
  have := rnum_l1 n s (by omega) n 0 (by omega) (by omega)
  refine Eq.trans this ?_
  rw [decide_eq_true hp]
  simp [num]
theorem rid_byte (n : Nat) (x2 : Int) (lp : Int → Option Bool) (y : UInt8) :
    ((ref5_in n (IntKind.wrap .i64 (y.toNat : Int)) 48 57).bind fun r6 =>
      if (!r6) = true then
        (ref5_in n (IntKind.wrap .i64 (y.toNat : Int)) 97 122).bind fun r7 =>
        if (!r7) = true then
          (ref5_in n (IntKind.wrap .i64 (y.toNat : Int)) 65 90).bind fun r8 =>
          if (!r8) = true then
            ref5_Identifier_j2 n x2 lp (decide ((IntKind.wrap .i64 (y.toNat : Int)) ≠ 45))
          else
            ref5_Identifier_j2 n x2 lp false
        else
          ref5_Identifier_j2 n x2 lp false
      else
        ref5_Identifier_j2 n x2 lp false) = ref5_Identifier_j2 n x2 lp (!okb y) := by
  simp only [wrap_byte]
  have key : ∀ b : Bool, (b = true ↔ ¬ (okb y = true)) → ref5_Identifier_j2 n x2 lp b = ref5_Identifier_j2 n x2 lp (!okb y) := by
    intro b hb
    have : b = !okb y := by
      cases hh : okb y <;> cases b <;> simp [hh] at hb ⊢
    rw [this]
  rw [ref_in5, bsome]
  by_cases a : (48 : Int) ≤ y.toNat ∧ (y.toNat : Int) ≤ 57
  · rw [decide_eq_true a, if_neg (by simp)]
    refine key _ ?_
    simp only [okb, isd, decide_eq_true_eq, Bool.or_eq_true, Bool.and_eq_true, Bool.false_eq_true, false_iff, Classical.not_not, not_or, not_and, ne_eq]
    omega
  · rw [decide_eq_false a, if_pos (by simp), ref_in5, bsome]
    by_cases b : (97 : Int) ≤ y.toNat ∧ (y.toNat : Int) ≤ 122
    · rw [decide_eq_true b, if_neg (by simp)]
      refine key _ ?_
      simp only [okb, isd, decide_eq_true_eq, Bool.or_eq_true, Bool.and_eq_true, Bool.false_eq_true, false_iff, Classical.not_not, not_or, not_and, ne_eq]
      omega
    · rw [decide_eq_false b, if_pos (by simp), ref_in5, bsome]
      by_cases c : (65 : Int) ≤ y.toNat ∧ (y.toNat : Int) ≤ 90
      · rw [decide_eq_true c, if_neg (by simp)]
        refine key _ ?_
        simp only [okb, isd, decide_eq_true_eq, Bool.or_eq_true, Bool.and_eq_true, Bool.false_eq_true, false_iff, Classical.not_not, not_or, not_and, ne_eq]
        omega
      · rw [decide_eq_false c, if_pos (by simp)]
        refine key _ ?_
        simp only [okb, isd, decide_eq_true_eq, Bool.or_eq_true, Bool.and_eq_true, Bool.false_eq_true, false_iff, Classical.not_not, not_or, not_and, ne_eq]
        omega
theorem rid_l1 (n : Nat) (s : List UInt8) (hl : s.length ≤ 8) : ∀ (m i : Nat), i ≤ s.length → s.length - i < m → ref5_Identifier_l1 n s m i = some ((s.drop i).all okb) := by
  intro m
  induction m with
  | zero => intro i _ h; omega
  | succ m ih =>
    intro i hi hm
    rw [ref5_Identifier_l1]
    by_cases h : i < s.length
    · rw [if_pos (by rw [decide_eq_true_eq]; omega), gidx_nat, getElem?_lt h, bsome, rid_byte, List.drop_eq_getElem_cons h, List.all_cons]
      unfold ref5_Identifier_j2
      cases ho : okb s[i] with
      | false => simp
      | true =>
        rw [if_neg (by simp), gadd_nat (by omega), bsome, ih (i + 1) (by omega) (by omega)]
        simp
    · rw [if_neg (by rw [decide_eq_true_eq]; omega), List.drop_eq_nil_of_le (by omega)]
      simp
theorem head48 (x : UInt8) : ((x.toNat : Int) = 48) ↔ some x = some 48 := by
  constructor
  · intro h
    refine congrArg some ?_
    exact UInt8.toNat_inj.1 (by have : x.toNat = 48 := by omega
                                rw [this]; rfl)
  · intro e
    injection e with e
    subst e
    rfl
theorem ridentifier_eq {n : Nat} (hn : 1000 < n) (s : List UInt8) : ref5_Identifier n s = some (ident s) := by
  unfold ref5_Identifier ref5_Identifier_j1 ident
  rw [ref_in5, bsome]
  by_cases h : 1 ≤ s.length ∧ s.length ≤ 8
  · rw [decide_eq_true (show (1 : Int) ≤ s.length ∧ (s.length : Int) ≤ 8 by omega), if_neg (by simp), rnum_eq hn (by omega) (by omega), bsome, decide_eq_true h]
    have fin := rid_l1 n s h.2 n 0 (by omega) (by omega)
    simp only [List.drop_zero] at fin
    have fin' : ref5_Identifier_l1 n s n 0 = some (s.all okb) := fin
    cases hn' : num s with
    | false =>
      rw [if_neg (by simp), if_neg (by simp), fin']
      simp
    | true =>
      rw [if_pos rfl]
      by_cases h1 : s.length = 1
      · rw [if_neg (by rw [decide_eq_true_eq]; omega), if_neg (by simp), fin']
        simp [h1]
      · rw [if_pos (by rw [decide_eq_true_eq]; omega)]
        match s, h, h1, fin' with
        | x :: r, h, h1, fin' =>
          rw [show (0 : Int) = ((0 : Nat) : Int) from rfl, gidx_nat]
          simp only [List.getElem?_cons_zero]
          rw [bsome]
          have hr : r ≠ [] := fun e => h1 (by rw [e]; rfl)
          by_cases hx : (x.toNat : Int) = 48
          · have := (head48 x).1 hx
            rw [if_pos (by rw [decide_eq_true_eq]; exact hx)]
            simp at this
            simp [this, hr]
          · have h2 : some x ≠ some 48 := fun e => hx ((head48 x).2 e)
            rw [if_neg (by rw [decide_eq_true_eq]; exact hx)]
            refine Eq.trans fin' ?_
            simp only [List.head?_cons]
            simp [h2]
  · rw [decide_eq_false (show ¬ ((1 : Int) ≤ s.length ∧ (s.length : Int) ≤ 8) by omega), if_pos (by simp), if_pos rfl, decide_eq_false h]
    rfl
def sg (a b : Int) : Int := if a < b then -1 else if b < a then 1 else 0
def cb (a b : List UInt8) : Int := Lib.compareBytes a b
def ci (a b : List UInt8) : Int :=
  if num a = true ∧ num b = true then (if sg a.length b.length ≠ 0 then sg a.length b.length else cb a b)
  else if num a = true then -1 else if num b = true then 1 else cb a b
end Go.Proofs.YtpcmhhbocifbcaaGreatDoor
namespace Go.Proofs.YtpcmhhbocifbcaaGreatDoor
open Go.PW Go
def run {α S R : Type} (f : S → Nat → α → R ⊕ S) (fin : S → R) : S → Nat → List α → R
  | s, _, [] => fin s
  | s, i, x :: l => match f s i x with
    | .inl r => r
    | .inr s' => run f fin s' (i + 1) l
def nxt {R S : Type} (k : S → Option R) : R ⊕ S → Option R
  | .inl r => some r
  | .inr s' => k s'
theorem nxt_l {R S : Type} (k : S → Option R) (r : R) : nxt k (.inl r) = some r := rfl
theorem nxt_r {R S : Type} (k : S → Option R) (s : S) : nxt k (.inr s) = k s := rfl
theorem loop_eq {α S R : Type} {l : List α} {L : Nat → S → Int → Option R} (f : S → Nat → α → R ⊕ S) (fin : S → R) (I : S → Nat → Prop)
    (hstep : ∀ m s (i : Nat) x, I s i → i < l.length → l[i]? = some x → L (m + 1) s i = nxt (fun s' => L m s' ((i + 1 : Nat) : Int)) (f s i x))
    (hI : ∀ s i x s', I s i → l[i]? = some x → f s i x = .inr s' → I s' (i + 1))
    (hend : ∀ m s, I s l.length → L (m + 1) s (l.length : Int) = some (fin s)) :
    ∀ m s (i : Nat), I s i → i ≤ l.length → l.length - i < m → L m s i = some (run f fin s i (l.drop i)) := by
  intro m
  induction m with
  | zero => intro s i _ _ h; omega
  | succ m ih =>
    intro s i hi hl hm
    by_cases h : i = l.length
    · subst h
      rw [hend m s hi, List.drop_length]
      rfl
    · have hlt : i < l.length := by omega
      rw [hstep m s i l[i] hi hlt (List.getElem?_eq_getElem hlt), List.drop_eq_getElem_cons hlt]
      unfold run
      cases hf : f s i l[i] with
      | inl r => rfl
      | inr s' =>
        rw [nxt_r]
        exact ih s' (i + 1) (hI s i _ s' hi (List.getElem?_eq_getElem hlt) hf) (by omega) (by omega)
theorem loop_ex {R : Type} {L : Nat → Int → Option R} (B : Nat) (Q : R → Prop)
    (hstep : ∀ m (i : Nat), i < B → (∃ b, L m ((i + 1 : Nat) : Int) = some b ∧ Q b) → ∃ b, L (m + 1) i = some b ∧ Q b)
    (hend : ∀ m, ∃ b, L (m + 1) (B : Int) = some b ∧ Q b) :
    ∀ m (i : Nat), i ≤ B → B - i < m → ∃ b, L m i = some b ∧ Q b := by
  intro m
  induction m with
  | zero => intro i _ h; omega
  | succ m ih =>
    intro i h hm
    by_cases hb : i = B
    · subst hb; exact hend m
    · exact hstep m i (by omega) (ih (i + 1) (by omega) (by omega))
theorem run_pred {α S R : Type} {f : S → Nat → α → R ⊕ S} {fin : S → R} (Q : R → Prop) (hinl : ∀ s i x r, f s i x = .inl r → Q r) (hfin : ∀ s, Q (fin s)) : ∀ l s i, Q (run f fin s i l)
  | [], s, _ => hfin s
  | x :: l, s, i => by
    unfold run
    cases hf : f s i x with
    | inl r => exact hinl s i x r hf
    | inr s' => exact run_pred Q hinl hfin l s' (i + 1)
theorem run_all {α S R : Type} {f : S → Nat → α → R ⊕ S} {fin : S → R} (Q : R → Prop) (P : α → Prop) (hinl : ∀ s i x r, f s i x = .inl r → ¬ Q r) (hP : ∀ s i x s', f s i x = .inr s' → P x) : ∀ l s i, Q (run f fin s i l) → ∀ x ∈ l, P x
  | [], _, _, _, x, hx => by cases hx
  | x :: l, s, i, h, y, hy => by
    unfold run at h
    cases hf : f s i x with
    | inl r => rw [hf] at h; exact absurd h (hinl s i x r hf)
    | inr s' =>
      rw [hf] at h
      cases hy with
      | head => exact hP s i x s' hf
      | tail _ hy => exact run_all Q P hinl hP l s' (i + 1) h y hy
theorem get_lt {α : Type} {l : List α} {i : Nat} {x : α} (h : l[i]? = some x) : i < l.length := (List.getElem?_eq_some_iff.1 h).1
theorem get_mem {α : Type} {l : List α} {i : Nat} {x : α} (h : l[i]? = some x) : x ∈ l := List.mem_of_getElem? h
def vfault (v : SMajorMinorPatchPre) : SCodeIndex :=
  if 0 ≤ v.Major ∧ v.Major ≤ 1000000000 then
    if 0 ≤ v.Minor ∧ v.Minor ≤ 1000000000 then
      if 0 ≤ v.Patch ∧ v.Patch ≤ 1000000000 then
        if 4 < v.Pre.length then ⟨2, -1⟩ else run (S := Unit) (fun _ i x => if ident x = true then .inr () else .inl ⟨5, i⟩) (fun _ => ⟨0, 0⟩) () 0 v.Pre
      else ⟨3, 2⟩
    else ⟨3, 1⟩
  else ⟨3, 0⟩
theorem ifnot {α : Type} (p : Prop) [Decidable p] (a b : α) : (if (!decide p) = true then a else b) = if p then b else a := by
  by_cases h : p <;> simp [h]
theorem ifdec {α : Type} (p : Prop) [Decidable p] (a b : α) : (if decide p = true then a else b) = if p then a else b := by
  by_cases h : p <;> simp [h]
def okv (v : SMajorMinorPatchPre) : Prop := (vfault v).Code = 0
theorem vpre_l2 {n : Nat} (hn : 1000 < n) (v : SMajorMinorPatchPre) (hl : v.Pre.length ≤ 4) : version_Validate_l2 n v n 0 = some (run (S := Unit) (fun _ i x => if ident x = true then .inr () else .inl ⟨5, i⟩) (fun _ => ⟨0, 0⟩) () 0 v.Pre) := by
  refine loop_eq (l := v.Pre) (L := fun m _ i => version_Validate_l2 n v m i) _ _ (fun _ _ => True) ?_ (fun _ _ _ _ _ _ _ => trivial) ?_ n () 0 trivial (by omega) (by omega)
  · intro m s i x _ hi hx
    show version_Validate_l2 n v (m + 1) i = _
    simp only [version_Validate_l2]
    rw [if_pos (by rw [decide_eq_true_eq]; omega), gidx_nat, hx, bsome, identifier_eq hn, bsome]
    cases ident x with
    | true => rw [if_neg (by simp), gadd_nat (by omega), bsome, if_pos rfl, nxt_r]
    | false => rw [if_pos (by simp), if_neg (by simp), nxt_l]
  · intro m s _
    show version_Validate_l2 n v (m + 1) _ = _
    simp only [version_Validate_l2]
    rw [if_neg (by rw [decide_eq_true_eq]; omega)]
theorem vfault_l1 {n : Nat} (hn : 1000 < n) (v : SMajorMinorPatchPre) (hl : v.Pre.length ≤ 4) : ref5_VersionFault_l1 n v n 0 = some (run (S := Unit) (fun _ i x => if ident x = true then .inr () else .inl ⟨5, i⟩) (fun _ => ⟨0, 0⟩) () 0 v.Pre) := by
  refine loop_eq (l := v.Pre) (L := fun m _ i => ref5_VersionFault_l1 n v m i) _ _ (fun _ _ => True) ?_ (fun _ _ _ _ _ _ _ => trivial) ?_ n () 0 trivial (by omega) (by omega)
  · intro m s i x _ hi hx
    show ref5_VersionFault_l1 n v (m + 1) i = _
    simp only [ref5_VersionFault_l1]
    rw [if_pos (by rw [decide_eq_true_eq]; omega), gidx_nat, hx, bsome, ridentifier_eq hn, bsome]
    cases ident x with
    | true => rw [if_neg (by simp), gadd_nat (by omega), bsome, if_pos rfl, nxt_r]
    | false =>
      rw [if_pos (by simp), if_neg (by simp), nxt_l]
      unfold ref5_fault
      rw [bsome]
  · intro m s _
    show ref5_VersionFault_l1 n v (m + 1) _ = _
    simp only [ref5_VersionFault_l1]
    rw [if_neg (by rw [decide_eq_true_eq]; omega)]
theorem rvfault_eq {n : Nat} (hn : 1000 < n) (v : SMajorMinorPatchPre) : ref5_VersionFault n v = some (vfault v) := by
  unfold ref5_VersionFault vfault ref5_fault
  simp only [ref_in5, bsome, ifnot, ifdec]
  by_cases h1 : 0 ≤ v.Major ∧ v.Major ≤ 1000000000
  · rw [if_pos h1, if_pos h1]
    by_cases h2 : 0 ≤ v.Minor ∧ v.Minor ≤ 1000000000
    · rw [if_pos h2, if_pos h2]
      by_cases h3 : 0 ≤ v.Patch ∧ v.Patch ≤ 1000000000
      · rw [if_pos h3, if_pos h3]
        by_cases h4 : 4 < v.Pre.length
        · rw [if_pos (by omega), if_pos h4]
        · rw [if_neg (by omega), if_neg h4]
          exact vfault_l1 hn v (by omega)
      · rw [if_neg h3, if_neg h3]
    · rw [if_neg h2, if_neg h2]
  · rw [if_neg h1, if_neg h1]
theorem validate_l1 {n : Nat} (v : SMajorMinorPatchPre) (m : Nat) (i : Nat) (hi : i < 3) :
    version_Validate_l1 n v (m + 1) i = if 0 ≤ (if i = 0 then v.Major else if i = 1 then v.Minor else v.Patch) ∧ (if i = 0 then v.Major else if i = 1 then v.Minor else v.Patch) ≤ 1000000000 then version_Validate_l1 n v m ((i + 1 : Nat) : Int) else some ⟨3, i⟩ := by
  simp only [version_Validate_l1]
  rw [if_pos (by rw [decide_eq_true_eq]; omega), show garr 3 (i : Int) = some (i : Int) from if_pos (by omega), bsome]
  have e : (if (i : Int) = 0 then v.Major else (if (i : Int) = 1 then v.Minor else v.Patch)) = (if i = 0 then v.Major else if i = 1 then v.Minor else v.Patch) := by
    rcases (show i = 0 ∨ i = 1 ∨ i = 2 by omega) with h | h | h <;> subst h <;> simp
  rw [e]
  generalize (if i = 0 then v.Major else if i = 1 then v.Minor else v.Patch) = y
  unfold version_Validate_j1
  rw [gadd_nat (by omega), bsome]
  by_cases h1 : y < 0
  · rw [decide_eq_true h1, if_pos rfl, if_pos rfl, if_neg (by omega)]
  · rw [decide_eq_false h1, if_neg (by simp)]
    by_cases h2 : 1000000000 < y
    · rw [decide_eq_true h2, if_pos rfl, if_neg (by omega)]
    · rw [decide_eq_false h2, if_neg (by simp), if_pos (by omega)]
theorem validate_eq {n : Nat} (hn : 1000 < n) (v : SMajorMinorPatchPre) : version_Validate n v = some (vfault v) := by
  unfold version_Validate vfault
  obtain ⟨k, hk⟩ : ∃ k, n = k + 4 := ⟨n - 4, by omega⟩
  have e : version_Validate_l1 n v n 0 = version_Validate_l1 n v (k + 3 + 1) ((0 : Nat) : Int) := by rw [show k + 3 + 1 = n by omega]; rfl
  rw [e, validate_l1 v (k + 3) 0 (by omega)]
  simp only [if_pos]
  by_cases h1 : 0 ≤ v.Major ∧ v.Major ≤ 1000000000
  · rw [if_pos h1, if_pos h1, validate_l1 v (k + 2) 1 (by omega)]
    simp only [if_pos, Nat.one_ne_zero, if_false]
    by_cases h2 : 0 ≤ v.Minor ∧ v.Minor ≤ 1000000000
    · rw [if_pos h2, if_pos h2, validate_l1 v (k + 1) 2 (by omega)]
      simp only [if_pos, show ¬ (1 + 1 = 0) by omega, show ¬ (1 + 1 = 1) by omega, if_false]
      by_cases h3 : 0 ≤ v.Patch ∧ v.Patch ≤ 1000000000
      · rw [if_pos h3, if_pos h3]
        simp only [version_Validate_l1]
        rw [if_neg (by simp)]
        by_cases h4 : 4 < v.Pre.length
        · rw [if_pos (by rw [decide_eq_true_eq]; omega), if_pos h4]
        · rw [if_neg (by rw [decide_eq_true_eq]; omega), if_neg h4]
          exact vpre_l2 hn v (by omega)
      · rw [if_neg h3, if_neg h3]
        rfl
    · rw [if_neg h2, if_neg h2]
      rfl
  · rw [if_neg h1, if_neg h1]
    rfl
theorem vfault_zero {v : SMajorMinorPatchPre} (h : (vfault v).Code = 0) : vfault v = ⟨0, 0⟩ := by
  have : (vfault v).Code = 0 → vfault v = ⟨0, 0⟩ := by
    unfold vfault
    by_cases h1 : 0 ≤ v.Major ∧ v.Major ≤ 1000000000
    case neg => rw [if_neg h1]; intro h; cases h
    by_cases h2 : 0 ≤ v.Minor ∧ v.Minor ≤ 1000000000
    case neg => rw [if_pos h1, if_neg h2]; intro h; cases h
    by_cases h3 : 0 ≤ v.Patch ∧ v.Patch ≤ 1000000000
    case neg => rw [if_pos h1, if_pos h2, if_neg h3]; intro h; cases h
    rw [if_pos h1, if_pos h2, if_pos h3]
    split
    · intro h; cases h
    refine run_pred (fun r : SCodeIndex => r.Code = 0 → r = ⟨0, 0⟩) ?_ (fun _ _ => rfl) _ _ _
    intro s i x r hr
    split at hr
    · cases hr
    · injection hr with hr; subst hr; intro h; cases h
  exact this h
theorem okv_pre {v : SMajorMinorPatchPre} (h : okv v) : v.Pre.length ≤ 4 ∧ ∀ x ∈ v.Pre, ident x = true := by
  unfold okv vfault at h
  by_cases h1 : 0 ≤ v.Major ∧ v.Major ≤ 1000000000
  case neg => rw [if_neg h1] at h; cases h
  by_cases h2 : 0 ≤ v.Minor ∧ v.Minor ≤ 1000000000
  case neg => rw [if_pos h1, if_neg h2] at h; cases h
  by_cases h3 : 0 ≤ v.Patch ∧ v.Patch ≤ 1000000000
  case neg => rw [if_pos h1, if_pos h2, if_neg h3] at h; cases h
  rw [if_pos h1, if_pos h2, if_pos h3] at h
  split at h
  · cases h
  refine ⟨by omega, ?_⟩
  refine run_all (fun r : SCodeIndex => r.Code = 0) (fun x => ident x = true) ?_ ?_ _ _ _ h
  · intro s i x r hr
    split at hr
    · cases hr
    · injection hr with hr; subst hr; intro h; cases h
  · intro s i x r hr
    split at hr
    · assumption
    · cases hr
end Go.Proofs.YtpcmhhbocifbcaaGreatDoor
namespace Go.Proofs.YtpcmhhbocifbcaaGreatDoor
open Go.PW Go
theorem okb_of_ident {s : List UInt8} (h : ident s = true) : (1 ≤ s.length ∧ s.length ≤ 8) ∧ s.all okb = true ∧ (num s = true → s.length = 1 ∨ s.head? ≠ some 48) := by
  unfold ident at h
  simp only [Bool.and_eq_true, Bool.or_eq_true, decide_eq_true_eq, Bool.not_eq_true'] at h
  obtain ⟨⟨h1, h2⟩, h3⟩ := h
  refine ⟨h1, h2, fun hn => ?_⟩
  rcases h3 with (h3 | h3) | h3
  · rw [hn] at h3; cases h3
  · exact .inl h3
  · exact .inr h3
def dv (c : UInt8) : Int := (c.toNat : Int) - 48
theorem isd_dv {c : UInt8} (h : isd c = true) : 0 ≤ dv c ∧ dv c ≤ 9 := by
  unfold isd at h
  simp only [Bool.and_eq_true, decide_eq_true_eq] at h
  unfold dv
  omega
theorem num_cons {c : UInt8} {s : List UInt8} (h : num (c :: s) = true) : isd c = true ∧ num s = true := by
  unfold num at h ⊢
  simpa using h
theorem u8sub {c : UInt8} (h : isd c = true) : IntKind.wrap .i64 (ksub .u8 (c.toNat : Int) 48) = dv c := by
  have hd := isd_dv h
  unfold dv at hd ⊢
  unfold ksub
  rw [show IntKind.wrap .u8 ((c.toNat : Int) - 48) = (c.toNat : Int) - 48 from ?_, wrap_i64 (by omega)]
  simp only [IntKind.wrap]
  have : IntKind.u8.bits = 8 := rfl
  have h2 : IntKind.u8.signed = false := rfl
  simp [this, h2]
  omega
end Go.Proofs.YtpcmhhbocifbcaaGreatDoor
namespace Go.Proofs.YtpcmhhbocifbcaaGreatDoor
open Go.PW Go
def po : List (List UInt8) → List (List UInt8) → Int
  | [], [] => 0
  | [], _ :: _ => -1
  | _ :: _, [] => 1
  | x :: a, y :: b => if ci x y ≠ 0 then ci x y else po a b
def vo (a b : SMajorMinorPatchPre) : Int :=
  if sg a.Major b.Major ≠ 0 then sg a.Major b.Major else if sg a.Minor b.Minor ≠ 0 then sg a.Minor b.Minor else if sg a.Patch b.Patch ≠ 0 then sg a.Patch b.Patch
  else if a.Pre.length = 0 ∨ b.Pre.length = 0 then sg b.Pre.length a.Pre.length else po a.Pre b.Pre
end Go.Proofs.YtpcmhhbocifbcaaGreatDoor
namespace Go.Proofs.YtpcmhhbocifbcaaGreatDoor
open Go.PW Go
theorem etaV (v : SMajorMinorPatchPre) : (⟨v.Major, v.Minor, v.Patch, v.Pre⟩ : SMajorMinorPatchPre) = v := rfl
theorem beqF (c : SCodeIndex) : ((c.Code == 0 && (c.Index == 0 && true)) != true) = !decide (c = ⟨0, 0⟩) := by
  obtain ⟨a, b⟩ := c
  by_cases h1 : a = 0 <;> by_cases h2 : b = 0 <;> simp [h1, h2]
theorem vfault_iff (v : SMajorMinorPatchPre) : vfault v = ⟨0, 0⟩ ↔ (vfault v).Code = 0 := ⟨fun h => by rw [h], vfault_zero⟩
def bad (l : List SLowHighUnbounded) (i : Nat) (x : SLowHighUnbounded) : Bool :=
  match i with
  | 0 => false
  | j + 1 => match l[j]? with
    | some e => e.Unbounded || decide (0 ≤ vo e.High x.Low)
    | none => false
end Go.Proofs.YtpcmhhbocifbcaaGreatDoor
namespace Go.Proofs.YtpcmhhbocifbcaaGreatDoor
open Go.PW Go
theorem run_ok {α R : Type} {f : Unit → Nat → α → R ⊕ Unit} {z : R} : ∀ {l : List α} {i : Nat}, (∀ k x, l[k]? = some x → f () (i + k) x = .inr ()) → run f (fun _ => z) () i l = z
  | [], _, _ => rfl
  | x :: l, i, h => by
    unfold run
    have h0 := h 0 x rfl
    rw [Nat.add_zero] at h0
    rw [h0]
    refine run_ok fun k y hy => ?_
    have := h (k + 1) y hy
    rw [show i + (k + 1) = i + 1 + k by omega] at this
    exact this
theorem run_inv {α R : Type} {f : Unit → Nat → α → R ⊕ Unit} {z : R} (Q : R → Prop) (hinl : ∀ i x r, f () i x = .inl r → ¬ Q r) : ∀ {l : List α} {i : Nat}, Q (run f (fun _ => z) () i l) → ∀ k x, l[k]? = some x → f () (i + k) x = .inr ()
  | [], _, _, k, x, h => by simp at h
  | y :: l, i, hq, k, x, h => by
    unfold run at hq
    cases hf : f () i y with
    | inl r => rw [hf] at hq; exact absurd hq (hinl i y r hf)
    | inr s =>
      rw [hf] at hq
      match k, h with
      | 0, h => injection h with h; subst h; exact hf
      | k + 1, h =>
        have := run_inv Q hinl hq k x h
        rw [show i + (k + 1) = i + 1 + k by omega]
        exact this
end Go.Proofs.YtpcmhhbocifbcaaGreatDoor
namespace Go.Proofs.YtpcmhhbocifbcaaGreatDoor
open Go.PW Go
abbrev dig61 (x : Int) : Prop := 0 ≤ x ∧ x ≤ 2305843009213693950
theorem isDigest_eq (n : Nat) (x : Int) : signing_IsDigest n x = some (decide (dig61 x)) := by
  unfold signing_IsDigest signing_IsDigest_j1
  rw [ifdec]
  by_cases h1 : 0 ≤ x
  · rw [if_pos h1]
    by_cases h2 : x < 2305843009213693951
    · rw [decide_eq_true h2, decide_eq_true (show dig61 x from ⟨h1, by omega⟩)]
    · rw [decide_eq_false h2, decide_eq_false (show ¬ dig61 x from fun h => h2 (by have := h.2; omega))]
  · rw [if_neg h1, decide_eq_false (show ¬ dig61 x from fun h => h1 h.1)]
theorem risDigest_eq (n : Nat) (x : Int) : ref5_IsDigest n x = some (decide (dig61 x)) := by
  unfold ref5_IsDigest
  rw [ref_in5, bsome]
def ebad (l : List SPackageVersionDigest) (i : Nat) (x : SPackageVersionDigest) : Bool :=
  match i with
  | 0 => false
  | j + 1 => match l[j]? with
    | some e => decide (x.Package ≤ e.Package)
    | none => false
theorem ebad_succ {l : List SPackageVersionDigest} {j : Nat} {x e : SPackageVersionDigest} (h : l[j]? = some e) : ebad l (j + 1) x = decide (x.Package ≤ e.Package) := by
  show (match l[j]? with | some e => decide (x.Package ≤ e.Package) | none => false) = _
  rw [h]
def ecode (l : List SPackageVersionDigest) (i : Nat) (x : SPackageVersionDigest) : Int :=
  if 0 ≤ x.Package ∧ x.Package ≤ 5 then
    if (vfault x.Version).Code = 0 then (if dig61 x.Digest then (if ebad l i x = true then 5 else 0) else 3) else (vfault x.Version).Code
  else 3
def estep (l : List SPackageVersionDigest) (_ : Unit) (i : Nat) (x : SPackageVersionDigest) : SCodeIndex ⊕ Unit := if ecode l i x = 0 then .inr () else .inl ⟨ecode l i x, i⟩
def lfault (l : List SPackageVersionDigest) : SCodeIndex := if 6 < l.length then ⟨2, -1⟩ else run (estep l) (fun _ => ⟨0, 0⟩) () 0 l
theorem lvalidate_eq {n : Nat} (hn : 1000 < n) (l : List SPackageVersionDigest) : lockfile_Validate n l = some (lfault l) := by
  unfold lockfile_Validate lfault
  rw [ifdec]
  by_cases hl : 6 < l.length
  · rw [if_pos (by omega), if_pos hl]
  rw [if_neg (by omega), if_neg hl]
  refine loop_eq (l := l) (L := fun m _ i => lockfile_Validate_l1 n l m i) _ _ (fun _ _ => True) ?_ (fun _ _ _ _ _ _ _ => trivial) ?_ n () 0 trivial (by omega) (by omega)
  · intro m s i x _ hi hx
    show lockfile_Validate_l1 n l (m + 1) i = _
    simp only [lockfile_Validate_l1]
    rw [if_pos (by rw [decide_eq_true_eq]; omega), gidx_nat, hx, bsome, etaV, validate_eq hn, bsome]
    have j1 : ∀ c : Int, lockfile_Validate_j1 n i (lockfile_Validate_l1 n l m) c = nxt (fun _ => lockfile_Validate_l1 n l m ((i + 1 : Nat) : Int)) (if c = 0 then .inr () else .inl ⟨c, i⟩) := by
      intro c
      unfold lockfile_Validate_j1
      rw [ifdec, gadd_nat (by omega), bsome]
      by_cases hc : c = 0
      · rw [if_neg (by simpa using hc), if_pos hc, nxt_r]
      · rw [if_pos hc, if_neg hc, nxt_l]
    have j2t : lockfile_Validate_j2 n l i (lockfile_Validate_l1 n l m) x (vfault x.Version) true = nxt (fun _ : Unit => lockfile_Validate_l1 n l m ((i + 1 : Nat) : Int)) (.inl ⟨3, i⟩) := by
      unfold lockfile_Validate_j2
      rw [if_pos rfl, j1]
      rfl
    have j2f : lockfile_Validate_j2 n l i (lockfile_Validate_l1 n l m) x (vfault x.Version) false = nxt (fun _ => lockfile_Validate_l1 n l m ((i + 1 : Nat) : Int)) (if (vfault x.Version).Code = 0 then (if dig61 x.Digest then (if ebad l i x = true then .inl ⟨5, i⟩ else .inr ()) else .inl ⟨3, i⟩) else .inl ⟨(vfault x.Version).Code, i⟩) := by
      unfold lockfile_Validate_j2 lockfile_Validate_j3
      simp only [Bool.false_eq_true, if_false]
      rw [ifdec]
      by_cases h1 : (vfault x.Version).Code = 0
      · rw [if_neg (fun e => e h1), if_pos h1, isDigest_eq, bsome, ifnot]
        by_cases h2 : dig61 x.Digest
        · rw [if_pos h2, if_pos h2]
          cases i with
          | zero =>
            rw [if_neg (by simp), j1, if_pos h1]
            rfl
          | succ j =>
            have hj : j < l.length := by omega
            rw [if_pos (by rw [decide_eq_true_eq]; omega), gsubI (by omega), bsome, show ((j + 1 : Nat) : Int) - 1 = (j : Int) by omega, gidx_nat, getElem?_lt hj, bsome, ebad_succ (getElem?_lt hj), j1, j1, if_pos h1]
            cases decide (x.Package ≤ l[j].Package) <;> rfl
        · rw [if_neg h2, if_neg h2, j1]
          rfl
      · rw [if_pos h1, if_neg h1, j1, if_neg h1]
    unfold estep ecode
    rw [ifdec, j2t]
    by_cases h0 : x.Package < 0
    · rw [if_pos h0, if_neg (show ¬ (0 ≤ x.Package ∧ x.Package ≤ 5) by omega), if_neg (by simp)]
    · rw [if_neg h0]
      by_cases h1 : 6 ≤ x.Package
      · rw [decide_eq_true h1, j2t, if_neg (show ¬ (0 ≤ x.Package ∧ x.Package ≤ 5) by omega), if_neg (by simp)]
      · rw [decide_eq_false h1, j2f, if_pos (show 0 ≤ x.Package ∧ x.Package ≤ 5 by omega)]
        by_cases h2 : (vfault x.Version).Code = 0
        · rw [if_pos h2, if_pos h2]
          by_cases h3 : dig61 x.Digest
          · rw [if_pos h3, if_pos h3]
            cases ebad l i x <;> rfl
          · rw [if_neg h3, if_neg h3]
            rfl
        · rw [if_neg h2, if_neg h2, if_neg h2]
  · intro m s _
    show lockfile_Validate_l1 n l (m + 1) _ = _
    simp only [lockfile_Validate_l1]
    rw [if_neg (by rw [decide_eq_true_eq]; omega)]
end Go.Proofs.YtpcmhhbocifbcaaGreatDoor
namespace Go.Proofs.YtpcmhhbocifbcaaGreatDoor
open Go.PW Go
theorem rlvalidate_eq {n : Nat} (hn : 1000 < n) (l : List SPackageVersionDigest) : ref6_LockFault n l = some (lfault l) := by
  unfold ref6_LockFault lfault ref6_fault
  rw [ifdec]
  by_cases hl : 6 < l.length
  · rw [if_pos (by omega), if_pos hl, bsome]
  rw [if_neg (by omega), if_neg hl]
  refine loop_eq (l := l) (L := fun m _ i => ref6_LockFault_l1 n l m i) _ _ (fun _ _ => True) ?_ (fun _ _ _ _ _ _ _ => trivial) ?_ n () 0 trivial (by omega) (by omega)
  · intro m s i x _ hi hx
    show ref6_LockFault_l1 n l (m + 1) i = _
    simp only [ref6_LockFault_l1]
    unfold ref6_fault
    rw [if_pos (by rw [decide_eq_true_eq]; omega), gidx_nat, hx]
    simp only [bsome, ref_in6, etaV, rvfault_eq hn, risDigest_eq, ifnot, ifdec]
    have j1 : ∀ c : Bool, ref6_LockFault_j1 n i (ref6_LockFault_l1 n l m) c = nxt (fun _ : Unit => ref6_LockFault_l1 n l m ((i + 1 : Nat) : Int)) (if c = true then .inl ⟨5, i⟩ else .inr ()) := by
      intro c
      unfold ref6_LockFault_j1 ref6_fault
      rw [gadd_nat (by omega), bsome, bsome]
      cases c <;> rfl
    unfold estep ecode
    by_cases h1 : 0 ≤ x.Package ∧ x.Package ≤ 5
    · rw [if_pos h1, if_pos h1]
      by_cases h2 : (vfault x.Version).Code = 0
      · rw [if_neg (fun e => e h2), if_pos h2]
        by_cases h3 : dig61 x.Digest
        · rw [if_pos h3, if_pos h3]
          cases i with
          | zero =>
            rw [if_neg (by simp), j1]
            rfl
          | succ j =>
            have hj : j < l.length := by omega
            rw [if_pos (by omega), gsubI (by omega), bsome, show ((j + 1 : Nat) : Int) - 1 = (j : Int) by omega, gidx_nat, getElem?_lt hj, bsome, ebad_succ (getElem?_lt hj), j1]
            cases decide (x.Package ≤ l[j].Package) <;> rfl
        · rw [if_neg h3, if_neg h3]
          rfl
      · rw [if_pos h2, if_neg h2, if_neg h2]
        rfl
    · rw [if_neg h1, if_neg h1]
      rfl
  · intro m s _
    show ref6_LockFault_l1 n l (m + 1) _ = _
    simp only [ref6_LockFault_l1]
    rw [if_neg (by rw [decide_eq_true_eq]; omega)]
theorem ecode_l {l : List SPackageVersionDigest} {s : Unit} {i : Nat} {x : SPackageVersionDigest} {r : SCodeIndex} (h : estep l s i x = .inl r) : r.Code ≠ 0 := by
  unfold estep at h
  split at h
  · cases h
  · injection h with h; subst h; assumption
theorem lfault_zero {l : List SPackageVersionDigest} (h : (lfault l).Code = 0) : lfault l = ⟨0, 0⟩ := by
  have : (lfault l).Code = 0 → lfault l = ⟨0, 0⟩ := by
    unfold lfault
    split
    · intro h; cases h
    exact run_pred (fun r : SCodeIndex => r.Code = 0 → r = ⟨0, 0⟩) (fun _ _ _ _ h h0 => absurd h0 (ecode_l h)) (fun _ _ => rfl) _ _ _
  exact this h
theorem lfault_iff {l : List SPackageVersionDigest} : (lfault l).Code = 0 ↔ l.length ≤ 6 ∧ (∀ x ∈ l, (0 ≤ x.Package ∧ x.Package ≤ 5) ∧ okv x.Version ∧ dig61 x.Digest) ∧ l.Pairwise (fun a b => a.Package < b.Package) := by
  have one : ∀ i x, ecode l i x = 0 ↔ ((0 ≤ x.Package ∧ x.Package ≤ 5) ∧ okv x.Version ∧ dig61 x.Digest) ∧ ebad l i x = false := by
    intro i x
    unfold ecode okv
    by_cases h1 : 0 ≤ x.Package ∧ x.Package ≤ 5
    · rw [if_pos h1]
      by_cases h2 : (vfault x.Version).Code = 0
      · rw [if_pos h2]
        by_cases h3 : dig61 x.Digest
        · rw [if_pos h3]
          cases ebad l i x with
          | true => exact ⟨fun h => (by cases h), fun h => (by cases h.2)⟩
          | false => exact ⟨fun _ => ⟨⟨h1, h2, h3⟩, rfl⟩, fun _ => rfl⟩
        · rw [if_neg h3]
          exact ⟨fun h => (by cases h), fun h => absurd h.1.2.2 h3⟩
      · rw [if_neg h2]
        exact ⟨fun h => absurd h h2, fun h => absurd h.1.2.1 h2⟩
    · rw [if_neg h1]
      exact ⟨fun h => (by cases h), fun h => absurd h.1.1 h1⟩
  constructor
  · intro h
    unfold lfault at h
    by_cases hl : 6 < l.length
    · rw [if_pos hl] at h; cases h
    rw [if_neg hl] at h
    have hk := run_inv (f := estep l) (fun r : SCodeIndex => r.Code = 0) (fun i x r h => ecode_l h) h
    have hk' : ∀ k x, l[k]? = some x → ((0 ≤ x.Package ∧ x.Package ≤ 5) ∧ okv x.Version ∧ dig61 x.Digest) ∧ ebad l k x = false := by
      intro k x hx
      have := hk k x hx
      rw [Nat.zero_add] at this
      unfold estep at this
      split at this
      · rename_i h0; exact (one k x).1 h0
      · cases this
    refine ⟨by omega, fun x hx => ?_, ?_⟩
    · obtain ⟨k, hk⟩ := List.getElem?_of_mem hx
      exact (hk' k x hk).1
    · rw [List.pairwise_iff_getElem]
      intro i j hi hj hij
      induction j with
      | zero => omega
      | succ j ih =>
        have hb := (hk' (j + 1) _ (getElem?_lt hj)).2
        rw [ebad_succ (getElem?_lt (show j < l.length by omega)), decide_eq_false_iff_not] at hb
        by_cases e : i = j
        · subst e; omega
        · have := ih (by omega) (by omega)
          omega
  · rintro ⟨h1, h2, h3⟩
    unfold lfault
    rw [if_neg (by omega), run_ok]
    intro k x hx
    rw [Nat.zero_add]
    unfold estep
    rw [if_pos ((one k x).2 ⟨h2 x (get_mem hx), ?_⟩)]
    match k, hx with
    | 0, _ => rfl
    | j + 1, hx =>
      have hj := get_lt hx
      rw [ebad_succ (getElem?_lt (show j < l.length by omega)), decide_eq_false_iff_not]
      rw [List.pairwise_iff_getElem] at h3
      have := h3 j (j + 1) (by omega) hj (by omega)
      rw [getElem?_lt hj] at hx
      injection hx with hx
      rw [hx] at this
      omega
end Go.Proofs.YtpcmhhbocifbcaaGreatDoor
namespace Go.Proofs.YtpcmhhbocifbcaaGreatDoor
open Go.PW Go
theorem digit_cut {k : Nat} (h : k < 10) : gcut ([48, 49, 50, 51, 52, 53, 54, 55, 56, 57] : List UInt8) (k : Int) ((k : Int) + 1) = some [UInt8.ofNat (48 + k)] := by
  rcases (show k = 0 ∨ k = 1 ∨ k = 2 ∨ k = 3 ∨ k = 4 ∨ k = 5 ∨ k = 6 ∨ k = 7 ∨ k = 8 ∨ k = 9 by omega) with e | e | e | e | e | e | e | e | e | e <;> subst e <;> rfl
theorem decDigits_step {u : Nat} (h : ¬ u < 10) : Lib.decDigits u = Lib.decDigits (u / 10) ++ [UInt8.ofNat (48 + u % 10)] := by
  rw [Lib.decDigits, dif_neg h]
theorem rdigits_eq : ∀ (n u : Nat), u < 10 ^ n → 0 < n → u ≤ 4611686018427387904 → n ≤ 100000 → ref5_Digits n u = some (Lib.decDigits u) ∧ (Lib.decDigits u).length ≤ n
  | 0, _, _, h, _, _ => by omega
  | n + 1, u, hu, _, hb, hn => by
    simp only [ref5_Digits]
    rw [ifdec]
    by_cases h : u < 10
    · rw [if_pos (by omega), gaddI (by omega), bsome, digit_cut h, bsome, Lib.decDigits_one h]
      exact ⟨rfl, by simp⟩
    · have hq : u / 10 < 10 ^ n := by
        rw [Nat.pow_succ] at hu
        exact Nat.div_lt_of_lt_mul (by omega)
      have hn0 : 0 < n := by
        rcases Nat.eq_zero_or_pos n with e | e
        · subst e; simp at hq; omega
        · exact e
      obtain ⟨ih, il⟩ := rdigits_eq n (u / 10) hq hn0 (by omega) (by omega)
      have e1 : gquo (u : Int) 10 = some ((u / 10 : Nat) : Int) := by
        unfold gquo
        rw [if_neg (by decide)]
        show gchk ((u / 10 : Nat) : Int) = _
        exact gchk_ok (by omega)
      have e2 : grem (u : Int) 10 = some ((u % 10 : Nat) : Int) := by
        unfold grem
        rw [if_neg (by decide)]
        rfl
      have hl : (Lib.decDigits (u / 10) ++ [UInt8.ofNat (48 + u % 10)]).length ≤ n + 1 := by simp; omega
      have e3 : gcat (Lib.decDigits (u / 10)) [UInt8.ofNat (48 + u % 10)] = some (Lib.decDigits (u / 10) ++ [UInt8.ofNat (48 + u % 10)]) := by
        unfold gcat
        rw [if_pos]
        simp at hl ⊢
        unfold big
        omega
      rw [if_neg (by omega), e1, bsome, ih, bsome, e2, bsome, bsome, gaddI (by omega), bsome, digit_cut (Nat.mod_lt _ (by omega)), bsome, e3, bsome, decDigits_step h]
      exact ⟨rfl, hl⟩
theorem libItoa_nat {u : Nat} (h : u ≤ 4611686018427387904) : libItoa (u : Int) = some (Lib.decDigits u) := by
  have hl : (Lib.decDigits u).length ≤ 20 := (rdigits_eq 20 u (by omega) (by omega) h (by omega)).2
  have e : Lib.itoa (u : Int) = Lib.decDigits u := by
    unfold Lib.itoa
    rw [if_neg (by omega)]
    rfl
  unfold libItoa
  rw [e, if_pos ⟨by omega, by omega⟩]
end Go.Proofs.YtpcmhhbocifbcaaGreatDoor
namespace Go.Proofs.YtpcmhhbocifbcaaGreatDoor
open Go.PW Go
def pt : Bool → List (List UInt8) → List UInt8
  | _, [] => []
  | b, x :: l => (if b = true then 45 else 46) :: (x ++ pt false l)
theorem pt_cons (b : Bool) (x : List UInt8) (l : List (List UInt8)) : pt b (x :: l) = (if b = true then 45 else 46) :: (x ++ pt false l) := rfl
theorem join_pt : ∀ (l : List (List UInt8)) (x : List UInt8), Lib.join (x :: l) [46] = x ++ pt false l
  | [], x => by simp [Lib.join, List.intercalate, pt]
  | y :: l, x => by
    have ih := join_pt l y
    unfold Lib.join at ih ⊢
    rw [pt_cons, ← ih]
    simp [List.intercalate]
def vtext (v : SMajorMinorPatchPre) : List UInt8 := Lib.decDigits v.Major.toNat ++ [46] ++ Lib.decDigits v.Minor.toNat ++ [46] ++ Lib.decDigits v.Patch.toNat ++ pt true v.Pre
theorem okv_num {v : SMajorMinorPatchPre} (h : okv v) : (0 ≤ v.Major ∧ v.Major ≤ 1000000000) ∧ (0 ≤ v.Minor ∧ v.Minor ≤ 1000000000) ∧ (0 ≤ v.Patch ∧ v.Patch ≤ 1000000000) := by
  unfold okv vfault at h
  by_cases h1 : 0 ≤ v.Major ∧ v.Major ≤ 1000000000
  case neg => rw [if_neg h1] at h; cases h
  by_cases h2 : 0 ≤ v.Minor ∧ v.Minor ≤ 1000000000
  case neg => rw [if_pos h1, if_neg h2] at h; cases h
  by_cases h3 : 0 ≤ v.Patch ∧ v.Patch ≤ 1000000000
  case neg => rw [if_pos h1, if_pos h2, if_neg h3] at h; cases h
  exact ⟨h1, h2, h3⟩
theorem dec_le {a : Int} (h : 0 ≤ a ∧ a ≤ 1000000000) : (Lib.decDigits a.toNat).length ≤ 20 := (rdigits_eq 20 a.toNat (by omega) (by omega) (by omega) (by omega)).2
theorem itoa_int {a : Int} (h : 0 ≤ a ∧ a ≤ 1000000000) (n : Nat) : strconv_Itoa n a = some (Lib.decDigits a.toNat) := by
  unfold strconv_Itoa
  have := libItoa_nat (u := a.toNat) (by omega)
  rwa [show ((a.toNat : Nat) : Int) = a by omega] at this
theorem gcat_ok {s t : List UInt8} (h : s.length + t.length ≤ 100000) : gcat s t = some (s ++ t) := if_pos (by unfold big; omega)
theorem pt_len : ∀ (l : List (List UInt8)) (b : Bool), (∀ x ∈ l, x.length ≤ 8) → (pt b l).length ≤ 9 * l.length
  | [], _, _ => by simp [pt]
  | x :: l, b, h => by
    have ih := pt_len l false (fun y hy => h y (by simp [hy]))
    have := h x (by simp)
    rw [pt_cons]
    simp only [List.length_cons, List.length_append]
    omega
theorem format_eq {n : Nat} (hn : 1000 < n) {v : SMajorMinorPatchPre} (h : okv v) : version_Format n v = some (vtext v, ⟨0, 0⟩) := by
  obtain ⟨h1, h2, h3⟩ := okv_num h
  obtain ⟨hp, hi⟩ := okv_pre h
  have l1 := dec_le h1
  have l2 := dec_le h2
  have l3 := dec_le h3
  have hx : ∀ x ∈ v.Pre, x.length ≤ 8 := fun x hx => (okb_of_ident (hi x hx)).1.2
  have lp := pt_len v.Pre true hx
  unfold version_Format version_Format_j1
  rw [validate_eq hn, bsome, beqF, ifnot, if_pos ((vfault_iff v).2 h), itoa_int h1, itoa_int h2, itoa_int h3]
  simp only [bsome]
  rw [gcat_ok (by simp; omega), bsome, gcat_ok (by simp; omega), bsome, gcat_ok (by simp; omega), bsome, gcat_ok (by simp; omega), bsome]
  unfold vtext
  cases hpre : v.Pre with
  | nil =>
    rw [if_neg (by simp)]
    simp [pt]
  | cons x l =>
    rw [hpre] at lp hp
    have hj : Lib.join (x :: l) [46] = x ++ pt false l := join_pt l x
    have lj : (x ++ pt false l).length ≤ 40 := by
      rw [pt_cons] at lp
      simp only [List.length_cons, List.length_append] at lp ⊢
      simp only [List.length_cons] at hp
      omega
    have ej : strings_Join n (x :: l) ([46] : List UInt8) = some (x ++ pt false l) := by
      unfold strings_Join libJoin
      rw [hj, if_pos ⟨by unfold big; simp only [List.length_cons] at hp ⊢; omega, by unfold big; omega⟩]
    rw [if_pos (by rw [decide_eq_true_eq]; simp only [List.length_cons]; omega), ej, bsome, gcat_ok (by simp only [List.length_cons, List.length_nil]; omega), bsome, gcat_ok (by simp only [List.length_append, List.length_cons, List.length_nil] at lj ⊢; omega), bsome, pt_cons]
    rfl
theorem vtext_l1 {n : Nat} (v : SMajorMinorPatchPre) (hp : v.Pre.length ≤ 4) (hx : ∀ x ∈ v.Pre, x.length ≤ 8) : ∀ (m i : Nat) (s : List UInt8), i ≤ v.Pre.length → v.Pre.length - i < m → s.length ≤ 100 + 10 * i → ref5_VersionText_l1 n v m s i = some (s ++ pt (decide (i = 0)) (v.Pre.drop i))
  | 0, i, _, _, h, _ => by omega
  | m + 1, i, s, hi, hm, hs => by
    simp only [ref5_VersionText_l1]
    by_cases h : i = v.Pre.length
    · rw [if_neg (by rw [decide_eq_true_eq]; omega), h, List.drop_length]
      simp [pt]
    · have hlt : i < v.Pre.length := by omega
      have h8 := hx _ (List.getElem_mem hlt)
      have j1 : ∀ c : UInt8, ref5_VersionText_j1 n v i (ref5_VersionText_l1 n v m) (s ++ [c]) = some (s ++ c :: (v.Pre[i] ++ pt false (v.Pre.drop (i + 1)))) := by
        intro c
        unfold ref5_VersionText_j1
        rw [gidx_nat, getElem?_lt hlt, bsome, gcat_ok (by simp; omega), bsome, gadd_nat (by omega), bsome, vtext_l1 v hp hx m (i + 1) _ (by omega) (by omega) (by simp; omega), decide_eq_false (show ¬ (i + 1 = 0) by omega)]
        simp
      rw [if_pos (by rw [decide_eq_true_eq]; omega), List.drop_eq_getElem_cons hlt, pt_cons, gcat_ok (by simp; omega), gcat_ok (by simp; omega), bsome, bsome, j1, j1]
      by_cases h0 : i = 0
      · rw [if_pos (by rw [decide_eq_true_eq]; omega), decide_eq_true h0, if_pos rfl]
      · rw [if_neg (by rw [decide_eq_true_eq]; omega), decide_eq_false h0, if_neg (by simp)]
end Go.Proofs.YtpcmhhbocifbcaaGreatDoor
namespace Go.Proofs.YtpcmhhbocifbcaaGreatDoor
open Go.PW Go
end Go.Proofs.YtpcmhhbocifbcaaGreatDoor
namespace Go.Proofs.YtpcmhhbocifbcaaGreatDoor
open Go.PW Go
def Dg (a : Int) : Prop := 0 ≤ a ∧ a < 2305843009213693951
instance (a : Int) : Decidable (Dg a) := inferInstanceAs (Decidable (_ ∧ _))
end Go.Proofs.YtpcmhhbocifbcaaGreatDoor
namespace Go.Proofs.YtpcmhhbocifbcaaGreatDoor
open Go.PW Go
end Go.Proofs.YtpcmhhbocifbcaaGreatDoor
namespace Go.Proofs.YtpcmhhbocifbcaaGreatDoor
open Go.PW Go
end Go.Proofs.YtpcmhhbocifbcaaGreatDoor
namespace Go.Proofs.YtpcmhhbocifbcaaGreatDoor
open Go.PW Go
theorem same_iff_l1 {n : Nat} (v w : SMajorMinorPatchPre) (hl : v.Pre.length = w.Pre.length) (hb : v.Pre.length ≤ 1000) : ∀ (m i : Nat), i ≤ v.Pre.length → v.Pre.length - i < m → ∃ b, ref5_SameVersion_l1 n v w m i = some b ∧ (b = true ↔ v.Pre.drop i = w.Pre.drop i)
  | 0, i, _, h => by omega
  | m + 1, i, hi, hm => by
    simp only [ref5_SameVersion_l1]
    by_cases h : i = v.Pre.length
    · rw [if_neg (by rw [decide_eq_true_eq]; omega)]
      refine ⟨true, rfl, fun _ => ?_, fun _ => rfl⟩
      rw [List.drop_eq_nil_of_le (by omega), List.drop_eq_nil_of_le (by omega)]
    · have hlt : i < v.Pre.length := by omega
      have hlw : i < w.Pre.length := by omega
      obtain ⟨b, hb1, hb2⟩ := same_iff_l1 (n := n) v w hl hb m (i + 1) (by omega) (by omega)
      rw [if_pos (by rw [decide_eq_true_eq]; omega), gidx_nat, gidx_nat, getElem?_lt hlt, getElem?_lt hlw, bsome, bsome, ifdec, List.drop_eq_getElem_cons hlt, List.drop_eq_getElem_cons hlw]
      by_cases he : v.Pre[i] ≠ w.Pre[i]
      · rw [if_pos he]
        exact ⟨false, rfl, fun h => (by cases h), fun h => absurd (List.cons.inj h).1 he⟩
      · rw [if_neg he, gadd_nat (by omega), bsome]
        refine ⟨b, hb1, hb2.trans ⟨fun h => ?_, fun h => (List.cons.inj h).2⟩⟩
        rw [Classical.not_not.1 he, h]
theorem same_iff {n : Nat} (hn : 1100 < n) (v w : SMajorMinorPatchPre) (hb : v.Pre.length ≤ 1000) : ref5_SameVersion n v w = some (decide (v = w)) := by
  unfold ref5_SameVersion ref5_SameVersion_j1
  simp only [ifdec, if_true]
  by_cases h1 : v.Major ≠ w.Major
  · rw [if_pos h1, decide_eq_false (fun e => h1 (by rw [e]))]
  rw [if_neg h1]
  by_cases h2 : v.Minor ≠ w.Minor
  · rw [if_pos h2, decide_eq_false (fun e => h2 (by rw [e]))]
  rw [if_neg h2]
  by_cases h3 : v.Patch ≠ w.Patch
  · rw [if_pos h3, decide_eq_false (fun e => h3 (by rw [e]))]
  rw [if_neg h3]
  by_cases h4 : v.Pre.length ≠ w.Pre.length
  · rw [if_pos (by omega), decide_eq_false (fun e => h4 (by rw [e]))]
  rw [if_neg (by omega)]
  obtain ⟨b, hb1, hb2⟩ := same_iff_l1 (n := n) v w (Classical.not_not.1 h4) hb n 0 (by omega) (by omega)
  rw [show ((0 : Nat) : Int) = 0 from rfl] at hb1
  rw [hb1]
  congr 1
  rw [List.drop_zero, List.drop_zero] at hb2
  have hiff : b = true ↔ v = w := by
    rw [hb2]
    constructor
    · intro e
      obtain ⟨a1, a2, a3, a4⟩ := v
      obtain ⟨b1, b2, b3, b4⟩ := w
      simp only [ne_eq, Classical.not_not] at h1 h2 h3
      simp only [] at e
      subst h1 h2 h3 e
      rfl
    · intro e; rw [e]
  by_cases he : v = w
  · rw [decide_eq_true he]; exact hiff.2 he
  · rw [decide_eq_false he]
    cases hbb : b with
    | false => rfl
    | true => exact absurd (hiff.1 hbb) he
end Go.Proofs.YtpcmhhbocifbcaaGreatDoor
namespace Go.Proofs.YtpcmhhbocifbcaaGreatDoor
open Go.PW Go
def ent (l : List SPackageVersionDigest) (p : Int) : Option SPackageVersionDigest := l.find? (fun x => decide (x.Package = p))
end Go.Proofs.YtpcmhhbocifbcaaGreatDoor
namespace Go.Proofs.YtpcmhhbocifbcaaGreatDoor
open Go.PW Go
theorem etaE (e : SPackageVersionDigest) : (⟨e.Package, (⟨e.Version.Major, e.Version.Minor, e.Version.Patch, e.Version.Pre⟩ : SMajorMinorPatchPre), e.Digest⟩ : SPackageVersionDigest) = e := rfl
theorem eq_entry {x y : SPackageVersionDigest} (h1 : x.Package = y.Package) (h2 : x.Version = y.Version) (h3 : x.Digest = y.Digest) : x = y := by
  obtain ⟨a, b, c⟩ := x
  obtain ⟨d, e, f⟩ := y
  simp only [] at h1 h2 h3
  subst h1 h2 h3
  rfl
def pick (q : Int → Bool) : Nat → Int → List Int
  | 0, _ => []
  | k + 1, p => if q p = true then p :: pick q k (p + 1) else pick q k (p + 1)
theorem beqL (l : List SPackageVersionDigest) {α : Type} (x y : α) : (if (((lfault l).Code == 0 && ((lfault l).Index == 0 && true)) != true) = true then x else y) = if (lfault l).Code = 0 then y else x := by
  rw [beqF, ifnot]
  by_cases h : (lfault l).Code = 0
  · rw [if_pos (lfault_zero h), if_pos h]
  · rw [if_neg (fun e => h (by rw [e])), if_neg h]
theorem samelock_l1 {n : Nat} (hn : 1100 < n) (a b : List SPackageVersionDigest) (hl : a.length = b.length) (hb : a.length ≤ 1000) (hp : ∀ x ∈ a, x.Version.Pre.length ≤ 1000) : ∀ (m i : Nat), i ≤ a.length → a.length - i < m → ref6_SameLock_l1 n a b m i = some (decide (a.drop i = b.drop i))
  | 0, i, _, h => by omega
  | m + 1, i, hi, hm => by
    simp only [ref6_SameLock_l1]
    unfold ref6_SameLock_j1
    by_cases h : i = a.length
    · rw [if_neg (by rw [decide_eq_true_eq]; omega), List.drop_eq_nil_of_le (by omega), List.drop_eq_nil_of_le (by omega)]
      rfl
    · have hlt : i < a.length := by omega
      have hlw : i < b.length := by omega
      rw [if_pos (by rw [decide_eq_true_eq]; omega), gidx_nat, gidx_nat, getElem?_lt hlt, getElem?_lt hlw, bsome, bsome, ifdec, ifdec, etaV, etaV, same_iff (by omega) _ _ (hp _ (List.getElem_mem hlt)), bsome, ifnot, gadd_nat (by omega), bsome, samelock_l1 hn a b hl hb hp m (i + 1) (by omega) (by omega), List.drop_eq_getElem_cons hlt, List.drop_eq_getElem_cons hlw]
      simp only [if_true]
      by_cases h1 : a[i].Package ≠ b[i].Package
      · rw [if_pos h1, decide_eq_false (fun e => h1 (by rw [(List.cons.inj e).1]))]
      rw [if_neg h1]
      by_cases h2 : a[i].Digest ≠ b[i].Digest
      · rw [if_pos h2, decide_eq_false (fun e => h2 (by rw [(List.cons.inj e).1]))]
      rw [if_neg h2]
      by_cases h3 : a[i].Version = b[i].Version
      · have e := eq_entry (Classical.not_not.1 h1) h3 (Classical.not_not.1 h2)
        rw [if_pos h3]
        congr 1
        rw [decide_eq_decide]
        constructor
        · intro h; rw [e, h]
        · intro h; exact (List.cons.inj h).2
      · rw [if_neg h3, decide_eq_false (fun e => h3 (by rw [(List.cons.inj e).1]))]
theorem samelock_eq {n : Nat} (hn : 1100 < n) (a b : List SPackageVersionDigest) (hb : a.length ≤ 1000) (hp : ∀ x ∈ a, x.Version.Pre.length ≤ 1000) : ref6_SameLock n a b = some (decide (a = b)) := by
  unfold ref6_SameLock
  rw [ifdec]
  by_cases h : a.length = b.length
  · rw [if_neg (by omega)]
    have := samelock_l1 hn a b h hb hp n 0 (by omega) (by omega)
    rw [List.drop_zero, List.drop_zero] at this
    exact this
  · rw [if_pos (by omega), decide_eq_false (fun e => h (by rw [e]))]
theorem okv_pre1000 {v : SMajorMinorPatchPre} (h : okv v) : v.Pre.length ≤ 1000 := by have := (okv_pre h).1; omega
end Go.Proofs.YtpcmhhbocifbcaaGreatDoor
namespace Go.Proofs.YtpcmhhbocifbcaaGreatDoor
open Go.PW Go
theorem loop_fin {α S R : Type} {l : List α} {L : Nat → S → Int → Option R} (z : Option R) (I : S → Nat → Prop)
    (hstep : ∀ m s (i : Nat) x, I s i → i < l.length → l[i]? = some x → ∃ s', I s' (i + 1) ∧ L (m + 1) s i = L m s' ((i + 1 : Nat) : Int))
    (hend : ∀ m s, I s l.length → L (m + 1) s (l.length : Int) = z) :
    ∀ m s (i : Nat), I s i → i ≤ l.length → l.length - i < m → L m s i = z := by
  intro m
  induction m with
  | zero => intro s i _ _ h; omega
  | succ m ih =>
    intro s i hi hl hm
    by_cases h : i = l.length
    · subst h
      exact hend m s hi
    · have hlt : i < l.length := by omega
      obtain ⟨s', h1, h2⟩ := hstep m s i _ hi hlt (getElem?_lt hlt)
      rw [h2]
      exact ih s' (i + 1) h1 (by omega) (by omega)
theorem wide_ex {n : Nat} (hn : 1000 < n) (l : List SPackageVersionDigest) : ∃ b, law6_wideLock n l = some b := by
  have fin : ∀ i lp, ∃ b, law6_wideLock_j1 n l i lp false = some b ∧ True := by
    intro i lp
    unfold law6_wideLock_j1
    exact ⟨_, if_neg (by simp), trivial⟩
  have h := loop_ex (L := fun m i => law6_wideLock_l1 n l m i) 20 (fun _ => True) ?_ ?_ n 0 (by omega) (by omega)
  · obtain ⟨b, hb, -⟩ := h; exact ⟨b, hb⟩
  · intro m i hi ⟨b, hb, _⟩
    have hb : law6_wideLock_l1 n l m ((i + 1 : Nat) : Int) = some b := hb
    show ∃ b, law6_wideLock_l1 n l (m + 1) i = some b ∧ True
    simp only [law6_wideLock_l1]
    rw [ifdec]
    by_cases h1 : i < l.length
    · rw [if_pos (by omega), decide_eq_true (show (i : Int) < 20 by omega)]
      unfold law6_wideLock_j1
      rw [if_pos rfl, gidx_nat, getElem?_lt h1, bsome, gadd_nat (by omega), bsome, hb]
      split
      · exact ⟨_, rfl, trivial⟩
      · exact ⟨_, rfl, trivial⟩
    · rw [if_neg (by omega)]; exact fin _ _
  · intro m
    show ∃ b, law6_wideLock_l1 n l (m + 1) (20 : Nat) = some b ∧ True
    simp only [law6_wideLock_l1]
    split
    · rw [decide_eq_false (by omega)]; exact fin _ _
    · exact fin _ _
theorem beqRefl (r : SCodeIndex) : (r.Code == r.Code && (r.Index == r.Index && true)) = true := by simp
end Go.Proofs.YtpcmhhbocifbcaaGreatDoor
namespace Go.Proofs.YtpcmhhbocifbcaaGreatDoor
open Go.PW Go
end Go.Proofs.YtpcmhhbocifbcaaGreatDoor
namespace Go.Proofs.YtpcmhhbocifbcaaGreatDoor
open Go.PW Go
end Go.Proofs.YtpcmhhbocifbcaaGreatDoor
namespace Go.Proofs.YtpcmhhbocifbcaaGreatDoor
open Go.PW Go
end Go.Proofs.YtpcmhhbocifbcaaGreatDoor
namespace Go.Proofs.YtpcmhhbocifbcaaGreatDoor
open Go.PW Go
end Go.Proofs.YtpcmhhbocifbcaaGreatDoor
namespace Go.Proofs.YtpcmhhbocifbcaaGreatDoor
open Go.PW Go
end Go.Proofs.YtpcmhhbocifbcaaGreatDoor
namespace Go.Proofs.YtpcmhhbocifbcaaGreatDoor
open Go.PW Go
theorem locks_more : law6_locks 3000000 = some true := by decide +kernel
end Go.Proofs.YtpcmhhbocifbcaaGreatDoor
namespace Go.Proofs.YtpcmhhbocifbcaaGreatDoor
open Go.PW Go
theorem gadd_one {i : Nat} (h : i < 4611686018427387904) : gadd (i : Int) 1 = some ((i + 1 : Nat) : Int) := by
  rw [gaddI (by omega)]
  rfl
theorem gapp_big {α : Type} {b : Nat} {xs ys : List α} (h : (xs.length + ys.length) * b ≤ 140737488355328) : gapp b xs ys = some (xs ++ ys) := by
  unfold gapp
  exact if_pos (by unfold big; exact h)
def cns (x : UInt8) : List (List UInt8) → List (List UInt8)
  | [] => [[x]]
  | y :: ys => (x :: y) :: ys
def sp (c : UInt8) : List UInt8 → List (List UInt8)
  | [] => [[]]
  | x :: r => if x = c then [] :: sp c r else cns x (sp c r)
theorem sp_cons (c x : UInt8) (r : List UInt8) : sp c (x :: r) = if x = c then [] :: sp c r else cns x (sp c r) := rfl
theorem sp_none (c : UInt8) : ∀ (s : List UInt8), c ∉ s → sp c s = [s]
  | [], _ => rfl
  | x :: r, h => by
    rw [sp_cons, if_neg (fun e => h (by rw [e]; exact List.mem_cons_self)), sp_none c r (fun e => h (List.mem_cons_of_mem _ e))]
    rfl
theorem sp_app (c : UInt8) (r : List UInt8) : ∀ (a : List UInt8), c ∉ a → sp c (a ++ c :: r) = a :: sp c r
  | [], _ => by rw [List.nil_append, sp_cons, if_pos rfl]
  | x :: a, h => by
    rw [List.cons_append, sp_cons, if_neg (fun e => h (by rw [e]; exact List.mem_cons_self)), sp_app c r a (fun e => h (List.mem_cons_of_mem _ e))]
    rfl
theorem byte_cases (c : UInt8) (s : List UInt8) : c ∉ s ∨ ∃ a r, s = a ++ c :: r ∧ c ∉ a := by
  by_cases h : c ∈ s
  · obtain ⟨a, r, h1, h2⟩ := List.eq_append_cons_of_mem h
    exact .inr ⟨a, r, h1, h2⟩
  · exact .inl h
theorem index_no (c : UInt8) : ∀ (s : List UInt8), c ∉ s → Lib.index s [c] = -1
  | [], _ => rfl
  | x :: r, h => by
    have hx : ([c] : List UInt8).isPrefixOf (x :: r) = false := by
      have : c ≠ x := fun e => h (by rw [e]; exact List.mem_cons_self)
      simp [List.isPrefixOf, this]
    unfold Lib.index
    rw [hx, index_no c r (fun e => h (List.mem_cons_of_mem _ e))]
    rfl
theorem index_at (c : UInt8) (r : List UInt8) : ∀ (a : List UInt8), c ∉ a → Lib.index (a ++ c :: r) [c] = a.length
  | [], _ => by
    rw [List.nil_append]
    unfold Lib.index
    rw [if_pos (by simp [List.isPrefixOf])]
    rfl
  | x :: a, h => by
    have hx : ([c] : List UInt8).isPrefixOf (x :: (a ++ c :: r)) = false := by
      have : c ≠ x := fun e => h (by rw [e]; exact List.mem_cons_self)
      simp [List.isPrefixOf, this]
    rw [List.cons_append]
    unfold Lib.index
    rw [hx, index_at c r a (fun e => h (List.mem_cons_of_mem _ e))]
    have : ((a.length : Int) == -1) = false := by rw [beq_eq_false_iff_ne]; omega
    simp [this]
theorem sp_pos (c : UInt8) (s : List UInt8) : 1 ≤ (sp c s).length := by
  rcases byte_cases c s with h | ⟨a, r, rfl, h⟩
  · rw [sp_none c s h]; simp
  · rw [sp_app c r a h]; simp
theorem splitK_sp (c : UInt8) : ∀ (k : Nat) (s : List UInt8), s.length ≤ k → Lib.splitK [c] 0 (Lib.count s [c]) s = sp c s ∧ (sp c s).length = Lib.count s [c] + 1
  | k, s, hk => by
    rcases byte_cases c s with h | ⟨a, r, rfl, h⟩
    · rw [Lib.count_miss (index_no c s h), sp_none c s h]
      exact ⟨rfl, rfl⟩
    · have hi := index_at c r a h
      have hd : (a ++ c :: r).drop (a.length + [c].length) = r := by simp
      have hc := Lib.count_hit (s := a ++ c :: r) (sub := [c]) (by simp) hi
      rw [hd] at hc
      cases k with
      | zero => simp at hk
      | succ k =>
        obtain ⟨ih1, ih2⟩ := splitK_sp c k r (by simp at hk; omega)
        rw [hc, sp_app c r a h, show 1 + Lib.count r [c] = Lib.count r [c] + 1 by omega]
        constructor
        · unfold Lib.splitK
          have hne : ¬ ((a.length : Int) == -1) = true := by
            intro e
            have := beq_iff_eq.1 e
            omega
          rw [hi, if_neg hne, Int.toNat_natCast, hd, ih1, Nat.add_zero]
          simp
        · rw [List.length_cons, ih2]
theorem sp_bounds (c : UInt8) : ∀ (s : List UInt8), (sp c s).length ≤ s.length + 1 ∧ ∀ x ∈ sp c s, x.length ≤ s.length
  | [] => by simp [sp]
  | x :: r => by
    obtain ⟨h1, h2⟩ := sp_bounds c r
    rw [sp_cons]
    by_cases h : x = c
    · rw [if_pos h]
      refine ⟨by simp only [List.length_cons]; omega, fun y hy => ?_⟩
      rcases List.mem_cons.1 hy with g | g
      · subst g; simp
      · have := h2 y g
        simp only [List.length_cons]; omega
    · rw [if_neg h]
      cases hs : sp c r with
      | nil => rw [hs] at h1; simp [cns]
      | cons y ys =>
        rw [hs] at h1 h2
        refine ⟨by simp only [cns, List.length_cons] at h1 ⊢; omega, fun z hz => ?_⟩
        rcases List.mem_cons.1 hz with g | g
        · have := h2 y List.mem_cons_self
          subst g
          simp only [List.length_cons]; omega
        · have := h2 z (List.mem_cons_of_mem _ g)
          simp only [List.length_cons]; omega
theorem split_eq (n : Nat) (c : UInt8) {s : List UInt8} (h : s.length ≤ 2000000) : strings_Split n s ([c] : List UInt8) = some (sp c s) := by
  obtain ⟨h1, h2⟩ := splitK_sp c s.length s (Nat.le_refl _)
  obtain ⟨h3, h4⟩ := sp_bounds c s
  have hl : (Lib.splitB ⟨([c] : List UInt8).toArray⟩ 0 (Lib.countB ⟨s.toArray⟩ ⟨([c] : List UInt8).toArray⟩) ⟨s.toArray⟩).map (fun x => x.data.toList) = sp c s := by
    rw [Lib.splitB_data]
    exact h1
  unfold strings_Split libSplit
  simp only []
  rw [hl, if_pos]
  refine ⟨by omega, by simp, ?_, by omega, ?_⟩
  · exact h2
  · rw [List.all_eq_true]
    intro x hx
    have := h4 x hx
    rw [decide_eq_true_eq]
    omega
theorem cut_no (n : Nat) (c : UInt8) {s : List UInt8} (h : s.length ≤ 2000000) (hc : c ∉ s) : strings_Cut n s ([c] : List UInt8) = some (s, [], false) := by
  have e : Lib.cut s [c] = (s, [], false) := by
    unfold Lib.cut
    rw [index_no c s hc]
    rfl
  unfold strings_Cut libCut
  rw [e, if_pos ⟨by omega, by show s.length ≤ _; omega, by simp⟩]
theorem cut_at (n : Nat) (c : UInt8) (a r : List UInt8) (h : (a ++ c :: r).length ≤ 2000000) (hc : c ∉ a) : strings_Cut n (a ++ c :: r) ([c] : List UInt8) = some (a, r, true) := by
  have e : Lib.cut (a ++ c :: r) [c] = (a, r, true) := by
    unfold Lib.cut
    rw [index_at c r a hc, if_pos (by omega), Int.toNat_natCast]
    simp
  simp only [List.length_append, List.length_cons] at h
  unfold strings_Cut libCut
  rw [e, if_pos ⟨by simp only [List.length_append, List.length_cons]; omega, by show a.length ≤ _; omega, by show r.length ≤ _; omega⟩]
def jn (c : UInt8) : List (List UInt8) → List UInt8
  | [] => []
  | [x] => x
  | x :: y :: l => x ++ c :: jn c (y :: l)
theorem jn_cns (c x : UInt8) : ∀ (l : List (List UInt8)), l ≠ [] → jn c (cns x l) = x :: jn c l
  | [], h => absurd rfl h
  | [_], _ => rfl
  | _ :: _ :: _, _ => rfl
theorem jn_sp (c : UInt8) : ∀ (s : List UInt8), jn c (sp c s) = s
  | [] => rfl
  | x :: r => by
    have ih := jn_sp c r
    have hp := sp_pos c r
    rw [sp_cons]
    by_cases h : x = c
    · rw [if_pos h]
      cases hs : sp c r with
      | nil => rw [hs] at hp; simp at hp
      | cons y ys =>
        rw [hs] at ih
        show [] ++ c :: jn c (y :: ys) = _
        rw [ih, h]
        rfl
    · rw [if_neg h, jn_cns c x _ (fun e => by rw [e] at hp; simp at hp), ih]
end Go.Proofs.YtpcmhhbocifbcaaGreatDoor
namespace Go.Proofs.YtpcmhhbocifbcaaGreatDoor
open Go.PW Go
def dn (c : UInt8) : Nat := c.toNat - 48
def vn : Nat → List UInt8 → Nat
  | p, [] => p
  | p, c :: s => vn (10 * p + dn c) s
theorem vn_snoc (c : UInt8) : ∀ (s : List UInt8) (p : Nat), vn p (s ++ [c]) = 10 * vn p s + dn c
  | [], _ => rfl
  | x :: s, p => vn_snoc c s (10 * p + dn x)
theorem vn_ge : ∀ (s : List UInt8) (p : Nat), p ≤ vn p s
  | [], _ => Nat.le_refl _
  | x :: s, p => by
    have := vn_ge s (10 * p + dn x)
    show p ≤ vn (10 * p + dn x) s
    omega
theorem isd_dn {c : UInt8} (h : isd c = true) : (48 ≤ c.toNat ∧ c.toNat ≤ 57) ∧ dn c ≤ 9 ∧ c = UInt8.ofNat (48 + dn c) ∧ dv c = dn c := by
  unfold isd at h
  simp only [Bool.and_eq_true, decide_eq_true_eq] at h
  unfold dv dn
  refine ⟨h, by omega, ?_, by omega⟩
  rw [show 48 + (c.toNat - 48) = c.toNat by omega]
  simp
theorem isd_of {k : Nat} (h : k < 10) : isd (UInt8.ofNat (48 + k)) = true ∧ dn (UInt8.ofNat (48 + k)) = k := by
  rcases (show k = 0 ∨ k = 1 ∨ k = 2 ∨ k = 3 ∨ k = 4 ∨ k = 5 ∨ k = 6 ∨ k = 7 ∨ k = 8 ∨ k = 9 by omega) with e | e | e | e | e | e | e | e | e | e <;> subst e <;> exact ⟨rfl, rfl⟩
theorem num_app (a b : List UInt8) : num (a ++ b) = (num a && num b) := by unfold num; rw [List.all_append]
theorem num_one (c : UInt8) : num [c] = isd c := by unfold num; rw [List.all_cons, List.all_nil, Bool.and_true]
def canon (s : List UInt8) : Prop := num s = true ∧ 1 ≤ s.length ∧ (s.length = 1 ∨ s.head? ≠ some 48)
theorem dec_canon : ∀ (k u : Nat), u < k → num (Lib.decDigits u) = true ∧ 1 ≤ (Lib.decDigits u).length ∧ (1 ≤ u → (Lib.decDigits u).head? ≠ some 48) ∧ (u < 10 → (Lib.decDigits u).length = 1) ∧ vn 0 (Lib.decDigits u) = u
  | 0, _, h => by omega
  | k + 1, u, h => by
    by_cases hu : u < 10
    · obtain ⟨h1, h2⟩ := isd_of hu
      rw [Lib.decDigits_one hu]
      refine ⟨by rw [num_one]; exact h1, by simp, fun hp => ?_, fun _ => rfl, ?_⟩
      · rcases (show u = 1 ∨ u = 2 ∨ u = 3 ∨ u = 4 ∨ u = 5 ∨ u = 6 ∨ u = 7 ∨ u = 8 ∨ u = 9 by omega) with e | e | e | e | e | e | e | e | e <;> subst e <;> decide
      · show 10 * 0 + dn _ = u
        rw [h2]
        omega
    · obtain ⟨i1, i2, i3, i4, i5⟩ := dec_canon k (u / 10) (by omega)
      obtain ⟨h1, h2⟩ := isd_of (Nat.mod_lt u (show 0 < 10 by omega))
      rw [decDigits_step hu]
      refine ⟨?_, by simp, fun _ => ?_, fun g => absurd g hu, ?_⟩
      · rw [num_app, i1, num_one, h1]
        rfl
      · rw [List.head?_append]
        have := i3 (by omega)
        cases hd : (Lib.decDigits (u / 10)).head? with
        | none =>
          rw [List.head?_eq_none_iff] at hd
          rw [hd] at i2
          simp at i2
        | some x =>
          rw [hd] at this
          exact this
      · rw [vn_snoc, i5, h2]
        omega
theorem canon_of (u : Nat) : canon (Lib.decDigits u) := by
  obtain ⟨h1, h2, h3, h4, _⟩ := dec_canon (u + 1) u (by omega)
  refine ⟨h1, h2, ?_⟩
  by_cases hu : u < 10
  · exact .inl (h4 hu)
  · exact .inr (h3 (by omega))
theorem vn_dec (u : Nat) : vn 0 (Lib.decDigits u) = u := (dec_canon (u + 1) u (by omega)).2.2.2.2
theorem canon_dec : ∀ (k : Nat) (s : List UInt8), s.length ≤ k → canon s → s = Lib.decDigits (vn 0 s)
  | 0, s, h, ⟨_, h2, _⟩ => by omega
  | k + 1, s, h, ⟨h1, h2, h3⟩ => by
    have hne : s ≠ [] := fun e => by rw [e] at h2; simp at h2
    obtain ⟨t, c, rfl⟩ : ∃ t c, s = t ++ [c] := ⟨s.dropLast, s.getLast hne, (List.dropLast_concat_getLast hne).symm⟩
    rw [num_app, Bool.and_eq_true] at h1
    have hc : isd c = true := by
      have := h1.2
      unfold num at this
      simpa using this
    obtain ⟨d1, d2, d3, d4⟩ := isd_dn hc
    rw [vn_snoc]
    by_cases ht : t = []
    · subst ht
      show [c] = Lib.decDigits (10 * 0 + dn c)
      rw [show 10 * 0 + dn c = dn c by omega, Lib.decDigits_one (by omega), ← d3]
    · have hl : 1 ≤ t.length := List.length_pos_iff.2 ht
      have hh : t.head? ≠ some 48 := by
        have : (t ++ [c]).head? = t.head? := by
          cases t with
          | nil => exact absurd rfl ht
          | cons x t => rfl
        rw [← this]
        refine h3.resolve_left fun e => ?_
        rw [List.length_append, List.length_singleton] at e
        omega
      have ih := canon_dec k t (by simp at h; omega) ⟨h1.1, hl, .inr hh⟩
      have hp : 1 ≤ vn 0 t := by
        by_cases hz : vn 0 t = 0
        · rw [hz, Lib.decDigits_one (by omega)] at ih
          rw [ih] at hh
          exact absurd rfl hh
        · omega
      have e := decDigits_step (u := 10 * vn 0 t + dn c) (by omega)
      rw [e, show (10 * vn 0 t + dn c) / 10 = vn 0 t by omega, show (10 * vn 0 t + dn c) % 10 = dn c by omega, ← ih, ← d3]
noncomputable def numOf (s : List UInt8) (lim : Nat) : Int := open Classical in if canon s ∧ vn 0 s ≤ lim then (vn 0 s : Int) else -1
theorem numOf_dec {u lim : Nat} (h : u ≤ lim) : numOf (Lib.decDigits u) lim = u := by
  unfold numOf
  rw [vn_dec, if_pos ⟨canon_of u, h⟩]
theorem numOf_some {s : List UInt8} {lim : Nat} (h : 0 ≤ numOf s lim) : ∃ u : Nat, u ≤ lim ∧ s = Lib.decDigits u ∧ numOf s lim = u := by
  unfold numOf at h ⊢
  split
  · rename_i hc
    exact ⟨vn 0 s, hc.2, canon_dec s.length s (Nat.le_refl _) hc.1, rfl⟩
  · rename_i hc
    rw [if_neg hc] at h
    omega
theorem numOf_cases (s : List UInt8) (lim : Nat) : (numOf s lim = -1 ∧ ∀ u : Nat, u ≤ lim → s ≠ Lib.decDigits u) ∨ ∃ u : Nat, u ≤ lim ∧ s = Lib.decDigits u ∧ numOf s lim = u := by
  by_cases h : 0 ≤ numOf s lim
  · exact .inr (numOf_some h)
  · refine .inl ⟨?_, fun u hu e => ?_⟩
    · unfold numOf at h ⊢
      split
      · rename_i hc
        rw [if_pos hc] at h
        omega
      · rfl
    · rw [e, numOf_dec hu] at h
      omega
theorem dec_len {u : Nat} (h : u ≤ 4611686018427387904) : (Lib.decDigits u).length ≤ 20 := (rdigits_eq 20 u (by omega) (by omega) h (by omega)).2
theorem dec_len19 {u : Nat} (h : u ≤ 4611686018427387904) : (Lib.decDigits u).length ≤ 19 := (rdigits_eq 19 u (by omega) (by omega) h (by omega)).2
end Go.Proofs.YtpcmhhbocifbcaaGreatDoor
namespace Go.Proofs.YtpcmhhbocifbcaaGreatDoor
open Go.PW Go
theorem rnumeric_l1 (n : Nat) (s : List UInt8) (hl : s.length ≤ 2000000) : ∀ (m i : Nat), i ≤ s.length → s.length - i < m → ref5_Numeric_l1 n s m i = some ((s.drop i).all isd && decide (0 < s.length)) := by
  intro m
  induction m with
  | zero => intro i _ h; omega
  | succ m ih =>
    intro i hi hm
    rw [ref5_Numeric_l1]
    by_cases h : i < s.length
    · rw [if_pos (by rw [decide_eq_true_eq]; omega), gidx_nat, getElem?_lt h, bsome, bsome, List.drop_eq_getElem_cons h, List.all_cons]
      unfold ref5_Numeric_j1 isd
      by_cases a : s[i].toNat < 48
      · rw [if_pos (by rw [decide_eq_true_eq]; omega), if_pos rfl]
        simp; omega
      · rw [if_neg (by rw [decide_eq_true_eq]; omega)]
        by_cases b : 57 < s[i].toNat
        · rw [if_pos (by rw [decide_eq_true_eq]; omega)]
          simp; omega
        · rw [if_neg (by rw [decide_eq_true_eq]; omega), gadd_one (by omega), bsome, ih (i + 1) (by omega) (by omega), decide_eq_true (show 48 ≤ s[i].toNat by omega), decide_eq_true (show s[i].toNat ≤ 57 by omega)]
          rfl
    · rw [if_neg (by rw [decide_eq_true_eq]; omega), List.drop_eq_nil_of_le (by omega)]
      simp
theorem rnumeric_eq {n : Nat} (hn : 2000000 < n) {s : List UInt8} (hl : s.length ≤ 2000000) : ref5_Numeric n s = some (num s && decide (0 < s.length)) := by
  unfold ref5_Numeric
  exact rnumeric_l1 n s hl n 0 (by omega) (by omega)
theorem numberOf_l1 {n : Nat} {s : List UInt8} (hs : num s = true) (hl : s.length ≤ 19) {lim : Nat} (h9 : 9 ≤ lim) (hlim : lim ≤ 2305843009213693950) : ∀ (m i p : Nat), i ≤ s.length → s.length - i < m → p ≤ lim →
    ref5_NumberOf_l1 n s lim m p i = some (if vn p (s.drop i) ≤ lim then (vn p (s.drop i) : Int) else -1)
  | 0, i, _, _, h, _ => by omega
  | m + 1, i, p, hi, hm, hp => by
    simp only [ref5_NumberOf_l1]
    by_cases h : i = s.length
    · rw [if_neg (by rw [decide_eq_true_eq]; omega), h, List.drop_length]
      show _ = some (if p ≤ lim then (p : Int) else -1)
      rw [if_pos hp]
    · have hlt : i < s.length := by omega
      have hd0 : isd s[i] = true := List.all_eq_true.1 hs _ (List.getElem_mem hlt)
      obtain ⟨d1, d2, d3, d4⟩ := isd_dn hd0
      have hq : gquo ((lim : Int) - (dn s[i] : Int)) 10 = some (((lim - dn s[i]) / 10 : Nat) : Int) := by
        rw [show (lim : Int) - (dn s[i] : Int) = ((lim - dn s[i] : Nat) : Int) by omega]
        unfold gquo
        rw [if_neg (by decide)]
        show gchk (((lim - dn s[i]) / 10 : Nat) : Int) = _
        exact gchk_ok (by omega)
      rw [if_pos (by rw [decide_eq_true_eq]; omega), gidx_nat, getElem?_lt hlt, bsome, u8sub hd0, d4, gsubI (by omega), bsome, hq, bsome, ifdec, List.drop_eq_getElem_cons hlt]
      show _ = some (if vn (10 * p + dn s[i]) (s.drop (i + 1)) ≤ lim then (vn (10 * p + dn s[i]) (s.drop (i + 1)) : Int) else -1)
      by_cases hg : (lim - dn s[i]) / 10 < p
      · have := vn_ge (s.drop (i + 1)) (10 * p + dn s[i])
        rw [if_pos (by omega), if_neg (by omega)]
      · rw [if_neg (by omega), gmulI (by omega), bsome, gaddI (by omega), bsome, gadd_one (by omega), bsome, show 10 * (p : Int) + (dn s[i] : Int) = ((10 * p + dn s[i] : Nat) : Int) by omega, numberOf_l1 hs hl h9 hlim m (i + 1) _ (by omega) (by omega) (by omega)]
theorem numberOf_eq {n : Nat} (hn : 2000000 < n) {s : List UInt8} (hl : s.length ≤ 2000000) {lim : Nat} (h9 : 9 ≤ lim) (hlim : lim ≤ 2305843009213693950) : ref5_NumberOf n s lim = some (numOf s lim) := by
  unfold ref5_NumberOf ref5_NumberOf_j1
  rw [rnumeric_eq hn hl, bsome]
  have none_ : ¬ canon s → some (-1 : Int) = some (numOf s lim) := by
    intro h
    unfold numOf
    rw [if_neg (fun e => h e.1)]
  by_cases h1 : (num s && decide (0 < s.length)) = true
  case neg =>
    rw [if_pos (show (!(num s && decide (0 < s.length))) = true by rw [Bool.not_eq_true] at h1; rw [h1]; rfl), if_pos rfl]
    refine none_ fun hc => h1 ?_
    rw [hc.1, decide_eq_true (show 0 < s.length by have := hc.2.1; omega)]
    rfl
  have h2 := h1
  rw [Bool.and_eq_true, decide_eq_true_eq] at h2
  rw [h1, if_neg (by simp), ifdec]
  by_cases h3 : 19 < s.length
  · rw [if_pos (by omega), if_pos rfl]
    rcases numOf_cases s lim with ⟨e, _⟩ | ⟨u, hu, e, _⟩
    · rw [e]
    · rw [e] at h3
      have := dec_len19 (u := u) (by omega)
      omega
  · rw [if_neg (by omega), ifdec]
    have loop : canon s → ref5_NumberOf_l1 n s lim n 0 0 = some (numOf s lim) := by
      intro hc
      have := numberOf_l1 (n := n) h2.1 (by omega) h9 hlim n 0 0 (by omega) (by omega) (by omega)
      rw [List.drop_zero] at this
      refine Eq.trans this ?_
      unfold numOf
      by_cases hv : vn 0 s ≤ lim
      · rw [if_pos hv, if_pos ⟨hc, hv⟩]
      · rw [if_neg hv, if_neg (fun e => hv e.2)]
    by_cases h4 : 1 < s.length
    · rw [if_pos (by omega)]
      match s, h4, h2, loop, none_ with
      | x :: r, h4, h2, loop, none_ =>
        rw [show (0 : Int) = ((0 : Nat) : Int) from rfl, gidx_nat, List.getElem?_cons_zero, bsome]
        by_cases hx : x = 48
        · have : ((x.toNat : Int) = 48) := by rw [hx]; rfl
          rw [decide_eq_true this, if_pos rfl]
          refine none_ fun hc => ?_
          rcases hc.2.2 with g | g
          · omega
          · exact g (by rw [hx]; rfl)
        · have : ¬ ((x.toNat : Int) = 48) := by
            intro e
            exact hx (UInt8.toNat_inj.1 (by have : x.toNat = 48 := by omega
                                            rw [this]; rfl))
          rw [decide_eq_false this, if_neg (by simp)]
          exact loop ⟨h2.1, by simp, .inr (fun e => hx (by injection e))⟩
    · rw [if_neg (by omega), if_neg (by simp)]
      exact loop ⟨h2.1, by omega, .inl (by omega)⟩
theorem parse_vn : ∀ (s : List UInt8) (p : Nat), num s = true → vn p s < 9223372036854775808 → Lib.parseUint10 p s = .ok (vn p s)
  | [], p, _, _ => rfl
  | c :: s, p, h, hv => by
    obtain ⟨h1, h2⟩ := num_cons h
    obtain ⟨d1, d2, d3, d4⟩ := isd_dn h1
    have hg := vn_ge s (10 * p + dn c)
    have hv : vn (10 * p + dn c) s < 9223372036854775808 := hv
    unfold Lib.parseUint10
    have e : p * 10 + (c.toNat - 48) = 10 * p + dn c := by unfold dn; omega
    rw [if_pos d1, if_neg (by omega), if_neg (by omega), e]
    exact parse_vn s _ h2 hv
theorem atoi_dec {u : Nat} (h : u ≤ 4611686018427387904) : Lib.atoiAll (Lib.decDigits u) = .ok u := by
  obtain ⟨c1, c2, _⟩ := canon_of u
  have hp := parse_vn (Lib.decDigits u) 0 c1 (by rw [vn_dec]; omega)
  rw [vn_dec] at hp
  generalize Lib.decDigits u = s at c1 c2 hp
  match s, c1, c2, hp with
  | c :: r, c1, c2, hp =>
    obtain ⟨d1, _⟩ := isd_dn (num_cons c1).1
    unfold Lib.atoiAll
    have e1 : ¬ (c.toNat = 43 ∨ c.toNat = 45) := by omega
    have e2 : ¬ (c.toNat = 45) := by omega
    simp only [if_neg e1]
    have hm : Lib.parseMag (c :: r) = .ok u := by
      unfold Lib.parseMag
      rw [if_neg (by simp), hp]
    rw [hm]
    simp only [e2]
    simp
    omega
theorem atoi_range {s : List UInt8} {v : Int} (h : Lib.atoiAll s = .ok v) : -9223372036854775808 ≤ v ∧ v ≤ 9223372036854775807 := by
  unfold Lib.atoiAll at h
  split at h
  · cases h
  · rename_i c r
    simp only [] at h
    split at h
    · cases h
    · cases h
    · rename_i u hu
      split at h
      · cases h
      · split at h
        · cases h
        · injection h with h
          subst h
          split
          · omega
          · omega
theorem dec_len1000 : ∀ (k u : Nat), u < 10 ^ k → 0 < k → (Lib.decDigits u).length ≤ k
  | 0, _, _, h => by omega
  | k + 1, u, hu, _ => by
    by_cases h : u < 10
    · rw [Lib.decDigits_one h]; simp
    · have hq : u / 10 < 10 ^ k := by
        rw [Nat.pow_succ] at hu
        exact Nat.div_lt_of_lt_mul (by omega)
      have hk : 0 < k := by
        rcases Nat.eq_zero_or_pos k with e | e
        · subst e; simp at hq; omega
        · exact e
      have := dec_len1000 k (u / 10) hq hk
      rw [decDigits_step h]
      simp
      omega
theorem itoa_any {v : Int} (h : -9223372036854775808 ≤ v ∧ v ≤ 9223372036854775807) (n : Nat) : strconv_Itoa n v = some (Lib.itoa v) := by
  have hl : (Lib.itoa v).length ≤ 1000 := by
    unfold Lib.itoa
    split
    · have := dec_len1000 20 v.natAbs (by omega) (by omega)
      simp only [List.length_cons]
      omega
    · have := dec_len1000 20 v.toNat (by omega) (by omega)
      omega
  unfold strconv_Itoa libItoa
  rw [if_pos ⟨h, hl⟩]
theorem number_eq (n : Nat) {s : List UInt8} (hl : s.length ≤ 2000000) {lim : Nat} (hlim : lim ≤ 2305843009213693950) : ∃ x, lockfile_number n s lim = some (x, decide (0 ≤ numOf s lim)) ∧ (0 ≤ numOf s lim → x = numOf s lim) := by
  unfold lockfile_number lockfile_number_j1 strconv_Atoi libAtoi
  rw [if_pos (by omega)]
  cases ha : Lib.atoiAll s with
  | ok v =>
    simp only [bsome]
    rw [if_pos (by simp), itoa_any (atoi_range ha), bsome, ifdec, ifdec]
    by_cases h1 : Lib.itoa v = s ∧ (0 ≤ v ∧ v ≤ lim)
    · obtain ⟨h1, h2, h3⟩ := h1
      obtain ⟨u, rfl⟩ := natOf h2
      have e : Lib.itoa (u : Int) = Lib.decDigits u := by
        unfold Lib.itoa
        rw [if_neg (by omega)]
        rfl
      have hn : numOf s lim = u := by rw [← h1, e]; exact numOf_dec (by omega)
      rw [if_pos h1, if_pos h2, hn, decide_eq_true h3, decide_eq_true h2]
      exact ⟨u, rfl, fun _ => rfl⟩
    · have hneg : decide (0 ≤ numOf s lim) = false := by
        rw [decide_eq_false_iff_not]
        intro h
        obtain ⟨u, hu, e, _⟩ := numOf_some h
        rw [e, atoi_dec (by omega)] at ha
        injection ha with ha
        refine h1 ⟨?_, by omega, by omega⟩
        rw [← ha, e]
        unfold Lib.itoa
        rw [if_neg (by omega)]
        rfl
      have hx : ¬ 0 ≤ numOf s lim := of_decide_eq_false hneg
      refine ⟨v, ?_, fun h => absurd h hx⟩
      rw [hneg]
      by_cases g1 : Lib.itoa v = s
      · rw [if_pos g1]
        by_cases g2 : 0 ≤ v
        · rw [if_pos g2, decide_eq_false (fun g3 => h1 ⟨g1, g2, g3⟩)]
        · rw [if_neg g2]
      · rw [if_neg g1]
  | _ =>
    simp only [bsome]
    rw [if_neg (by simp)]
    have hx : ¬ 0 ≤ numOf s lim := by
      intro h
      obtain ⟨u, hu, e, _⟩ := numOf_some h
      rw [e, atoi_dec (by omega)] at ha
      cases ha
    rw [decide_eq_false hx]
    exact ⟨_, rfl, fun h => absurd h hx⟩
end Go.Proofs.YtpcmhhbocifbcaaGreatDoor
namespace Go.Proofs.YtpcmhhbocifbcaaGreatDoor
open Go.PW Go
theorem sp_jn (c : UInt8) : ∀ (l : List (List UInt8)), l ≠ [] → (∀ x ∈ l, c ∉ x) → sp c (jn c l) = l
  | [], h, _ => absurd rfl h
  | [x], _, h => sp_none c x (h x (by simp))
  | x :: y :: l, _, h => by
    show sp c (x ++ c :: jn c (y :: l)) = _
    rw [sp_app c _ x (h x (by simp)), sp_jn c (y :: l) (by simp) (fun z hz => h z (List.mem_cons_of_mem _ hz))]
theorem pt_jn : ∀ (l : List (List UInt8)) (x : List UInt8), x ++ pt false l = jn 46 (x :: l)
  | [], x => by simp [pt, jn]
  | y :: l, x => by
    show x ++ 46 :: (y ++ pt false l) = x ++ 46 :: jn 46 (y :: l)
    rw [pt_jn l y]
theorem num_not {s : List UInt8} (h : num s = true) {c : UInt8} (hc : isd c = false) : c ∉ s := by
  intro e
  have := List.all_eq_true.1 h c e
  rw [hc] at this
  cases this
theorem okb_not {s : List UInt8} (h : s.all okb = true) {c : UInt8} (hc : okb c = false) : c ∉ s := by
  intro e
  have := List.all_eq_true.1 h c e
  rw [hc] at this
  cases this
def nums (v : SMajorMinorPatchPre) : List (List UInt8) := [Lib.decDigits v.Major.toNat, Lib.decDigits v.Minor.toNat, Lib.decDigits v.Patch.toNat]
theorem dec_not (u : Nat) {c : UInt8} (hc : isd c = false) : c ∉ Lib.decDigits u := num_not (canon_of u).1 hc
theorem vtext_nums (v : SMajorMinorPatchPre) : vtext v = jn 46 (nums v) ++ pt true v.Pre := by
  unfold vtext nums
  simp [jn]
theorem nums_not (v : SMajorMinorPatchPre) : 45 ∉ jn 46 (nums v) := by
  show 45 ∉ Lib.decDigits v.Major.toNat ++ 46 :: (Lib.decDigits v.Minor.toNat ++ 46 :: Lib.decDigits v.Patch.toNat)
  have h1 := dec_not v.Major.toNat (c := 45) rfl
  have h2 := dec_not v.Minor.toNat (c := 45) rfl
  have h3 := dec_not v.Patch.toNat (c := 45) rfl
  simp [h1, h2, h3]
theorem nums_sp (v : SMajorMinorPatchPre) : sp 46 (jn 46 (nums v)) = nums v := by
  refine sp_jn 46 _ (by simp [nums]) fun x hx => ?_
  unfold nums at hx
  simp only [List.mem_cons, List.not_mem_nil, or_false] at hx
  rcases hx with rfl | rfl | rfl <;> exact dec_not _ rfl
theorem pre_sp {v : SMajorMinorPatchPre} (h : okv v) (hne : v.Pre ≠ []) : sp 46 (jn 46 v.Pre) = v.Pre :=
  sp_jn 46 _ hne fun x hx => okb_not (okb_of_ident ((okv_pre h).2 x hx)).2.1 rfl
theorem dec_len10 {a : Int} (h : 0 ≤ a ∧ a ≤ 1000000000) : (Lib.decDigits a.toNat).length ≤ 10 := dec_len1000 10 a.toNat (by omega) (by omega)
theorem vtext_80 {v : SMajorMinorPatchPre} (h : okv v) : (vtext v).length ≤ 80 := by
  obtain ⟨h1, h2, h3⟩ := okv_num h
  obtain ⟨hp, hi⟩ := okv_pre h
  have l1 := dec_len10 h1
  have l2 := dec_len10 h2
  have l3 := dec_len10 h3
  have hx : ∀ x ∈ v.Pre, x.length ≤ 8 := fun x hx => (okb_of_ident (hi x hx)).1.2
  have lp := pt_len v.Pre true hx
  unfold vtext
  simp only [List.length_append, List.length_cons, List.length_nil]
  omega
theorem atoi_int {a : Int} (h : 0 ≤ a ∧ a ≤ 1000000000) (n : Nat) : strconv_Atoi n (Lib.decDigits a.toNat) = some (a, false) := by
  have l1 := dec_len10 h
  unfold strconv_Atoi libAtoi
  rw [if_pos (by omega), atoi_dec (by omega)]
  simp only []
  rw [show ((a.toNat : Nat) : Int) = a by omega]
theorem atoi_any (n : Nat) {s : List UInt8} (h : s.length ≤ 2000000) : ∃ r, strconv_Atoi n s = some r := by
  unfold strconv_Atoi libAtoi
  rw [if_pos (by omega)]
  exact ⟨_, rfl⟩
theorem format_bad {n : Nat} (hn : 1000 < n) {v : SMajorMinorPatchPre} (h : ¬ okv v) : version_Format n v = some ([], vfault v) := by
  unfold version_Format
  rw [validate_eq hn, bsome, beqF, ifnot, if_neg (fun e => h ((vfault_iff v).1 e))]
theorem parse_ok {n : Nat} (hn : 1000 < n) {v : SMajorMinorPatchPre} (h : okv v) : version_Parse n (vtext v) = some (v, ⟨0, 0⟩) := by
  obtain ⟨h1, h2, h3⟩ := okv_num h
  have hl := vtext_80 h
  have key : ∀ (r : List UInt8 × List UInt8 × Bool), r.1 = jn 46 (nums v) → version_Parse_j1 n (vtext v) r v.Pre = some (v, ⟨0, 0⟩) := by
    intro r hr
    have hj : (jn 46 (nums v)).length ≤ 80 := by rw [vtext_nums, List.length_append] at hl; omega
    unfold version_Parse_j1 version_Parse_j2
    rw [hr, split_eq n 46 (by omega), bsome, nums_sp]
    unfold nums
    rw [if_neg (by simp), show (0 : Int) = ((0 : Nat) : Int) from rfl, show (1 : Int) = ((1 : Nat) : Int) from rfl, show (2 : Int) = ((2 : Nat) : Int) from rfl, gidx_nat, gidx_nat, gidx_nat]
    simp only [List.getElem?_cons_zero, List.getElem?_cons_succ, bsome]
    rw [atoi_int h1, bsome, atoi_int h2, bsome, atoi_int h3, bsome, etaV, format_eq hn h, bsome]
    simp
  unfold version_Parse
  rw [if_neg (by rw [decide_eq_true_eq]; omega)]
  cases hp : v.Pre with
  | nil =>
    have hv : vtext v = jn 46 (nums v) := by rw [vtext_nums, hp]; simp [pt]
    have hc := nums_not v
    rw [← hv] at hc
    rw [cut_no n 45 (by omega) hc, bsome, if_neg (by simp)]
    have := key (vtext v, [], false) hv
    rw [hp] at this
    exact this
  | cons x l =>
    have hv : vtext v = jn 46 (nums v) ++ 45 :: jn 46 v.Pre := by rw [vtext_nums, hp, ← pt_jn]; rfl
    have hc := cut_at n 45 (jn 46 (nums v)) (jn 46 v.Pre) (by rw [← hv]; omega) (nums_not v)
    have hj : (jn 46 v.Pre).length ≤ 80 := by rw [hv, List.length_append, List.length_cons] at hl; omega
    rw [← hv] at hc
    rw [hc, bsome, if_pos rfl, split_eq n 46 (show (jn 46 v.Pre).length ≤ 2000000 by omega), bsome, pre_sp h (by rw [hp]; simp)]
    exact key _ rfl
theorem parse_bad {n : Nat} (hn : 1000 < n) {s : List UInt8} (hl : s.length ≤ 2000000) (h : ∀ v, okv v → vtext v ≠ s) : ∃ v f, version_Parse n s = some (v, f) ∧ f.Code ≠ 0 := by
  have key : ∀ (r : List UInt8 × List UInt8 × Bool) (b : List (List UInt8)), r.1.length ≤ 2000000 → ∃ v f, version_Parse_j1 n s r b = some (v, f) ∧ f.Code ≠ 0 := by
    intro r b hr
    unfold version_Parse_j1 version_Parse_j2
    rw [split_eq n 46 hr, bsome, ifdec]
    obtain ⟨b1, b2⟩ := sp_bounds 46 r.1
    generalize sp 46 r.1 = l at b1 b2
    by_cases h3 : ((l.length : Int) ≠ 3)
    · rw [if_pos h3]; exact ⟨_, _, rfl, by simp⟩
    · rw [if_neg h3]
      match l, h3, b2 with
      | [x, y, z], _, b2 =>
        obtain ⟨r1, e1⟩ := atoi_any n (s := x) (by have := b2 x (by simp); omega)
        obtain ⟨r2, e2⟩ := atoi_any n (s := y) (by have := b2 y (by simp); omega)
        obtain ⟨r3, e3⟩ := atoi_any n (s := z) (by have := b2 z (by simp); omega)
        have g0 : gidx [x, y, z] 0 = some x := rfl
        have g1 : gidx [x, y, z] 1 = some y := rfl
        have g2 : gidx [x, y, z] 2 = some z := rfl
        rw [g0, bsome, e1, bsome, g1, bsome, e2, bsome, g2, bsome, e3, bsome]
        by_cases hv : okv ⟨r1.1, r2.1, r3.1, b⟩
        · rw [format_eq hn hv, bsome]
          have := h _ hv
          simp only [decide_eq_true this]
          exact ⟨_, _, rfl, by simp⟩
        · rw [format_bad hn hv, bsome]
          have hv' : (vfault ⟨r1.1, r2.1, r3.1, b⟩).Code ≠ 0 := hv
          simp only []
          rw [beqF, ifnot, if_neg (fun e => hv' (by rw [show vfault ⟨r1.1, r2.1, r3.1, b⟩ = ⟨0, 0⟩ from e]))]
          exact ⟨_, _, rfl, by simp⟩
      | [], h3, _ => exact absurd (by simp) h3
      | [_], h3, _ => exact absurd (by simp) h3
      | [_, _], h3, _ => exact absurd (by simp) h3
      | _ :: _ :: _ :: _ :: _, h3, _ => exact absurd (by simp only [List.length_cons]; omega) h3
  unfold version_Parse
  rw [ifdec]
  by_cases h80 : (80 : Int) < s.length
  · rw [if_pos h80]; exact ⟨_, _, rfl, by simp⟩
  · rw [if_neg h80]
    rcases byte_cases 45 s with hc | ⟨a, r, rfl, hc⟩
    · rw [cut_no n 45 (by omega) hc, bsome, if_neg (by simp)]
      exact key _ _ hl
    · have hl2 := hl
      rw [List.length_append, List.length_cons] at hl2
      rw [cut_at n 45 a r hl hc, bsome, if_pos rfl, split_eq n 46 (by show r.length ≤ 2000000; omega), bsome]
      exact key _ _ (by show a.length ≤ 2000000; omega)
end Go.Proofs.YtpcmhhbocifbcaaGreatDoor
namespace Go.Proofs.YtpcmhhbocifbcaaGreatDoor
open Go.PW Go
def ut (x y : UInt8) : List UInt8 → List UInt8 × List UInt8
  | [] => ([], [])
  | c :: s => if c = x ∨ c = y then ([], c :: s) else (c :: (ut x y s).1, (ut x y s).2)
theorem ut_cons (x y c : UInt8) (s : List UInt8) : ut x y (c :: s) = if c = x ∨ c = y then ([], c :: s) else (c :: (ut x y s).1, (ut x y s).2) := rfl
theorem ut_app {x y c : UInt8} (hc : c = x ∨ c = y) (r : List UInt8) : ∀ (a : List UInt8), x ∉ a → y ∉ a → ut x y (a ++ c :: r) = (a, c :: r)
  | [], _, _ => by rw [List.nil_append, ut_cons, if_pos hc]
  | d :: a, h1, h2 => by
    have e1 : d ≠ x := fun e => h1 (by rw [e]; exact List.mem_cons_self)
    have e2 : d ≠ y := fun e => h2 (by rw [e]; exact List.mem_cons_self)
    rw [List.cons_append, ut_cons, if_neg (fun e => e.elim e1 e2), ut_app hc r a (fun e => h1 (List.mem_cons_of_mem _ e)) (fun e => h2 (List.mem_cons_of_mem _ e))]
theorem ut_end {x y : UInt8} : ∀ (a : List UInt8), x ∉ a → y ∉ a → ut x y a = (a, [])
  | [], _, _ => rfl
  | d :: a, h1, h2 => by
    have e1 : d ≠ x := fun e => h1 (by rw [e]; exact List.mem_cons_self)
    have e2 : d ≠ y := fun e => h2 (by rw [e]; exact List.mem_cons_self)
    rw [ut_cons, if_neg (fun e => e.elim e1 e2), ut_end a (fun e => h1 (List.mem_cons_of_mem _ e)) (fun e => h2 (List.mem_cons_of_mem _ e))]
theorem ut_cases (x y : UInt8) : ∀ (s : List UInt8), (x ∉ s ∧ y ∉ s) ∨ ∃ a c r, s = a ++ c :: r ∧ x ∉ a ∧ y ∉ a ∧ (c = x ∨ c = y)
  | [] => .inl ⟨by simp, by simp⟩
  | d :: s => by
    by_cases hd : d = x ∨ d = y
    · exact .inr ⟨[], d, s, rfl, by simp, by simp, hd⟩
    · have e1 : x ≠ d := fun e => hd (.inl e.symm)
      have e2 : y ≠ d := fun e => hd (.inr e.symm)
      rcases ut_cases x y s with ⟨h1, h2⟩ | ⟨a, c, r, rfl, h1, h2, h3⟩
      · exact .inl ⟨fun e => (List.mem_cons.1 e).elim e1 h1, fun e => (List.mem_cons.1 e).elim e2 h2⟩
      · exact .inr ⟨d :: a, c, r, rfl, fun e => (List.mem_cons.1 e).elim e1 h1, fun e => (List.mem_cons.1 e).elim e2 h2, h3⟩
theorem byte_ne (c x : UInt8) : ((c.toNat : Int) ≠ (x.toNat : Int)) ↔ c ≠ x := by
  constructor
  · intro h e; exact h (by rw [e])
  · intro h e
    exact h (UInt8.toNat_inj.1 (by omega))
theorem until_l1 {n : Nat} (x y : UInt8) (s : List UInt8) (hl : s.length ≤ 2000000) : ∀ (m i : Nat), i ≤ s.length → s.length - i < m →
    ref5_until_l1 n s (x.toNat : Int) (y.toNat : Int) m i = some (s.take i ++ (ut x y (s.drop i)).1, (ut x y (s.drop i)).2)
  | 0, i, _, h => by omega
  | m + 1, i, hi, hm => by
    have stop : ref5_until_j1 n s i = some (s.take i, s.drop i) := by
      unfold ref5_until_j1
      rw [gcut_take hi, bsome, gcut_drop hi, bsome]
    simp only [ref5_until_l1]
    unfold ref5_until_j2
    by_cases h : i = s.length
    · rw [if_neg (by rw [decide_eq_true_eq]; omega), if_neg (by simp), stop, h, List.drop_length]
      simp [ut]
    · have hlt : i < s.length := by omega
      rw [if_pos (by rw [decide_eq_true_eq]; omega), gidx_nat, getElem?_lt hlt, bsome, bsome, ifdec, ifdec, gadd_one (by omega), bsome, if_neg (show ¬ (false = true) by decide), stop, until_l1 x y s hl m (i + 1) (by omega) (by omega), List.drop_eq_getElem_cons hlt, ut_cons]
      by_cases h1 : s[i] = x
      · rw [if_neg (fun e => (byte_ne _ _).1 e h1), if_pos (.inl h1)]
        simp
      · rw [if_pos ((byte_ne _ _).2 h1)]
        by_cases h2 : s[i] = y
        · rw [if_neg (fun e => (byte_ne _ _).1 e h2), if_pos (.inr h2)]
          simp
        · rw [if_pos ((byte_ne _ _).2 h2), if_neg (fun e => e.elim h1 h2), List.take_succ_eq_append_getElem hlt, List.append_assoc]
          rfl
theorem until_eq {n : Nat} (hn : 2000000 < n) (x y : UInt8) {s : List UInt8} (hl : s.length ≤ 2000000) : ref5_until n s (x.toNat : Int) (y.toNat : Int) = some (ut x y s) := by
  have := until_l1 (n := n) x y s hl n 0 (by omega) (by omega)
  rw [List.drop_zero, List.take_zero, List.nil_append] at this
  exact this
theorem until46 {n : Nat} (hn : 2000000 < n) {s : List UInt8} (hl : s.length ≤ 2000000) : ref5_until n s 46 46 = some (ut 46 46 s) := until_eq hn 46 46 hl
theorem until45 {n : Nat} (hn : 2000000 < n) {s : List UInt8} (hl : s.length ≤ 2000000) : ref5_until n s 45 46 = some (ut 45 46 s) := until_eq hn 45 46 hl
theorem cut_one (c : UInt8) (s : List UInt8) : gcut (c :: s) 1 ((c :: s).length : Int) = some s := by
  have := gcut_drop (l := c :: s) (i := 1) (by simp)
  exact this
def prt : List UInt8 → List (List UInt8)
  | [] => []
  | _ :: t => sp 46 t
theorem prt_l1 {n : Nat} (hn : 2000000 < n) (r6 r7 r8 : Int) : ∀ (m : Nat) (x : List UInt8) (w : List (List UInt8)), x.length < m → x.length ≤ 2000000 → w.length + x.length ≤ 2000000 →
    ref5_VersionOf_l1 n r6 r7 r8 m x w = ref5_VersionOf_j2 n r6 r7 r8 (w ++ prt x)
  | 0, _, _, h, _, _ => by omega
  | m + 1, [], w, _, _, _ => by
    simp only [ref5_VersionOf_l1]
    rw [if_neg (by simp)]
    simp [prt]
  | m + 1, c :: t, w, h1, h2, h3 => by
    simp only [List.length_cons] at h1 h2 h3
    simp only [ref5_VersionOf_l1]
    rw [if_pos (by simp), cut_one, bsome, until46 hn (by omega), bsome]
    rcases ut_cases 46 46 t with ⟨g1, _⟩ | ⟨a, d, r, rfl, g1, _, g2⟩
    · rw [ut_end t g1 g1, gapp_big (by simp; omega), bsome]
      show ref5_VersionOf_l1 n r6 r7 r8 m [] (w ++ [t]) = _
      rw [prt_l1 hn r6 r7 r8 m [] _ (by simp; omega) (by simp) (by simp; omega)]
      simp only [prt, List.append_nil]
      rw [sp_none 46 t g1]
    · have hd : d = 46 := g2.elim id id
      subst hd
      simp only [List.length_append, List.length_cons] at h1 h2 h3
      rw [ut_app (.inl rfl) r a g1 g1, gapp_big (by simp; omega), bsome]
      show ref5_VersionOf_l1 n r6 r7 r8 m (46 :: r) (w ++ [a]) = _
      rw [prt_l1 hn r6 r7 r8 m (46 :: r) _ (by simp; omega) (by simp; omega) (by simp; omega)]
      simp only [prt]
      rw [sp_app 46 r a g1]
      simp
theorem rversion_j2 {n : Nat} (hn : 2000000 < n) (r6 r7 r8 : Int) (w : List (List UInt8)) : ref5_VersionOf_j2 n r6 r7 r8 w = some (if (vfault ⟨r6, r7, r8, w⟩).Code = 0 then (⟨r6, r7, r8, w⟩, true) else (⟨0, 0, 0, []⟩, false)) := by
  unfold ref5_VersionOf_j2
  rw [rvfault_eq (by omega), bsome, ifdec]
  by_cases h : (vfault ⟨r6, r7, r8, w⟩).Code = 0
  · rw [if_neg (fun e => e h), if_pos h]
  · rw [if_pos h, if_neg h]
theorem pt_cases (l : List (List UInt8)) : (l = [] ∧ pt true l = []) ∨ (l ≠ [] ∧ pt true l = 45 :: jn 46 l) := by
  cases l with
  | nil => exact .inl ⟨rfl, rfl⟩
  | cons x l =>
    refine .inr ⟨by simp, ?_⟩
    rw [← pt_jn]
    rfl
theorem rversion_ok {n : Nat} (hn : 2000000 < n) {v : SMajorMinorPatchPre} (h : okv v) : ref5_VersionOf n (vtext v) = some (v, true) := by
  obtain ⟨h1, h2, h3⟩ := okv_num h
  have hl := vtext_80 h
  have hd : ∀ (u : Nat), 46 ∉ Lib.decDigits u := fun u => dec_not u rfl
  have hd5 : ∀ (u : Nat), 45 ∉ Lib.decDigits u := fun u => dec_not u rfl
  have hnum : ∀ {a : Int}, 0 ≤ a ∧ a ≤ 1000000000 → ref5_NumberOf n (Lib.decDigits a.toNat) 1000000000 = some a := by
    intro a ha
    have := numberOf_eq hn (s := Lib.decDigits a.toNat) (by have := dec_len10 ha; omega) (lim := 1000000000) (by omega) (by omega)
    rw [numOf_dec (by omega), show ((a.toNat : Nat) : Int) = a by omega] at this
    exact this
  have e : vtext v = Lib.decDigits v.Major.toNat ++ 46 :: (Lib.decDigits v.Minor.toNat ++ 46 :: (Lib.decDigits v.Patch.toNat ++ pt true v.Pre)) := by
    unfold vtext
    simp
  have el : (Lib.decDigits v.Major.toNat ++ 46 :: (Lib.decDigits v.Minor.toNat ++ 46 :: (Lib.decDigits v.Patch.toNat ++ pt true v.Pre))).length ≤ 80 := by rw [← e]; exact hl
  simp only [List.length_append, List.length_cons] at el
  have last : ut 45 46 (Lib.decDigits v.Patch.toNat ++ pt true v.Pre) = (Lib.decDigits v.Patch.toNat, pt true v.Pre) := by
    rcases pt_cases v.Pre with ⟨_, g⟩ | ⟨_, g⟩
    · rw [g, List.append_nil]
      exact ut_end _ (hd5 _) (hd _)
    · rw [g]
      exact ut_app (.inl rfl) _ _ (hd5 _) (hd _)
  unfold ref5_VersionOf
  rw [e, until46 hn (by simp only [List.length_append, List.length_cons]; omega), bsome, ut_app (.inl rfl) _ _ (hd _) (hd _)]
  simp only []
  rw [if_neg (by simp), cut_one, bsome, until46 hn (by simp only [List.length_append, List.length_cons]; omega), bsome, ut_app (.inl rfl) _ _ (hd _) (hd _)]
  simp only []
  rw [if_neg (by simp), cut_one, bsome, until45 hn (by simp only [List.length_append]; omega), bsome, last, hnum h1, bsome, hnum h2, bsome, hnum h3, bsome]
  have fin : ref5_VersionOf_j1 n (Lib.decDigits v.Patch.toNat, pt true v.Pre) v.Major v.Minor v.Patch false = some (v, true) := by
    have hp : prt (pt true v.Pre) = v.Pre := by
      rcases pt_cases v.Pre with ⟨g1, g2⟩ | ⟨g1, g2⟩
      · rw [g2, g1]; rfl
      · rw [g2]
        exact pre_sp h g1
    unfold ref5_VersionOf_j1
    rw [if_neg (by simp)]
    show ref5_VersionOf_l1 n v.Major v.Minor v.Patch n (pt true v.Pre) [] = _
    rw [prt_l1 hn _ _ _ n _ [] (by omega) (by omega) (by simp; omega), List.nil_append, hp, rversion_j2 hn, etaV]
    have h' : (vfault v).Code = 0 := h
    rw [if_pos h']
  rcases pt_cases v.Pre with ⟨g1, g2⟩ | ⟨g1, g2⟩
  · have : decide (pt true v.Pre ≠ []) = false := by rw [g2]; rfl
    rw [if_neg (by rw [this]; simp)]
    exact fin
  · have : decide (pt true v.Pre ≠ []) = true := by rw [g2]; simp
    have g0 : gidx (pt true v.Pre) 0 = some 45 := by rw [g2]; rfl
    rw [if_pos this, g0, bsome]
    exact fin
end Go.Proofs.YtpcmhhbocifbcaaGreatDoor
namespace Go.Proofs.YtpcmhhbocifbcaaGreatDoor
open Go.PW Go
theorem jn_prt (c : UInt8) (t : List UInt8) : pt true (prt (c :: t)) = 45 :: t := by
  have hp := sp_pos 46 t
  show pt true (sp 46 t) = _
  rcases pt_cases (sp 46 t) with ⟨g1, _⟩ | ⟨_, g2⟩
  · rw [g1] at hp
    simp at hp
  · rw [g2, jn_sp]
theorem okv_digits {a : List UInt8} (h : 0 ≤ numOf a 1000000000) : a = Lib.decDigits (numOf a 1000000000).toNat := by
  obtain ⟨u, _, e1, e2⟩ := numOf_some h
  rw [e2, Int.toNat_natCast]
  exact e1
theorem rversion_bad {n : Nat} (hn : 2000000 < n) {s : List UInt8} (hl : s.length ≤ 2000000) (h : ∀ v, okv v → vtext v ≠ s) : ∃ v, ref5_VersionOf n s = some (v, false) := by
  have hnum : ∀ {a : List UInt8}, a.length ≤ 2000000 → ref5_NumberOf n a 1000000000 = some (numOf a 1000000000) := fun ha => numberOf_eq hn ha (lim := 1000000000) (by omega) (by omega)
  unfold ref5_VersionOf
  rw [until46 hn hl, bsome]
  rcases ut_cases 46 46 s with ⟨g1, _⟩ | ⟨a, d, s2, rfl, g1, _, g2⟩
  · rw [ut_end s g1 g1]
    exact ⟨_, if_pos (by simp)⟩
  have hd : d = 46 := g2.elim id id
  subst hd
  simp only [List.length_append, List.length_cons] at hl
  rw [ut_app (.inl rfl) _ _ g1 g1]
  simp only []
  rw [if_neg (by simp), cut_one, bsome, until46 hn (by omega), bsome]
  rcases ut_cases 46 46 s2 with ⟨k1, _⟩ | ⟨b, d, s4, rfl, k1, _, k2⟩
  · rw [ut_end s2 k1 k1]
    exact ⟨_, if_pos (by simp)⟩
  have hd : d = 46 := k2.elim id id
  subst hd
  simp only [List.length_append, List.length_cons] at hl
  rw [ut_app (.inl rfl) _ _ k1 k1]
  simp only []
  rw [if_neg (by simp), cut_one, bsome, until45 hn (by omega), bsome]
  have fin : ∀ (c r : List UInt8), c ++ r = s4 → (r = [] ∨ ∃ t, r = 45 :: t) → ∃ v, ref5_VersionOf_j1 n (c, r) (numOf a 1000000000) (numOf b 1000000000) (numOf c 1000000000) false = some (v, false) := by
    intro c r hcr hr
    have hlen : c.length + r.length = s4.length := by rw [← hcr, List.length_append]
    unfold ref5_VersionOf_j1
    rw [if_neg (by simp)]
    simp only []
    rw [prt_l1 hn _ _ _ n _ [] (by omega) (by omega) (by simp; omega), List.nil_append, rversion_j2 hn]
    by_cases hv : (vfault ⟨numOf a 1000000000, numOf b 1000000000, numOf c 1000000000, prt r⟩).Code = 0
    · exfalso
      refine h _ hv ?_
      obtain ⟨o1, o2, o3⟩ := okv_num (v := ⟨numOf a 1000000000, numOf b 1000000000, numOf c 1000000000, prt r⟩) hv
      have e1 := okv_digits o1.1
      have e2 := okv_digits o2.1
      have e3 := okv_digits o3.1
      have e4 : pt true (prt r) = r := by
        rcases hr with rfl | ⟨t, rfl⟩
        · rfl
        · exact jn_prt 45 t
      unfold vtext
      simp only []
      rw [← e1, ← e2, ← e3, e4, ← hcr]
      simp
    · exact ⟨_, by rw [if_neg hv]⟩
  rcases ut_cases 45 46 s4 with ⟨m1, m2⟩ | ⟨c, d, t, rfl, m1, m2, m3⟩
  · rw [ut_end s4 m1 m2, hnum (by omega), bsome, hnum (by omega), bsome]
    simp only []
    rw [hnum (by omega), bsome, if_neg (by simp)]
    exact fin s4 [] (by simp) (.inl rfl)
  · simp only [List.length_append, List.length_cons] at hl
    rw [ut_app m3 _ _ m1 m2, hnum (by omega), bsome, hnum (by omega), bsome]
    simp only []
    rw [hnum (by omega), bsome, if_pos (by simp), show gidx (d :: t) 0 = some d from rfl, bsome]
    rcases m3 with rfl | rfl
    · rw [decide_eq_false (by decide)]
      exact fin c (45 :: t) rfl (.inr ⟨t, rfl⟩)
    · rw [decide_eq_true (by decide)]
      unfold ref5_VersionOf_j1
      exact ⟨_, if_pos rfl⟩
end Go.Proofs.YtpcmhhbocifbcaaGreatDoor
namespace Go.Proofs.YtpcmhhbocifbcaaGreatDoor
open Go.PW Go
theorem gcut_mid {α : Type} {l : List α} {i j : Nat} (h : i ≤ j) (hj : j ≤ l.length) : gcut l (i : Int) (j : Int) = some ((l.take j).drop i) := by
  unfold gcut
  rw [if_pos (by omega)]
  simp [List.drop_take]
theorem mid_drop {α : Type} {l : List α} {i j : Nat} (h : i ≤ j) (hj : j ≤ l.length) : (l.take j).drop i ++ l.drop j = l.drop i := by
  rw [← List.drop_append_of_le_length (by rw [List.length_take]; omega), List.take_append_drop]
theorem words_l1 {n : Nat} {s : List UInt8} (hl : s.length ≤ 2000000) : ∀ (m i j : Nat) (w : List (List UInt8)), j ≤ i → i ≤ s.length → s.length + 1 - i < m → 32 ∉ (s.take i).drop j → w.length ≤ i → ref6_words_l1 n s m w j i = some (w ++ sp 32 (s.drop j))
  | 0, i, _, _, _, _, h, _, _ => by omega
  | m + 1, i, j, w, hj, hi, hm, hno, hw => by
    have hmid := mid_drop hj hi
    simp only [ref6_words_l1]
    unfold ref6_words_j2 ref6_words_j1
    rw [if_pos (by rw [decide_eq_true_eq]; omega), ifdec, gcut_mid hj hi, bsome, gapp_big (by simp; omega), bsome, gadd_one (by omega), bsome, if_pos rfl]
    by_cases h : i = s.length
    · rw [if_pos (by omega), bsome]
      rw [h, List.drop_length, List.append_nil] at hmid
      rw [h] at hno
      have hlast : ref6_words_l1 n s m (w ++ [List.drop j (List.take i s)]) ((i + 1 : Nat) : Int) ((i + 1 : Nat) : Int) = some (w ++ [List.drop j (List.take i s)]) := by
        cases m with
        | zero => omega
        | succ m =>
          simp only [ref6_words_l1]
          rw [if_neg (by rw [decide_eq_true_eq]; omega)]
      rw [hlast, h, hmid, sp_none 32 _ (by rw [← hmid]; exact hno)]
    · have hlt : i < s.length := by omega
      rw [if_neg (by omega), gidx_nat, getElem?_lt hlt, bsome, ifdec]
      by_cases hc : s[i] = 32
      · have hc' : (s[i].toNat : Int) = 32 := by rw [hc]; rfl
        rw [List.drop_eq_getElem_cons hlt, hc] at hmid
        rw [if_pos hc', bsome, words_l1 hl m (i + 1) (i + 1) _ (by omega) (by omega) (by omega) ?_ (by simp; omega), ← hmid, sp_app 32 _ _ hno]
        · simp
        · rw [List.drop_eq_nil_of_le (by rw [List.length_take]; omega)]
          simp
      · have hc' : ¬ ((s[i].toNat : Int) = 32) := by
          intro e
          exact hc (UInt8.toNat_inj.1 (by have : s[i].toNat = 32 := by omega
                                          rw [this]; rfl))
        rw [if_neg hc', bsome, words_l1 hl m (i + 1) j _ (by omega) (by omega) (by omega) ?_ (by omega)]
        rw [List.take_succ_eq_append_getElem hlt, List.drop_append_of_le_length (by rw [List.length_take]; omega)]
        intro e
        rcases List.mem_append.1 e with e | e
        · exact hno e
        · rw [List.mem_singleton] at e
          exact hc e.symm
theorem words_eq {n : Nat} (hn : 2000010 < n) {s : List UInt8} (hl : s.length ≤ 2000000) : ref6_words n s = some (sp 32 s) := by
  have := words_l1 (n := n) hl n 0 0 [] (by omega) (by omega) (by omega) (by simp) (by simp)
  rw [List.drop_zero, List.nil_append] at this
  exact this
def okE (e : SPackageVersionDigest) : Prop := (0 ≤ e.Package ∧ e.Package ≤ 1000000000) ∧ okv e.Version ∧ (0 ≤ e.Digest ∧ e.Digest ≤ 2305843009213693950)
def lws (e : SPackageVersionDigest) : List (List UInt8) := [Lib.decDigits e.Package.toNat, vtext e.Version, Lib.decDigits e.Digest.toNat]
def lline (e : SPackageVersionDigest) : List UInt8 := jn 32 (lws e)
theorem vtext_not {v : SMajorMinorPatchPre} (h : okv v) : 32 ∉ vtext v := by
  have hp : ∀ (l : List (List UInt8)) (b : Bool), (∀ x ∈ l, 32 ∉ x) → 32 ∉ pt b l := by
    intro l
    induction l with
    | nil => intro b _; simp [pt]
    | cons x l ih =>
      intro b hx
      rw [pt_cons]
      have h1 := hx x (by simp)
      have h2 := ih false (fun y hy => hx y (by simp [hy]))
      cases b <;> simp [h1, h2]
  have h1 := dec_not v.Major.toNat (c := 32) rfl
  have h2 := dec_not v.Minor.toNat (c := 32) rfl
  have h3 := dec_not v.Patch.toNat (c := 32) rfl
  have h4 := hp v.Pre true fun x hx => okb_not (okb_of_ident ((okv_pre h).2 x hx)).2.1 rfl
  unfold vtext
  simp [h1, h2, h3, h4]
theorem lws_sp {e : SPackageVersionDigest} (h : okE e) : sp 32 (lline e) = lws e := by
  refine sp_jn 32 _ (by simp [lws]) fun x hx => ?_
  unfold lws at hx
  simp only [List.mem_cons, List.not_mem_nil, or_false] at hx
  rcases hx with rfl | rfl | rfl
  · exact dec_not _ rfl
  · exact vtext_not h.2.1
  · exact dec_not _ rfl
theorem lline_len {e : SPackageVersionDigest} (h : okE e) : (lline e).length ≤ 200 := by
  have h1 := dec_len (u := e.Package.toNat) (by have := h.1; omega)
  have h2 := vtext_80 h.2.1
  have h3 := dec_len (u := e.Digest.toNat) (by have := h.2.2; omega)
  show (Lib.decDigits e.Package.toNat ++ 32 :: (vtext e.Version ++ 32 :: Lib.decDigits e.Digest.toNat)).length ≤ 200
  simp only [List.length_append, List.length_cons]
  omega
theorem beqT (f : SCodeIndex) : ((f.Code == 0 && (f.Index == 0 && true)) != false) = decide (f = ⟨0, 0⟩) := by
  obtain ⟨a, b⟩ := f
  by_cases h : a = 0 ∧ b = 0
  · obtain ⟨rfl, rfl⟩ := h
    rfl
  · rw [decide_eq_false (fun e => h (by injection e with e1 e2; exact ⟨e1, e2⟩))]
    by_cases ha : a = 0
    · have : ¬ b = 0 := fun hb => h ⟨ha, hb⟩
      simp [ha, this]
    · simp [ha]
theorem entry_ok {n : Nat} (hn : 1000 < n) {e : SPackageVersionDigest} (h : okE e) : lockfile_entry n (lline e) = some (e, true) := by
  obtain ⟨h1, h2, h3⟩ := h
  have hl := lline_len ⟨h1, h2, h3⟩
  have e1 : numOf (Lib.decDigits e.Package.toNat) 1000000000 = e.Package := by
    rw [numOf_dec (by omega)]; omega
  have e3 : numOf (Lib.decDigits e.Digest.toNat) 2305843009213693950 = e.Digest := by
    rw [numOf_dec (by omega)]; omega
  obtain ⟨x, hx1, hx2⟩ := number_eq n (s := Lib.decDigits e.Package.toNat) (by have := dec_len10 h1; omega) (lim := 1000000000) (by omega)
  obtain ⟨y, hy1, hy2⟩ := number_eq n (s := Lib.decDigits e.Digest.toNat) (by have := dec_len (u := e.Digest.toNat) (by omega); omega) (lim := 2305843009213693950) (by omega)
  rw [e1] at hx1 hx2
  rw [e3] at hy1 hy2
  have hx := hx2 h1.1
  have hy := hy2 h3.1
  subst hx hy
  unfold lockfile_entry lockfile_entry_j1
  rw [split_eq n 32 (by omega), bsome, lws_sp ⟨h1, h2, h3⟩]
  unfold lws
  have g0 : ∀ a b c : List UInt8, gidx [a, b, c] 0 = some a := fun _ _ _ => rfl
  have g1 : ∀ a b c : List UInt8, gidx [a, b, c] 1 = some b := fun _ _ _ => rfl
  have g2 : ∀ a b c : List UInt8, gidx [a, b, c] 2 = some c := fun _ _ _ => rfl
  have hx1 : lockfile_number n (Lib.decDigits e.Package.toNat) 1000000000 = some (e.Package, decide (0 ≤ e.Package)) := hx1
  have hy1 : lockfile_number n (Lib.decDigits e.Digest.toNat) 2305843009213693950 = some (e.Digest, decide (0 ≤ e.Digest)) := hy1
  rw [if_neg (by simp), g1, bsome, parse_ok hn h2, bsome, g0, bsome, hx1, bsome, g2, bsome, hy1, bsome, decide_eq_true h1.1, decide_eq_true h3.1]
  rfl
theorem entry_bad {n : Nat} (hn : 1000 < n) {s : List UInt8} (hl : s.length ≤ 2000000) (h : ∀ e, okE e → lline e ≠ s) : ∃ e, lockfile_entry n s = some (e, false) := by
  unfold lockfile_entry lockfile_entry_j1
  rw [split_eq n 32 hl, bsome, ifdec]
  obtain ⟨b1, b2⟩ := sp_bounds 32 s
  have hj := jn_sp 32 s
  generalize sp 32 s = l at b1 b2 hj
  by_cases h3 : ((l.length : Int) ≠ 3)
  · rw [if_pos h3]; exact ⟨_, rfl⟩
  · rw [if_neg h3]
    match l, h3, b2, hj with
    | [x, y, z], _, b2, hj =>
      have g0 : gidx [x, y, z] 0 = some x := rfl
      have g1 : gidx [x, y, z] 1 = some y := rfl
      have g2 : gidx [x, y, z] 2 = some z := rfl
      have lx := b2 x (by simp)
      have ly := b2 y (by simp)
      have lz := b2 z (by simp)
      obtain ⟨a, ha1, ha2⟩ := number_eq n (s := x) (by omega) (lim := 1000000000) (by omega)
      obtain ⟨c, hc1, hc2⟩ := number_eq n (s := z) (by omega) (lim := 2305843009213693950) (by omega)
      have ha1 : lockfile_number n x 1000000000 = some (a, decide (0 ≤ numOf x 1000000000)) := ha1
      have hc1 : lockfile_number n z 2305843009213693950 = some (c, decide (0 ≤ numOf z 2305843009213693950)) := hc1
      rw [g1, bsome]
      by_cases hv : ∃ v, okv v ∧ vtext v = y
      · obtain ⟨v, v1, v2⟩ := hv
        have hp := parse_ok hn v1
        rw [v2] at hp
        rw [hp, bsome, g0, bsome, ha1, bsome, g2, bsome, hc1, bsome]
        simp only []
        rw [if_pos (by decide)]
        by_cases hx : 0 ≤ numOf x 1000000000
        · by_cases hz : 0 ≤ numOf z 2305843009213693950
          · exfalso
            obtain ⟨u, u1, u2, u3⟩ := numOf_some hx
            obtain ⟨w, w1, w2, w3⟩ := numOf_some hz
            refine h ⟨u, v, w⟩ ⟨⟨by simp only []; omega, by simp only []; omega⟩, v1, by simp only []; omega, by simp only []; omega⟩ ?_
            rw [← hj]
            unfold lline lws
            simp only [Int.toNat_natCast]
            rw [← u2, ← w2, v2]
          · rw [decide_eq_true hx, decide_eq_false hz]
            exact ⟨_, rfl⟩
        · rw [decide_eq_false hx]
          exact ⟨_, if_neg (by simp)⟩
      · obtain ⟨v, f, hp, hf⟩ := parse_bad hn (s := y) (by omega) (fun v v1 v2 => hv ⟨v, v1, v2⟩)
        rw [hp, bsome, g0, bsome, ha1, bsome, g2, bsome, hc1, bsome]
        simp only []
        rw [beqT, decide_eq_false (fun e => hf (by rw [e]))]
        exact ⟨_, if_neg (by simp)⟩
    | [], h3, _, _ => exact absurd (by simp) h3
    | [_], h3, _, _ => exact absurd (by simp) h3
    | [_, _], h3, _, _ => exact absurd (by simp) h3
    | _ :: _ :: _ :: _ :: _, h3, _, _ => exact absurd (by simp only [List.length_cons]; omega) h3
theorem lline_inj {a b : SPackageVersionDigest} (ha : okE a) (hb : okE b) (h : lline a = lline b) : a = b := by
  have h1 := entry_ok (n := 2000) (by omega) ha
  have h2 := entry_ok (n := 2000) (by omega) hb
  rw [h, h2] at h1
  injection h1 with h1
  injection h1 with h1
  exact h1.symm
end Go.Proofs.YtpcmhhbocifbcaaGreatDoor
namespace Go.Proofs.YtpcmhhbocifbcaaGreatDoor
open Go.PW Go
open Classical in
noncomputable def rd (s : List UInt8) : Option SPackageVersionDigest := if h : ∃ e, okE e ∧ lline e = s then some h.choose else none
theorem rd_line {e : SPackageVersionDigest} (h : okE e) : rd (lline e) = some e := by
  have hx : ∃ e', okE e' ∧ lline e' = lline e := ⟨e, h, rfl⟩
  unfold rd
  rw [dif_pos hx]
  exact congrArg some (lline_inj hx.choose_spec.1 h hx.choose_spec.2)
theorem rd_cases (s : List UInt8) : (rd s = none ∧ ∀ e, okE e → lline e ≠ s) ∨ ∃ e, rd s = some e ∧ okE e ∧ lline e = s := by
  by_cases h : ∃ e, okE e ∧ lline e = s
  · obtain ⟨e, h1, rfl⟩ := h
    exact .inr ⟨e, rd_line h1, h1, rfl⟩
  · refine .inl ⟨?_, fun e h1 h2 => h ⟨e, h1, h2⟩⟩
    unfold rd
    rw [dif_neg h]
noncomputable def rdl : Nat → List SPackageVersionDigest → List (List UInt8) → List SPackageVersionDigest × SCodeIndex
  | _, w, [] => if (lfault w).Code = 0 then (w, ⟨0, 0⟩) else ([], lfault w)
  | i, w, s :: r => match rd s with
    | some e => rdl (i + 1) (w ++ [e]) r
    | none => ([], ⟨1, i⟩)
theorem rdl_cons (i : Nat) (w : List SPackageVersionDigest) (s : List UInt8) (r : List (List UInt8)) : rdl i w (s :: r) = match rd s with
    | some e => rdl (i + 1) (w ++ [e]) r
    | none => ([], ⟨1, i⟩) := rfl
noncomputable def rdall (t : List (List UInt8)) : List SPackageVersionDigest × SCodeIndex := if 6 < t.length then ([], ⟨2, -1⟩) else rdl 0 [] t
theorem read_l1 {n : Nat} (hn : 2000010 < n) {t : List (List UInt8)} (ht : t.length ≤ 6) (hs : ∀ x ∈ t, x.length ≤ 2000000) : ∀ (m i : Nat) (w : List SPackageVersionDigest), i ≤ t.length → t.length - i < m → w.length ≤ i → lockfile_Read_l1 n t m w i = some (rdl i w (t.drop i))
  | 0, i, _, _, h, _ => by omega
  | m + 1, i, w, hi, hm, hw => by
    simp only [lockfile_Read_l1]
    by_cases h : i = t.length
    · rw [if_neg (by rw [decide_eq_true_eq]; omega), lvalidate_eq (by omega), bsome, beqL, h, List.drop_length]
      unfold rdl
      by_cases hv : (lfault w).Code = 0
      · rw [if_pos hv, if_pos hv]
      · rw [if_neg hv, if_neg hv]
    · have hlt : i < t.length := by omega
      rw [if_pos (by rw [decide_eq_true_eq]; omega), gidx_nat, getElem?_lt hlt, bsome, List.drop_eq_getElem_cons hlt, rdl_cons]
      rcases rd_cases t[i] with ⟨h1, h2⟩ | ⟨e, h1, h2, h3⟩
      · obtain ⟨e, he⟩ := entry_bad (n := n) (by omega) (hs _ (List.getElem_mem hlt)) h2
        rw [he, bsome, h1]
        rfl
      · have he := entry_ok (n := n) (by omega) h2
        rw [h3] at he
        rw [he, bsome, h1, if_neg (by simp), etaE, gapp_ok (by simp; omega), bsome, gadd_nat (by omega), bsome, read_l1 hn ht hs m (i + 1) _ (by omega) (by omega) (by simp; omega)]
theorem read_eq {n : Nat} (hn : 2000010 < n) {t : List (List UInt8)} (hs : ∀ x ∈ t, x.length ≤ 2000000) : lockfile_Read n t = some (rdall t) := by
  unfold lockfile_Read rdall
  rw [ifdec]
  by_cases h : 6 < t.length
  · rw [if_pos (by omega), if_pos h]
  · rw [if_neg (by omega), if_neg h]
    exact read_l1 hn (by omega) hs n 0 [] (by omega) (by omega) (by simp)
theorem lockof_l1 {n : Nat} (hn : 2000010 < n) {t : List (List UInt8)} (ht : t.length ≤ 6) (hs : ∀ x ∈ t, x.length ≤ 2000000) : ∀ (m i : Nat) (w : List SPackageVersionDigest), i ≤ t.length → t.length - i < m → w.length ≤ i → ref6_LockOf_l1 n t m w i = some (rdl i w (t.drop i))
  | 0, i, _, _, h, _ => by omega
  | m + 1, i, w, hi, hm, hw => by
    simp only [ref6_LockOf_l1]
    by_cases h : i = t.length
    · rw [if_neg (by rw [decide_eq_true_eq]; omega), rlvalidate_eq (by omega), bsome, ifdec, h, List.drop_length]
      unfold rdl
      by_cases hv : (lfault w).Code = 0
      · rw [if_neg (fun e => e hv), if_pos hv, lfault_zero hv]
      · rw [if_pos hv, if_neg hv]
    · have hlt : i < t.length := by omega
      have hlen := hs _ (List.getElem_mem hlt)
      have next : ∀ (a c : Int) (v : SMajorMinorPatchPre × Bool), ref6_LockOf_j1 n w i (ref6_LockOf_l1 n t m) a v c false = some (rdl (i + 1) (w ++ [⟨a, v.1, c⟩]) (t.drop (i + 1))) := by
        intro a c v
        unfold ref6_LockOf_j1
        rw [if_neg (by simp), etaV, gapp_ok (by simp; omega), bsome, gadd_nat (by omega), bsome, lockof_l1 hn ht hs m (i + 1) _ (by omega) (by omega) (by simp; omega)]
      have stop : ∀ (a c : Int) (v : SMajorMinorPatchPre × Bool), ref6_LockOf_j1 n w i (ref6_LockOf_l1 n t m) a v c true = some ([], ⟨1, i⟩) := by
        intro a c v
        unfold ref6_LockOf_j1 ref6_fault
        rw [if_pos rfl, bsome]
      rw [if_pos (by rw [decide_eq_true_eq]; omega), gidx_nat, getElem?_lt hlt, bsome, words_eq hn hlen, bsome, ifdec, List.drop_eq_getElem_cons hlt, rdl_cons]
      generalize t[i] = s at hlen ⊢
      obtain ⟨b1, b2⟩ := sp_bounds 32 s
      by_cases h3 : (((sp 32 s).length : Int) ≠ 3)
      · rw [if_pos h3]
        rcases rd_cases s with ⟨h1, h2⟩ | ⟨e, h1, h2, h4⟩
        · rw [h1]
          unfold ref6_fault
          rw [bsome]
        · exfalso
          rw [← h4, lws_sp h2] at h3
          exact h3 rfl
      · rw [if_neg h3]
        have h3 : (sp 32 s).length = 3 := by omega
        have hj := jn_sp 32 s
        generalize hl : sp 32 s = l at h3 b2 hj
        match l, h3, b2, hj, hl with
        | [x, y, z], _, b2, hj, hl =>
          have g0 : gidx [x, y, z] 0 = some x := rfl
          have g1 : gidx [x, y, z] 1 = some y := rfl
          have g2 : gidx [x, y, z] 2 = some z := rfl
          have lx := b2 x (by simp)
          have ly := b2 y (by simp)
          have lz := b2 z (by simp)
          have hx1 : ref5_NumberOf n x 1000000000 = some (numOf x 1000000000) := numberOf_eq (n := n) (by omega) (s := x) (by omega) (lim := 1000000000) (by omega) (by omega)
          have hz1 : ref5_NumberOf n z 2305843009213693950 = some (numOf z 2305843009213693950) := numberOf_eq (n := n) (by omega) (s := z) (by omega) (lim := 2305843009213693950) (by omega) (by omega)
          rw [g0, bsome, hx1, bsome, g1, bsome]
          rcases rd_cases s with ⟨h1, h2⟩ | ⟨e, h1, h2, h4⟩
          · rw [h1]
            by_cases hv : ∃ v, okv v ∧ vtext v = y
            · obtain ⟨v, v1, v2⟩ := hv
              have hp := rversion_ok (n := n) (by omega) v1
              rw [v2] at hp
              rw [hp, bsome, g2, bsome, hz1, bsome, ifdec]
              by_cases hx : 0 ≤ numOf x 1000000000
              · rw [if_neg (by omega), if_neg (by simp)]
                by_cases hz : 0 ≤ numOf z 2305843009213693950
                · exfalso
                  obtain ⟨u, u1, u2, u3⟩ := numOf_some hx
                  obtain ⟨q, q1, q2, q3⟩ := numOf_some hz
                  refine h2 ⟨u, v, q⟩ ⟨⟨by simp only []; omega, by simp only []; omega⟩, v1, by simp only []; omega, by simp only []; omega⟩ ?_
                  rw [← hj]
                  unfold lline lws
                  simp only [Int.toNat_natCast]
                  rw [← u2, ← q2, v2]
                · rw [decide_eq_true (show numOf z 2305843009213693950 < 0 by omega), stop]
              · rw [if_pos (by omega), stop]
            · obtain ⟨v, hp⟩ := rversion_bad (n := n) (by omega) (s := y) (by omega) (fun v v1 v2 => hv ⟨v, v1, v2⟩)
              rw [hp, bsome, g2, bsome, hz1, bsome, ifdec, if_pos (show (!(v, false).2) = true from rfl), stop]
              split <;> rfl
          · rw [h1]
            have hw2 := lws_sp h2
            rw [h4, hl] at hw2
            unfold lws at hw2
            injection hw2 with k1 k
            injection k with k2 k
            injection k with k3 _
            have hp := rversion_ok (n := n) (by omega) h2.2.1
            rw [← k2] at hp
            have ex : numOf x 1000000000 = e.Package := by rw [k1, numOf_dec (by have := h2.1; omega)]; have := h2.1; omega
            have ez : numOf z 2305843009213693950 = e.Digest := by rw [k3, numOf_dec (by have := h2.2.2; omega)]; have := h2.2.2; omega
            have p1 := h2.1.1
            have p2 := h2.2.2.1
            rw [hp, bsome, g2, bsome, hz1, bsome, ex, ez, ifdec, if_neg (by omega), if_neg (by simp), decide_eq_false (show ¬ e.Digest < 0 by omega), next]
        | [], h3, _, _, _ => simp at h3
        | [_], h3, _, _, _ => simp at h3
        | [_, _], h3, _, _, _ => simp at h3
        | _ :: _ :: _ :: _ :: _, h3, _, _, _ => simp at h3
theorem lockof_eq {n : Nat} (hn : 2000010 < n) {t : List (List UInt8)} (hs : ∀ x ∈ t, x.length ≤ 2000000) : ref6_LockOf n t = some (rdall t) := by
  unfold ref6_LockOf rdall ref6_fault
  rw [ifdec]
  by_cases h : 6 < t.length
  · rw [if_pos (by omega), if_pos h, bsome]
  · rw [if_neg (by omega), if_neg h]
    exact lockof_l1 hn (by omega) hs n 0 [] (by omega) (by omega) (by simp)
end Go.Proofs.YtpcmhhbocifbcaaGreatDoor
namespace Go.Proofs.YtpcmhhbocifbcaaGreatDoor
open Go.PW Go
theorem rdig_gen : ∀ (k n u : Nat), u < 10 ^ k → 0 < k → k ≤ n → u ≤ 4611686018427387904 → ref5_Digits n u = some (Lib.decDigits u)
  | 0, _, _, _, h, _, _ => by omega
  | k + 1, 0, _, _, _, h, _ => by omega
  | k + 1, n + 1, u, hu, _, hk, hb => by
    simp only [ref5_Digits]
    rw [ifdec]
    by_cases h : u < 10
    · rw [if_pos (by omega), gaddI (by omega), bsome, digit_cut h, bsome, Lib.decDigits_one h]
    · have hq : u / 10 < 10 ^ k := by
        rw [Nat.pow_succ] at hu
        exact Nat.div_lt_of_lt_mul (by omega)
      have hk0 : 0 < k := by
        rcases Nat.eq_zero_or_pos k with e | e
        · subst e; simp at hq; omega
        · exact e
      have ih := rdig_gen k n (u / 10) hq hk0 (by omega) (by omega)
      have e1 : gquo (u : Int) 10 = some ((u / 10 : Nat) : Int) := by
        unfold gquo
        rw [if_neg (by decide)]
        show gchk ((u / 10 : Nat) : Int) = _
        exact gchk_ok (by omega)
      have e2 : grem (u : Int) 10 = some ((u % 10 : Nat) : Int) := by
        unfold grem
        rw [if_neg (by decide)]
        rfl
      have hl := dec_len (u := u / 10) (by omega)
      rw [if_neg (by omega), e1, bsome, ih, bsome, e2, bsome, bsome, gaddI (by omega), bsome, digit_cut (Nat.mod_lt _ (by omega)), bsome, gcat_ok (by simp; omega), bsome, decDigits_step h]
theorem rdig_at {a : Int} (h : 0 ≤ a ∧ a ≤ 4611686018427387904) {n : Nat} (hn : 20 ≤ n) : ref5_Digits n a = some (Lib.decDigits a.toNat) := by
  have := rdig_gen 20 n a.toNat (by omega) (by omega) hn (by omega)
  rwa [show ((a.toNat : Nat) : Int) = a by omega] at this
theorem itoa_at {a : Int} (h : 0 ≤ a ∧ a ≤ 4611686018427387904) (n : Nat) : strconv_Itoa n a = some (Lib.decDigits a.toNat) := by
  unfold strconv_Itoa
  have := libItoa_nat (u := a.toNat) (by omega)
  rwa [show ((a.toNat : Nat) : Int) = a by omega] at this
theorem rvtext_at {n : Nat} (hn : 1000 < n) {v : SMajorMinorPatchPre} (h : okv v) : ref5_VersionText n v = some (vtext v) := by
  obtain ⟨h1, h2, h3⟩ := okv_num h
  obtain ⟨hp, hi⟩ := okv_pre h
  have l1 := dec_le h1
  have l2 := dec_le h2
  have l3 := dec_le h3
  have hx : ∀ x ∈ v.Pre, x.length ≤ 8 := fun x hx => (okb_of_ident (hi x hx)).1.2
  unfold ref5_VersionText
  rw [rdig_at (by omega) (by omega), rdig_at (by omega) (by omega), rdig_at (by omega) (by omega)]
  simp only [bsome]
  rw [gcat_ok (by simp; omega), bsome, gcat_ok (by simp; omega), bsome, gcat_ok (by simp; omega), bsome, gcat_ok (by simp; omega), bsome]
  have := vtext_l1 (n := n) v hp hx n 0 (Lib.decDigits v.Major.toNat ++ [46] ++ Lib.decDigits v.Minor.toNat ++ [46] ++ Lib.decDigits v.Patch.toNat) (by omega) (by omega) (by simp; omega)
  rw [List.drop_zero] at this
  exact this
theorem okE_of {l : List SPackageVersionDigest} (h : (lfault l).Code = 0) : ∀ e ∈ l, okE e := by
  intro e he
  obtain ⟨h1, h2, h3⟩ := (lfault_iff.1 h).2.1 e he
  exact ⟨⟨h1.1, by omega⟩, h2, h3.1, h3.2⟩
theorem lline_cat (e : SPackageVersionDigest) : Lib.decDigits e.Package.toNat ++ [32] ++ vtext e.Version ++ [32] ++ Lib.decDigits e.Digest.toNat = lline e := by
  show _ = Lib.decDigits e.Package.toNat ++ 32 :: (vtext e.Version ++ 32 :: Lib.decDigits e.Digest.toNat)
  simp
theorem write_l1 {n : Nat} (hn : 1000 < n) {l : List SPackageVersionDigest} (hl : l.length ≤ 6) (ho : ∀ e ∈ l, okE e) : ∀ (m i : Nat) (w : List (List UInt8)), i ≤ l.length → l.length - i < m → w.length ≤ i → lockfile_Write_l1 n l m w i = some (w ++ (l.drop i).map lline, ⟨0, 0⟩)
  | 0, i, _, _, h, _ => by omega
  | m + 1, i, w, hi, hm, hw => by
    simp only [lockfile_Write_l1]
    by_cases h : i = l.length
    · rw [if_neg (by rw [decide_eq_true_eq]; omega), h, List.drop_length]
      simp
    · have hlt : i < l.length := by omega
      obtain ⟨h1, h2, h3⟩ := ho _ (List.getElem_mem hlt)
      have l1 := dec_len (u := l[i].Package.toNat) (by omega)
      have l2 := vtext_80 h2
      have l3 := dec_len (u := l[i].Digest.toNat) (by omega)
      rw [if_pos (by rw [decide_eq_true_eq]; omega), gidx_nat, getElem?_lt hlt, bsome, etaV, format_eq hn h2, bsome, itoa_at (by omega), bsome, gcat_ok (by simp; omega), bsome, gcat_ok (by simp; omega), bsome, gcat_ok (by simp; omega), bsome, itoa_at (by omega), bsome, gcat_ok (by simp; omega), bsome, lline_cat, gapp_ok (by simp; omega), bsome, gadd_nat (by omega), bsome, write_l1 hn hl ho m (i + 1) _ (by omega) (by omega) (by simp; omega), List.drop_eq_getElem_cons hlt]
      rw [List.map_cons, List.append_assoc]
      rfl
theorem write_eq {n : Nat} (hn : 1000 < n) (l : List SPackageVersionDigest) : lockfile_Write n l = some (if (lfault l).Code = 0 then (l.map lline, ⟨0, 0⟩) else ([], lfault l)) := by
  unfold lockfile_Write
  rw [lvalidate_eq hn, bsome, beqL]
  by_cases h : (lfault l).Code = 0
  · rw [if_pos h, if_pos h]
    have := write_l1 hn (lfault_iff.1 h).1 (okE_of h) n 0 [] (by omega) (by have := (lfault_iff.1 h).1; omega) (by simp)
    rw [List.nil_append, List.drop_zero] at this
    exact this
  · rw [if_neg h, if_neg h]
theorem locklines_l1 {n : Nat} (hn : 1000 < n) {l : List SPackageVersionDigest} (hl : l.length ≤ 6) (ho : ∀ e ∈ l, okE e) : ∀ (m i : Nat) (w : List (List UInt8)), i ≤ l.length → l.length - i < m → w.length ≤ i → ref6_LockLines_l1 n l m w i = some (w ++ (l.drop i).map lline)
  | 0, i, _, _, h, _ => by omega
  | m + 1, i, w, hi, hm, hw => by
    simp only [ref6_LockLines_l1]
    by_cases h : i = l.length
    · rw [if_neg (by rw [decide_eq_true_eq]; omega), h, List.drop_length]
      simp
    · have hlt : i < l.length := by omega
      obtain ⟨h1, h2, h3⟩ := ho _ (List.getElem_mem hlt)
      have l1 := dec_len (u := l[i].Package.toNat) (by omega)
      have l2 := vtext_80 h2
      have l3 := dec_len (u := l[i].Digest.toNat) (by omega)
      have line : ref6_LockLine n l[i] = some (lline l[i]) := by
        unfold ref6_LockLine
        rw [etaV, rdig_at (by omega) (by omega), bsome, gcat_ok (by simp; omega), bsome, rvtext_at hn h2, bsome, gcat_ok (by simp; omega), bsome, gcat_ok (by simp; omega), bsome, rdig_at (by omega) (by omega), bsome, gcat_ok (by simp; omega), bsome, lline_cat]
      rw [if_pos (by rw [decide_eq_true_eq]; omega), gidx_nat, getElem?_lt hlt, bsome, etaE, line, bsome, gapp_ok (by simp; omega), bsome, gadd_nat (by omega), bsome, locklines_l1 hn hl ho m (i + 1) _ (by omega) (by omega) (by simp; omega), List.drop_eq_getElem_cons hlt]
      rw [List.map_cons, List.append_assoc]
      rfl
theorem locklines_eq {n : Nat} (hn : 1000 < n) {l : List SPackageVersionDigest} (h : (lfault l).Code = 0) : ref6_LockLines n l = some (l.map lline) := by
  have := locklines_l1 hn (lfault_iff.1 h).1 (okE_of h) n 0 [] (by omega) (by have := (lfault_iff.1 h).1; omega) (by simp)
  rw [List.nil_append, List.drop_zero] at this
  exact this
theorem strings_eq {n : Nat} (hn : 1000 < n) (l : List (List UInt8)) (hl : l.length ≤ 100) : ref6_Strings n l l = some true := by
  unfold ref6_Strings
  rw [if_neg (by simp)]
  refine loop_fin (l := l) (L := fun m (_ : Unit) i => ref6_Strings_l1 n l l m i) (some true) (fun _ _ => True) ?_ ?_ n () 0 trivial (by omega) (by omega)
  · intro m s i x _ hi hx
    refine ⟨(), trivial, ?_⟩
    show ref6_Strings_l1 n l l (m + 1) i = ref6_Strings_l1 n l l m _
    simp only [ref6_Strings_l1]
    rw [if_pos (by rw [decide_eq_true_eq]; omega), gidx_nat, hx, bsome, bsome, if_neg (by simp), gadd_nat (by omega), bsome]
  · intro m s _
    show ref6_Strings_l1 n l l (m + 1) _ = _
    simp only [ref6_Strings_l1]
    rw [if_neg (by rw [decide_eq_true_eq]; omega)]
theorem rdl_lines : ∀ (t : List (List UInt8)) (i : Nat) (w : List SPackageVersionDigest), (rdl i w t).2.Code = 0 → (lfault (rdl i w t).1).Code = 0 ∧ (rdl i w t).1.map lline = w.map lline ++ t ∧ (rdl i w t).2 = ⟨0, 0⟩
  | [], i, w, h => by
    unfold rdl at h ⊢
    by_cases hv : (lfault w).Code = 0
    · rw [if_pos hv] at h ⊢
      exact ⟨hv, by simp, rfl⟩
    · rw [if_neg hv] at h
      exact absurd h hv
  | s :: t, i, w, h => by
    rw [rdl_cons] at h ⊢
    rcases rd_cases s with ⟨h1, h2⟩ | ⟨e, h1, h2, h3⟩
    · rw [h1] at h
      cases h
    · rw [h1] at h ⊢
      obtain ⟨k1, k2, k3⟩ := rdl_lines t (i + 1) (w ++ [e]) h
      refine ⟨k1, ?_, k3⟩
      simp only []
      rw [k2, List.map_append, List.append_assoc, List.map_cons, List.map_nil, h3]
      rfl
theorem rdl_bad : ∀ (t : List (List UInt8)) (i : Nat) (w : List SPackageVersionDigest), (rdl i w t).2.Code ≠ 0 → (rdl i w t).1 = []
  | [], i, w, h => by
    unfold rdl at h ⊢
    by_cases hv : (lfault w).Code = 0
    · rw [if_pos hv] at h
      exact absurd rfl h
    · rw [if_neg hv]
  | s :: t, i, w, h => by
    rw [rdl_cons] at h ⊢
    rcases rd_cases s with ⟨h1, h2⟩ | ⟨e, h1, h2, h3⟩
    · rw [h1]
    · rw [h1] at h ⊢
      exact rdl_bad t (i + 1) (w ++ [e]) h
theorem rdall_ok {t : List (List UInt8)} (h : (rdall t).2.Code = 0) : (lfault (rdall t).1).Code = 0 ∧ (rdall t).1.map lline = t ∧ (rdall t).2 = ⟨0, 0⟩ := by
  unfold rdall at h ⊢
  by_cases ht : 6 < t.length
  · rw [if_pos ht] at h; cases h
  · rw [if_neg ht] at h ⊢
    exact rdl_lines t 0 [] h
theorem rdall_bad {t : List (List UInt8)} (h : (rdall t).2.Code ≠ 0) : (rdall t).1 = [] := by
  unfold rdall at h ⊢
  by_cases ht : 6 < t.length
  · rw [if_pos ht]
  · rw [if_neg ht] at h ⊢
    exact rdl_bad t 0 [] h
theorem rdl_map : ∀ (l : List SPackageVersionDigest) (i : Nat) (w : List SPackageVersionDigest), (∀ e ∈ l, okE e) → rdl i w (l.map lline) = if (lfault (w ++ l)).Code = 0 then (w ++ l, ⟨0, 0⟩) else ([], lfault (w ++ l))
  | [], i, w, _ => by
    rw [List.append_nil]
    rfl
  | e :: l, i, w, h => by
    rw [List.map_cons, rdl_cons, rd_line (h e (by simp))]
    simp only []
    rw [rdl_map l (i + 1) (w ++ [e]) (fun x hx => h x (by simp [hx])), List.append_assoc]
    rfl
theorem rdall_map {l : List SPackageVersionDigest} (h : (lfault l).Code = 0) : rdall (l.map lline) = (l, ⟨0, 0⟩) := by
  unfold rdall
  rw [if_neg (by have := (lfault_iff.1 h).1; rw [List.length_map]; omega), rdl_map l 0 [] (okE_of h), List.nil_append, if_pos h]
theorem same_self {n : Nat} (hn : 1100 < n) {l : List SPackageVersionDigest} (h : (lfault l).Code = 0) : ref6_SameLock n l l = some true := by
  have := samelock_eq hn l l (by have := (lfault_iff.1 h).1; omega) (fun x hx => okv_pre1000 ((lfault_iff.1 h).2.1 x hx).2.1)
  rw [this, decide_eq_true rfl]
theorem law_text {t : List (List UInt8)} (hs : ∀ x ∈ t, x.length ≤ 2000000) (l : List SPackageVersionDigest) : law6_LockfileTextMatchesSpec 3000000 l t = some true := by
  unfold law6_LockfileTextMatchesSpec
  rw [locks_more, bsome, if_neg (by simp)]
  obtain ⟨u, hu⟩ := wide_ex (n := 3000000) (by omega) l
  have fin : law6_LockfileTextMatchesSpec_j1 3000000 t false = some true := by
    unfold law6_LockfileTextMatchesSpec_j1 law6_LockfileTextMatchesSpec_j2
    rw [if_neg (by simp), read_eq (by omega) hs, bsome, lockof_eq (by omega) hs, bsome, beqRefl, if_pos (by decide)]
    by_cases h : (rdall t).2.Code = 0
    · rw [same_self (by omega) (rdall_ok h).1, bsome]
    · rw [rdall_bad h, same_self (by omega) (by rfl), bsome]
  rw [hu, bsome, rlvalidate_eq (by omega), bsome, write_eq (by omega), bsome]
  cases u with
  | true => rfl
  | false =>
    rw [if_neg (by simp)]
    by_cases h : (lfault l).Code = 0
    · have hz := lfault_zero h
      rw [if_pos h, hz]
      simp only []
      rw [if_neg (by decide), if_neg (by simp), if_pos (by simp), locklines_eq (by omega) h, bsome, strings_eq (by omega) _ (by have := (lfault_iff.1 h).1; rw [List.length_map]; omega), bsome]
      exact fin
    · rw [if_neg h, beqRefl]
      simp only []
      rw [if_neg (by decide), decide_eq_true h, if_pos rfl, if_neg (by simp), decide_eq_false h, if_neg (by simp)]
      exact fin
theorem law_canonical {t : List (List UInt8)} (hs : ∀ x ∈ t, x.length ≤ 2000000) (l : List SPackageVersionDigest) : law6_LockfileTextsAreCanonical 3000000 l t = some true := by
  unfold law6_LockfileTextsAreCanonical
  rw [locks_more, bsome, if_neg (by simp)]
  obtain ⟨u, hu⟩ := wide_ex (n := 3000000) (by omega) l
  have fin : law6_LockfileTextsAreCanonical_j1 3000000 t false = some true := by
    unfold law6_LockfileTextsAreCanonical_j1 law6_LockfileTextsAreCanonical_j2
    rw [if_neg (by simp), read_eq (by omega) hs, bsome, write_eq (by omega), bsome, ifdec]
    by_cases h : (rdall t).2.Code = 0
    · obtain ⟨k1, k2, k3⟩ := rdall_ok h
      rw [if_neg (fun e => e h), if_pos k1]
      simp only []
      rw [k2, if_pos (by simp), strings_eq (by omega) t (by have := (lfault_iff.1 k1).1; rw [← k2, List.length_map]; omega), bsome]
    · rw [if_pos h]
  rw [hu, bsome, write_eq (by omega), bsome]
  cases u with
  | true => rfl
  | false =>
    rw [if_neg (by simp)]
    by_cases h : (lfault l).Code = 0
    · rw [if_pos h]
      simp only []
      rw [read_eq (by omega) (fun x hx => by
        obtain ⟨e, he, rfl⟩ := List.mem_map.1 hx
        have := lline_len (okE_of h e he)
        omega), bsome, rdall_map h, if_pos (by simp)]
      simp only []
      rw [if_neg (by simp), same_self (by omega) h, bsome]
      exact fin
    · rw [if_neg h]
      simp only []
      rw [read_eq (by omega) (fun x hx => by cases hx), bsome, decide_eq_false h, if_neg (by simp)]
      exact fin
end Go.Proofs.YtpcmhhbocifbcaaGreatDoor
