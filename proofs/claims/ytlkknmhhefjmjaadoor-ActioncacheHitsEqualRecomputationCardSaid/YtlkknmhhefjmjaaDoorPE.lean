/- The plain laws: digests. -/
import Derived.Test.YtlkknmhhefjmjaaDoorPA
import Derived.Test.YtlkknmhhefjmjaaDoorPwBytes
namespace Go.Proofs.YtlkknmhhefjmjaaDoor
open Go.PW Go
def Dg (a : Int) : Prop := 0 ≤ a ∧ a < 2305843009213693951
instance (a : Int) : Decidable (Dg a) := inferInstanceAs (Decidable (_ ∧ _))
def sumOf (s : List UInt8) : Int := s.foldl (fun h b => (h * 257 + (b.toNat : Int) + 1) % 2305843009213693951) 1
def sumPair (a b : Int) : Int := (a * 1000003 + b * 31 + 7) % 2305843009213693951
def sumList (l : List (List UInt8)) : Int := l.foldl (fun h s => sumPair h (sumOf s)) 2
theorem mod_dg (a : Int) : Dg (a % 2305843009213693951) := by unfold Dg; omega
theorem grem_nn {a : Int} (h : 0 ≤ a) : grem a 2305843009213693951 = some (a % 2305843009213693951) := by
  unfold grem
  rw [if_neg (by decide), Int.tmod_eq_emod_of_nonneg h]
theorem kand1 (b : Nat) (h : b < 9223372036854775808) : kand .i64 (b : Int) 1 = ((b % 2 : Nat) : Int) := by
  unfold kand bitsOf
  have e1 : (BitVec.ofInt (IntKind.bits .i64) (b : Int) &&& BitVec.ofInt (IntKind.bits .i64) 1).toNat = b % 2 := by
    show (BitVec.ofInt 64 (b : Int) &&& BitVec.ofInt 64 1).toNat = b % 2
    rw [BitVec.toNat_and, BitVec.ofInt_natCast, BitVec.toNat_ofNat, Nat.mod_eq_of_lt (by omega)]
    exact Nat.and_one_is_mod b
  rw [e1, IntKind.wrap_i64]
  omega
theorem kshr1 (b : Nat) : kshr .i64 (b : Int) 1 = ((b / 2 : Nat) : Int) := by
  unfold kshr
  have : (2 : Int) ^ min 1 (IntKind.bits .i64) = 2 := rfl
  rw [this, Int.fdiv_eq_ediv_of_nonneg _ (by decide)]
  omega
theorem mod_step (s a b : Int) : (s % 2305843009213693951 + (a % 2305843009213693951) * b) % 2305843009213693951 = (s + a * b) % 2305843009213693951 := by
  rw [Int.add_emod, Int.emod_emod, Int.mul_emod (a % 2305843009213693951) b, Int.emod_emod, ← Int.mul_emod, ← Int.add_emod]
theorem mod_step' (s a b : Int) : (s + (a % 2305843009213693951) * b) % 2305843009213693951 = (s + a * b) % 2305843009213693951 := by
  rw [Int.add_emod, Int.mul_emod (a % 2305843009213693951) b, Int.emod_emod, ← Int.mul_emod, ← Int.add_emod]
theorem mul_l : ∀ (m k b : Nat) (a s : Int), k < m → b < 2 ^ k → k ≤ 60 → Dg a → Dg s → digest_mul_l1 200 m a (b : Int) s = some ((s + a * b) % 2305843009213693951) := by
  intro m
  induction m with
  | zero => intro k b a s h; omega
  | succ m ih =>
    intro k b a s hk hb hk60 ha hs
    have hb63 : b < 9223372036854775808 := Nat.lt_of_lt_of_le hb (Nat.le_trans (Nat.pow_le_pow_right (by decide) hk60) (by decide))
    unfold Dg at ha hs
    rw [digest_mul_l1]
    by_cases h0 : b = 0
    · subst h0
      rw [if_neg (by simp)]
      unfold digest_mul_j1
      rw [Int.emod_eq_of_lt (by simp; omega) (by simp; omega)]
      simp
    · rw [if_pos (by simp; omega), kand1 b hb63]
      obtain ⟨k, rfl⟩ : ∃ j, k = j + 1 := ⟨k - 1, by
        cases k with
        | zero => simp at hb; omega
        | succ k => omega⟩
      have hb2 : b / 2 < 2 ^ k := by rw [Nat.pow_succ] at hb; omega
      have hda := mod_dg (2 * a)
      by_cases hbit : b % 2 = 1
      · rw [if_pos (by simp [hbit]), gaddI (by omega), bsome, grem_nn (by omega), bsome]
        unfold digest_mul_j2
        rw [gmulI (by omega), bsome, grem_nn (by omega), bsome, kshr1, ih k (b / 2) _ _ (by omega) hb2 (by omega) hda (mod_dg _), mod_step]
        congr 2
        have : (b : Int) = 2 * ((b / 2 : Nat) : Int) + 1 := by omega
        rw [this, Int.mul_add, Int.mul_one, Int.add_assoc, Int.add_comm (a * _), ← Int.mul_assoc, Int.mul_comm a 2]
      · rw [if_neg (by simp; omega)]
        unfold digest_mul_j2
        rw [gmulI (by omega), bsome, grem_nn (by omega), bsome, kshr1, ih k (b / 2) _ _ (by omega) hb2 (by omega) hda hs, mod_step']
        congr 2
        have : (b : Int) = 2 * ((b / 2 : Nat) : Int) := by omega
        rw [this, ← Int.mul_assoc, Int.mul_comm a 2]
theorem mul_eq (a : Int) (b : Nat) (hb : b < 2 ^ 60) (ha : Dg a) : digest_mul 200 a (b : Int) = some ((a * b) % 2305843009213693951) := by
  unfold digest_mul
  rw [mul_l 200 60 b a 0 (by omega) hb (by omega) ha (by unfold Dg; omega), Int.zero_add]
theorem next_eq (a c : Int) (b : Nat) (hb : b < 2 ^ 60) (ha : Dg a) (hc : Dg c) : digest_next 200 ⟨a, c⟩ (b : Int) = some ((a * b + c) % 2305843009213693951) := by
  unfold digest_next
  have h1 := mod_dg (a * b)
  rw [mul_eq a b hb ha, bsome]
  unfold Dg at h1 hc
  rw [gaddI (by simp only []; omega), bsome, grem_nn (by simp only []; omega), bsome]
  congr 1
  exact Int.emod_add_emod _ _ _
theorem wrap_u8 (b : UInt8) : IntKind.wrap .i64 (b.toNat : Int) = (b.toNat : Int) := by
  rw [IntKind.wrap_i64]
  have := b.toNat_lt
  omega
theorem bts_get (s : List UInt8) (i : Nat) (h : i < s.length) : (bts s)[i]? = some ((s[i].toNat : Nat) : Int) := by
  unfold bts
  rw [List.getElem?_map, getElem?_lt h]; rfl
theorem bts_len (s : List UInt8) : (bts s).length = s.length := by simp [bts]
theorem foldl_snoc {α β : Type} (f : β → α → β) (z : β) (l : List α) (i : Nat) (h : i < l.length) : (l.take (i + 1)).foldl f z = f ((l.take i).foldl f z) l[i] := by
  rw [List.take_add_one, getElem?_lt h, List.foldl_append]; rfl
theorem sumOf_dg (s : List UInt8) : Dg (sumOf s) := by
  unfold sumOf
  rcases List.eq_nil_or_concat s with rfl | ⟨l, x, rfl⟩
  · unfold Dg; simp
  · rw [List.concat_eq_append, List.foldl_append]; exact mod_dg _
theorem sumPair_dg (a b : Int) : Dg (sumPair a b) := mod_dg _
theorem sumList_dg (l : List (List UInt8)) : Dg (sumList l) := by
  unfold sumList
  rcases List.eq_nil_or_concat l with rfl | ⟨l, x, rfl⟩
  · unfold Dg; simp
  · rw [List.concat_eq_append, List.foldl_append]; exact sumPair_dg _ _
theorem of_l (s : List UInt8) (hl : s.length ≤ 100) : ∀ (m i : Nat), s.length - i < m → i ≤ s.length → digest_Of_l1 200 (bts s) m (sumOf (s.take i)) (i : Int) = some (sumOf s, ⟨0, 0⟩) := by
  intro m
  induction m with
  | zero => intro i h; omega
  | succ m ih =>
    intro i h hil
    rw [digest_Of_l1]
    by_cases hlt : i < s.length
    · have hb := s[i].toNat_lt
      rw [if_pos (by rw [bts_len]; simp; omega), gidx_nat, bts_get s i hlt, bsome, wrap_u8, gaddI (by omega), bsome]
      have hd := sumOf_dg (s.take i)
      have hn := next_eq (sumOf (s.take i)) ((s[i].toNat : Int) + 1) 257 (by decide) hd (by unfold Dg; omega)
      rw [show ((257 : Nat) : Int) = 257 from rfl] at hn
      rw [hn, bsome, gadd_nat (by omega), bsome]
      have := ih (i + 1) (by omega) (by omega)
      have e1 : sumOf (s.take (i + 1)) = (sumOf (s.take i) * 257 + ((s[i].toNat : Int) + 1)) % 2305843009213693951 := by
        unfold sumOf
        rw [foldl_snoc _ _ _ _ hlt, Int.add_assoc]
      rw [e1] at this
      exact this
    · rw [if_neg (by rw [bts_len]; simp; omega), List.take_of_length_le (by omega)]
theorem of_eq (s : List UInt8) (hl : s.length ≤ 100) : digest_Of 200 (bts s) = some (sumOf s, ⟨0, 0⟩) := by
  unfold digest_Of
  rw [if_neg (by rw [bts_len]; simp; omega)]
  exact of_l s hl 200 0 (by omega) (by omega)
theorem pair_eq (a b : Int) (ha : Dg a) (hb : Dg b) : digest_pair 200 a b = some (sumPair a b) := by
  unfold digest_pair
  have h1 := next_eq b 7 31 (by decide) hb (by unfold Dg; omega)
  rw [show ((31 : Nat) : Int) = 31 from rfl] at h1
  rw [h1, bsome]
  have h2 := next_eq a ((b * 31 + 7) % 2305843009213693951) 1000003 (by decide) ha (mod_dg _)
  rw [show ((1000003 : Nat) : Int) = 1000003 from rfl] at h2
  rw [h2, bsome]
  unfold sumPair
  congr 1
  rw [Int.add_emod_emod, Int.add_assoc]
def Ln (l : List (List UInt8)) : Prop := l.length ≤ 120 ∧ ∀ s ∈ l, s.length ≤ 80
theorem strs_l (l : List (List UInt8)) (hl : Ln l) : ∀ (m i : Nat), l.length - i < m → i ≤ l.length → digest_Strings_l1 200 l m (sumList (l.take i)) (i : Int) = some (sumList l, ⟨0, 0⟩) := by
  intro m
  induction m with
  | zero => intro i h; omega
  | succ m ih =>
    intro i h hil
    rw [digest_Strings_l1]
    have h120 := hl.1
    by_cases hlt : i < l.length
    · have h80 := hl.2 _ (List.getElem_mem hlt)
      rw [if_pos (lt_dec hlt), gidx_nat, getElem?_lt hlt, bsome, of_eq _ (by omega), bsome, if_neg fault_none, pair_eq _ _ (sumList_dg _) (sumOf_dg _), bsome, gadd_nat (by omega), bsome]
      have := ih (i + 1) (by omega) (by omega)
      have e1 : sumList (l.take (i + 1)) = sumPair (sumList (l.take i)) (sumOf l[i]) := by
        unfold sumList
        rw [foldl_snoc _ _ _ _ hlt]
      rw [e1] at this
      exact this
    · rw [if_neg (nlt_dec hlt), List.take_of_length_le (by omega)]
theorem strs_eq (l : List (List UInt8)) (hl : Ln l) : digest_Strings 200 l = some (sumList l, ⟨0, 0⟩) := by
  unfold digest_Strings
  have h120 := hl.1
  rw [if_neg (by simp; omega)]
  exact strs_l l hl 200 0 (by omega) (by omega)
theorem times_l : ∀ (m k b : Nat) (a s : Int), k < m → b < 2 ^ k → k ≤ 60 → Dg a → Dg s → ref1_times_l1 200 m a (b : Int) s = some ((s + a * b) % 2305843009213693951) := by
  intro m
  induction m with
  | zero => intro k b a s h; omega
  | succ m ih =>
    intro k b a s hk hb hk60 ha hs
    unfold Dg at ha hs
    rw [ref1_times_l1]
    by_cases h0 : b = 0
    · subst h0
      rw [if_neg (by simp)]
      unfold ref1_times_j1
      rw [Int.emod_eq_of_lt (by simp; omega) (by simp; omega)]
      simp
    · have hb63 : b < 9223372036854775808 := Nat.lt_of_lt_of_le hb (Nat.le_trans (Nat.pow_le_pow_right (by decide) hk60) (by decide))
      have hr : grem (b : Int) 2 = some ((b % 2 : Nat) : Int) := by
        unfold grem
        rw [if_neg (by decide), Int.tmod_eq_emod_of_nonneg (by omega)]; rfl
      have hq : gquo (b : Int) 2 = some ((b / 2 : Nat) : Int) := by
        unfold gquo
        rw [if_neg (by decide), Int.tdiv_eq_ediv_of_nonneg (by omega), gchk_ok (by omega)]; rfl
      rw [if_pos (by simp; omega), hr, bsome]
      obtain ⟨k, rfl⟩ : ∃ j, k = j + 1 := ⟨k - 1, by
        cases k with
        | zero => simp at hb; omega
        | succ k => omega⟩
      have hb2 : b / 2 < 2 ^ k := by rw [Nat.pow_succ] at hb; omega
      have hda := mod_dg (a + a)
      by_cases hbit : b % 2 = 1
      · rw [if_pos (by simp [hbit]), gaddI (by omega), bsome, grem_nn (by omega), bsome]
        unfold ref1_times_j2
        rw [gaddI (by omega), bsome, grem_nn (by omega), bsome, hq, bsome]
        rw [ih k (b / 2) ((a + a) % 2305843009213693951) ((s + a) % 2305843009213693951) (by omega) hb2 (by omega) hda (mod_dg _), mod_step]
        refine congrArg (fun z => some (z % 2305843009213693951)) ?_
        have : (b : Int) = 2 * ((b / 2 : Nat) : Int) + 1 := by omega
        rw [this, Int.mul_add, Int.mul_one, Int.add_assoc, Int.add_comm (a * _), ← Int.mul_assoc, Int.mul_comm a 2, Int.two_mul]
      · rw [if_neg (by simp; omega)]
        unfold ref1_times_j2
        rw [gaddI (by omega), bsome, grem_nn (by omega), bsome, hq, bsome]
        rw [ih k (b / 2) ((a + a) % 2305843009213693951) s (by omega) hb2 (by omega) hda hs, mod_step']
        refine congrArg (fun z => some (z % 2305843009213693951)) ?_
        have : (b : Int) = 2 * ((b / 2 : Nat) : Int) := by omega
        rw [this, ← Int.mul_assoc, Int.mul_comm a 2, Int.two_mul]
theorem times_eq (a : Int) (b : Nat) (hb : b < 2 ^ 60) (ha : Dg a) : ref1_times 200 a (b : Int) = some ((a * b) % 2305843009213693951) := by
  unfold ref1_times
  rw [times_l 200 60 b a 0 (by omega) hb (by omega) ha (by unfold Dg; omega), Int.zero_add]
theorem rpair_eq (a b : Int) (ha : Dg a) (hb : Dg b) : ref1_DigestPair 200 a b = some (sumPair a b) := by
  unfold ref1_DigestPair
  have h1 := times_eq a 1000003 (by decide) ha
  have h2 := times_eq b 31 (by decide) hb
  rw [show ((1000003 : Nat) : Int) = 1000003 from rfl] at h1
  rw [show ((31 : Nat) : Int) = 31 from rfl] at h2
  have d1 := mod_dg (a * 1000003)
  have d2 := mod_dg (b * 31)
  unfold Dg at d1 d2
  rw [h1, bsome, h2, bsome, gaddI (by omega), bsome, gaddI (by omega), bsome, grem_nn (by omega), bsome]
  unfold sumPair
  congr 1
  omega
theorem rof_l (s : List UInt8) (hl : s.length ≤ 100) : ∀ (m i : Nat), s.length - i < m → i ≤ s.length → ref1_DigestOf_l1 200 (bts s) m (sumOf (s.take i)) (i : Int) = some (sumOf s) := by
  intro m
  induction m with
  | zero => intro i h; omega
  | succ m ih =>
    intro i h hil
    rw [ref1_DigestOf_l1]
    by_cases hlt : i < s.length
    · have hb := s[i].toNat_lt
      have hn := times_eq (sumOf (s.take i)) 257 (by decide) (sumOf_dg _)
      rw [show ((257 : Nat) : Int) = 257 from rfl] at hn
      have d1 := mod_dg (sumOf (s.take i) * 257)
      unfold Dg at d1
      rw [if_pos (by rw [bts_len]; simp; omega), hn, bsome, gidx_nat, bts_get s i hlt, bsome, wrap_u8, gaddI (by omega), bsome, gaddI (by omega), bsome, grem_nn (by omega), bsome, gadd_nat (by omega), bsome]
      have := ih (i + 1) (by omega) (by omega)
      have e1 : sumOf (s.take (i + 1)) = (sumOf (s.take i) * 257 % 2305843009213693951 + (s[i].toNat : Int) + 1) % 2305843009213693951 := by
        unfold sumOf
        rw [foldl_snoc _ _ _ _ hlt, Int.add_assoc (_ % _), Int.emod_add_emod, Int.add_assoc]
      rw [e1] at this
      exact this
    · rw [if_neg (by rw [bts_len]; simp; omega), List.take_of_length_le (by omega)]
theorem rof_eq (s : List UInt8) (hl : s.length ≤ 100) : ref1_DigestOf 200 (bts s) = some (sumOf s) := rof_l s hl 200 0 (by omega) (by omega)
theorem rstrs_l (l : List (List UInt8)) (hl : Ln l) : ∀ (m i : Nat), l.length - i < m → i ≤ l.length → ref1_DigestStrings_l1 200 l m (sumList (l.take i)) (i : Int) = some (sumList l, ⟨0, 0⟩) := by
  intro m
  induction m with
  | zero => intro i h; omega
  | succ m ih =>
    intro i h hil
    rw [ref1_DigestStrings_l1]
    have h120 := hl.1
    by_cases hlt : i < l.length
    · have h80 := hl.2 _ (List.getElem_mem hlt)
      rw [if_pos (lt_dec hlt), gidx_nat, getElem?_lt hlt, bsome, if_neg (by simp; omega), rof_eq _ (by omega), bsome, rpair_eq _ _ (sumList_dg _) (sumOf_dg _), bsome, gadd_nat (by omega), bsome]
      have := ih (i + 1) (by omega) (by omega)
      have e1 : sumList (l.take (i + 1)) = sumPair (sumList (l.take i)) (sumOf l[i]) := by
        unfold sumList
        rw [foldl_snoc _ _ _ _ hlt]
      rw [e1] at this
      exact this
    · rw [if_neg (nlt_dec hlt), List.take_of_length_le (by omega)]
theorem stringsSum_eq (l : List (List UInt8)) (hl : Ln l) : ref6_stringsSum 200 l = some (sumList l) := by
  unfold ref6_stringsSum ref1_DigestStrings
  have h120 := hl.1
  have := rstrs_l l hl 200 0 (by omega) (by omega)
  rw [List.take_zero] at this
  rw [if_neg (by simp; omega)]
  rw [show sumList [] = 2 from rfl] at this
  rw [show ((0 : Nat) : Int) = 0 from rfl] at this
  rw [this, bsome]
end Go.Proofs.YtlkknmhhefjmjaaDoor
namespace Go.Proofs.YtlkknmhhefjmjaaDoor
open Go.PW Go
theorem linesV_80 (l : List (List UInt8)) (hl : l.length ≤ 120) : ∀ (m i : Nat), l.length - i < m → lines_Validate_l1 200 l m (i : Int) = some ⟨0, 0⟩ → ∀ s ∈ l.drop i, s.length ≤ 80 := by
  intro m
  induction m with
  | zero => intro i h; omega
  | succ m ih =>
    intro i h h0 s hs
    rw [lines_Validate_l1] at h0
    by_cases hlt : i < l.length
    · rw [if_pos (lt_dec hlt), gidx_nat, getElem?_lt hlt, bsome] at h0
      by_cases h80 : 80 < l[i].length
      · rw [if_pos (by simp; omega)] at h0
        have := congrArg SCodeIndex.Code (Option.some.inj h0)
        simp at this
      · rw [if_neg (by simp; omega)] at h0
        unfold strings_IndexByte at h0
        rw [bsome] at h0
        split at h0
        · have := congrArg SCodeIndex.Code (Option.some.inj h0)
          simp at this
        · rw [gadd_nat (by omega), bsome] at h0
          rw [List.drop_eq_getElem_cons hlt] at hs
          rcases List.mem_cons.1 hs with rfl | hs
          · omega
          · exact ih (i + 1) (by omega) h0 s hs
    · rw [List.drop_of_length_le (by omega)] at hs
      cases hs
theorem lines_ln {l : List (List UInt8)} (h : lines_Validate 200 l = some ⟨0, 0⟩) : Ln l := by
  have hl := lines_len h
  unfold lines_Validate at h
  rw [if_neg (by simp; omega)] at h
  exact ⟨hl, fun s hs => linesV_80 l hl 200 0 (by omega) h s (by simpa using hs)⟩
structure TGood (t : SFiles) : Prop where
  len : t.Files.length ≤ 24
  ok : TreeOk t.Files
  rise : Rise t.Files
theorem TGood.lns {t : SFiles} (h : TGood t) {f : SPathLines} (hf : f ∈ t.Files) : Ln f.Lines := lines_ln (h.ok.2 f hf).2
def fileOf (t : SFiles) (p : List UInt8) : Option (List (List UInt8)) := (getK SPathLines.Path p t.Files).map (·.Lines)
theorem getK_first (fs : List SPathLines) (p : List UInt8) (i : Nat) (_ : SPathLines) (h : i < fs.length) : getK SPathLines.Path p (fs.drop i) = if fs[i].Path = p then some fs[i] else getK SPathLines.Path p (fs.drop (i + 1)) := by
  rw [List.drop_eq_getElem_cons h]; rfl
theorem fileIn_l2 (t : SFiles) (p : List UInt8) (hl : t.Files.length ≤ 24) : ∀ (m i : Nat), t.Files.length - i < m →
    ref6_FileIn_l1 200 t p m (i : Int) = some ((((getK SPathLines.Path p (t.Files.drop i)).map (·.Lines)).getD []), (getK SPathLines.Path p (t.Files.drop i)).isSome) := by
  intro m
  induction m with
  | zero => intro i h; omega
  | succ m ih =>
    intro i h
    rw [ref6_FileIn_l1]
    by_cases hlt : i < t.Files.length
    · rw [if_pos (lt_dec hlt), gidx_nat, getElem?_lt hlt, bsome, getK_first _ _ _ t.Files[i] hlt]
      by_cases he : t.Files[i].Path = p
      · rw [if_pos (by simpa using he), if_pos he]; rfl
      · rw [if_neg (by simpa using he), if_neg he, gadd_nat (by omega), bsome]
        exact ih (i + 1) (by omega)
    · rw [if_neg (nlt_dec hlt), List.drop_of_length_le (by omega)]; rfl
theorem fileIn_eq (t : SFiles) (p : List UInt8) (hl : t.Files.length ≤ 24) : ref6_FileIn 200 t p = some ((fileOf t p).getD [], (fileOf t p).isSome) := by
  have := fileIn_l2 t p hl 200 0 (by omega)
  unfold ref6_FileIn fileOf
  rw [List.drop_zero] at this
  rw [show ((0 : Nat) : Int) = 0 from rfl] at this
  rw [this]; simp
theorem TGood.rises {t : SFiles} (h : TGood t) : Rises Op.bytesLess SPathLines.Path t.Files := h.ok.1.imp fun hab => hab.1
theorem find_good (t : SFiles) (h : TGood t) (p : List UInt8) : ∃ (k : Nat) (b : Bool), treepatch_Find 200 t.Files p = some ((k : Int), b) ∧ (b = (fileOf t p).isSome) ∧ (b = true → ∃ hk : k < t.Files.length, fileOf t p = some (t.Files[k]).Lines) := by
  obtain ⟨k, b, h1, h2, h3⟩ := find_spec t.Files p h.len h.rise
  cases b with
  | true =>
    obtain ⟨hk, hp⟩ := h2 rfl
    have hg := getK_of_mem totalBytes h.rises (List.getElem_mem hk)
    rw [hp] at hg
    have : fileOf t p = some (t.Files[k]).Lines := by unfold fileOf; rw [hg]; rfl
    exact ⟨k, true, h1, by rw [this]; rfl, fun _ => ⟨hk, this⟩⟩
  | false =>
    have : getK SPathLines.Path p t.Files = none := getK_none.2 (h3 rfl)
    exact ⟨k, false, h1, by unfold fileOf; rw [this]; rfl, fun h => by cases h⟩
end Go.Proofs.YtlkknmhhefjmjaaDoor
namespace Go.Proofs.YtlkknmhhefjmjaaDoor
open Go.PW Go
def ltI (a b : Int) : Bool := decide (a < b)
theorem totI : TotalLt ltI := totalInt
structure CGood (c : List SKeyLines) : Prop where
  len : c.length ≤ 16
  rise : Rises ltI SKeyLines.Key c
  keys : ∀ e ∈ c, Dg e.Key
  lines : ∀ e ∈ c, lines_Validate 200 e.Lines = some ⟨0, 0⟩
theorem isDig (a : Int) : signing_IsDigest 200 a = some (decide (Dg a)) := by
  unfold signing_IsDigest signing_IsDigest_j1 Dg
  by_cases h : 0 ≤ a <;> simp [h]
theorem isDig5 (a : Int) : ref5_IsDigest 200 a = some (decide (Dg a)) := by
  unfold ref5_IsDigest ref5_in ref5_in_j1 Dg
  by_cases h : 0 ≤ a
  · rw [if_pos (by simpa using h), bsome]
    congr 1
    simp only [h, true_and]
    exact decide_eq_decide.2 (by omega)
  · rw [if_neg (by simpa using h), bsome]
    simp [h]
theorem second_good (l : List (List UInt8)) (k : Int) : (lines_Validate 200 l = some ⟨0, 0⟩ ∧ lines_Second 200 l k = some ⟨0, 0⟩ ∧ ref6_lineCode 200 l = some 0) ∨ ∃ c, c ≠ 0 ∧ lines_Validate 200 l ≠ some ⟨0, 0⟩ ∧ lines_Second 200 l k = some ⟨c, k⟩ ∧ ref6_lineCode 200 l = some c := by
  obtain ⟨r, h1, h2⟩ := linesV l
  rw [lineCode_eq, h1]
  unfold lines_Second
  rw [h1, bsome]
  rcases h2 with rfl | h2
  · rw [if_neg fault_none]; exact .inl ⟨rfl, rfl, rfl⟩
  · rw [if_pos (fault_ne h2)]
    exact .inr ⟨r.Code, h2, fun h => h2 (congrArg SCodeIndex.Code (Option.some.inj h)), rfl, rfl⟩
theorem cval_l (c : List SKeyLines) (hl : c.length ≤ 16) : ∀ (m i : Nat), c.length - i < m → ∃ r, actioncache_Validate_l1 200 c m (i : Int) = some r ∧ ref6_CacheFault_l1 200 c m (i : Int) = some r ∧ Fine r ∧
    (r = ⟨0, 0⟩ ↔ ∀ (j : Nat) (hj : j < c.length), i ≤ j → Dg c[j].Key ∧ lines_Validate 200 c[j].Lines = some ⟨0, 0⟩ ∧ ∀ (h0 : 0 < j), c[j - 1].Key < c[j].Key) := by
  intro m
  induction m with
  | zero => intro i h; omega
  | succ m ih =>
    intro i h
    rw [actioncache_Validate_l1, ref6_CacheFault_l1]
    by_cases hlt : i < c.length
    · have bad : ∀ r : SCodeIndex, r.Code ≠ 0 → ¬ (Dg c[i].Key ∧ lines_Validate 200 c[i].Lines = some ⟨0, 0⟩ ∧ ∀ (h0 : 0 < i), c[i - 1].Key < c[i].Key) →
          (r = ⟨0, 0⟩ ↔ ∀ (j : Nat) (hj : j < c.length), i ≤ j → Dg c[j].Key ∧ lines_Validate 200 c[j].Lines = some ⟨0, 0⟩ ∧ ∀ (h0 : 0 < j), c[j - 1].Key < c[j].Key) :=
        fun r hr hn => ⟨fun h => absurd (congrArg SCodeIndex.Code h) hr, fun h => absurd (h i hlt (Nat.le_refl _)) hn⟩
      simp only [lt_dec hlt, if_true, gidx_nat, getElem?_lt hlt, bsome, isDig, isDig5]
      by_cases hd : Dg c[i].Key
      · simp only [decide_eq_true hd, Bool.not_true, Bool.false_eq_true, if_false]
        have tail : (∀ (h0 : 0 < i), c[i - 1].Key < c[i].Key) → ∃ r, actioncache_Validate_j1 200 (i : Int) (actioncache_Validate_l1 200 c m) c[i] false = some r ∧ ref6_CacheFault_j1 200 (i : Int) (ref6_CacheFault_l1 200 c m) c[i] false = some r ∧ Fine r ∧
            (r = ⟨0, 0⟩ ↔ ∀ (j : Nat) (hj : j < c.length), i ≤ j → Dg c[j].Key ∧ lines_Validate 200 c[j].Lines = some ⟨0, 0⟩ ∧ ∀ (h0 : 0 < j), c[j - 1].Key < c[j].Key) := by
          intro hp
          unfold actioncache_Validate_j1 ref6_CacheFault_j1 ref6_fault
          rw [if_neg (by decide), if_neg (by decide)]
          rcases second_good c[i].Lines (i : Int) with ⟨h1, h2, h3⟩ | ⟨k, h0, h1, h2, h3⟩
          · rw [h2, h3, bsome, bsome, if_neg fault_none, if_neg (by decide), gadd_nat (by omega), bsome, bsome]
            obtain ⟨r, r1, r2, r3, r4⟩ := ih (i + 1) (by omega)
            refine ⟨r, r1, r2, r3, r4.trans ⟨fun h j hj hij => ?_, fun h j hj hij => h j hj (by omega)⟩⟩
            by_cases he : j = i
            · subst he; exact ⟨hd, h1, hp⟩
            · exact h j hj (by omega)
          · rw [h2, h3, bsome, bsome, if_pos (fault_ne (r := ⟨k, i⟩) h0), if_pos (by simpa using h0), bsome]
            exact ⟨_, rfl, rfl, .inr h0, bad _ h0 fun h => h1 h.2.1⟩
        by_cases h0 : 0 < i
        · have h0' : decide (0 < (i : Int)) = true := by simp; omega
          have g1 : gsub (i : Int) 1 = some ((i - 1 : Nat) : Int) := by rw [gsubI (by omega)]; congr 1; omega
          simp only [h0', eq_self, if_true, g1, bsome, gidx_nat, getElem?_lt (show i - 1 < c.length by omega)]
          by_cases hk : c[i].Key ≤ (c[i - 1]'(by omega)).Key
          · rw [decide_eq_true hk]
            unfold actioncache_Validate_j1 ref6_CacheFault_j1 ref6_fault
            rw [if_pos rfl, if_pos rfl, bsome]
            exact ⟨_, rfl, rfl, .inr (by simp), bad _ (by simp) fun h => by have := h.2.2 h0; omega⟩
          · rw [decide_eq_false hk]
            exact tail fun _ => by omega
        · have h0' : decide (0 < (i : Int)) = false := by simp; omega
          simp only [h0', Bool.false_eq_true, if_false]
          exact tail fun h => absurd h h0
      · simp only [decide_eq_false hd, Bool.not_false, eq_self, if_true]
        unfold ref6_fault
        rw [bsome]
        exact ⟨_, rfl, rfl, .inr (by simp), bad _ (by simp) fun h => hd h.1⟩
    · rw [if_neg (nlt_dec hlt), if_neg (nlt_dec hlt)]
      exact ⟨_, rfl, rfl, .none, fun _ j hj hij => by omega, fun _ => rfl⟩
theorem riseI_of {c : List SKeyLines} (h : ∀ (j : Nat) (hj : j < c.length) (h0 : 0 < j), c[j - 1].Key < c[j].Key) : Rises ltI SKeyLines.Key c := by
  unfold Rises ltI
  rw [List.pairwise_iff_getElem]
  intro i j hi hj hij
  obtain ⟨d, rfl⟩ : ∃ d, j = i + 1 + d := ⟨j - (i + 1), by omega⟩
  simp only [decide_eq_true_eq]
  induction d with
  | zero => exact h (i + 1) hj (by omega)
  | succ d ih =>
    have h1 := ih (by omega) (by omega)
    have h2 := h (i + 1 + (d + 1)) hj (by omega)
    have e : c[i + 1 + (d + 1) - 1].Key = (c[i + 1 + d]'(by omega)).Key := rfl
    omega
theorem cval_eq (c : List SKeyLines) : ∃ r, actioncache_Validate 200 c = some r ∧ ref6_CacheFault 200 c = some r ∧ Fine r ∧ (r = ⟨0, 0⟩ ↔ CGood c) := by
  unfold actioncache_Validate ref6_CacheFault
  by_cases hl : 16 < c.length
  · rw [if_pos (by simp; omega), if_pos (by simp; omega)]
    unfold ref6_fault
    rw [bsome]
    exact ⟨_, rfl, rfl, .inr (by simp), fun h => (by cases h), fun h => by have := h.len; omega⟩
  · rw [if_neg (by simp; omega), if_neg (by simp; omega)]
    obtain ⟨r, r1, r2, r3, r4⟩ := cval_l c (by omega) 200 0 (by omega)
    refine ⟨r, r1, r2, r3, r4.trans ⟨fun h => ⟨by omega, riseI_of fun j hj h0 => (h j hj (by omega)).2.2 h0, ?_, ?_⟩, fun h j hj _ => ⟨h.keys _ (List.getElem_mem hj), h.lines _ (List.getElem_mem hj), fun h0 => ?_⟩⟩⟩
    · intro e he
      obtain ⟨j, hj, rfl⟩ := List.getElem_of_mem he
      exact (h j hj (by omega)).1
    · intro e he
      obtain ⟨j, hj, rfl⟩ := List.getElem_of_mem he
      exact (h j hj (by omega)).2.1
    · have := (List.pairwise_iff_getElem.1 h.rise) (j - 1) j (by omega) hj (by omega)
      simpa [ltI] using this
theorem cvalid_of {c : List SKeyLines} (h : CGood c) : actioncache_Validate 200 c = some ⟨0, 0⟩ := by
  obtain ⟨r, r1, _, _, r4⟩ := cval_eq c
  rw [r1, r4.2 h]
theorem CGood.ln {c : List SKeyLines} (h : CGood c) {e : SKeyLines} (he : e ∈ c) : Ln e.Lines := lines_ln (h.lines e he)
theorem getK_where {c : List SKeyLines} (hr : Rises ltI SKeyLines.Key c) (x : Int) (k : Nat) (hlo : ∀ (p : Nat) (hp : p < c.length), p < k → c[p].Key < x) (hhi : ∀ (hk : k < c.length), ¬ c[k].Key < x) :
    getK SKeyLines.Key x c = if h : k < c.length then (if c[k].Key = x then some c[k] else none) else none := by
  have other : (∀ (hk : k < c.length), c[k].Key ≠ x) → getK SKeyLines.Key x c = none := by
    intro hne
    refine getK_none.2 fun y hy => ?_
    obtain ⟨p, hp, rfl⟩ := List.getElem_of_mem hy
    rcases Nat.lt_trichotomy p k with h | h | h
    · have := hlo p hp h; omega
    · subst h; exact hne hp
    · have h1 := (List.pairwise_iff_getElem.1 hr) k p (by omega) hp h
      have h2 := hhi (by omega)
      simp [ltI] at h1
      omega
  split
  · rename_i h
    split
    · rename_i he
      have := getK_of_mem totI hr (List.getElem_mem h)
      rw [he] at this
      exact this
    · rename_i he
      exact other fun _ => he
  · rename_i h
    exact other fun hk => absurd hk h
theorem cfind_l (c : List SKeyLines) (x : Int) (hl : c.length ≤ 16) (hr : Rises ltI SKeyLines.Key c) : ∀ (m i j : Nat), i ≤ j → j ≤ c.length → j - i < m → (∀ (p : Nat) (hp : p < c.length), p < i → c[p].Key < x) → (∀ (p : Nat) (hp : p < c.length), j ≤ p → ¬ c[p].Key < x) →
    ∃ (k : Nat), k ≤ c.length ∧ actioncache_find_l1 200 c x m (i : Int) (j : Int) = some ((k : Int), (getK SKeyLines.Key x c).isSome) ∧ (∀ (p : Nat) (hp : p < c.length), p < k → c[p].Key < x) ∧ (∀ (hk : k < c.length), ¬ c[k].Key < x) := by
  have hpair := List.pairwise_iff_getElem.1 hr
  intro m
  induction m with
  | zero => intro i j _ _ h; omega
  | succ m ih =>
    intro i j hij hj h hlo hhi
    rw [actioncache_find_l1]
    by_cases hlt : i < j
    · have hmid : (i + j) / 2 < c.length := by omega
      rw [if_pos (lt_dec hlt), gaddI (by omega), bsome]
      have e1 : (i : Int) + (j : Int) = ((i + j : Nat) : Int) := by omega
      rw [e1, half _ (by omega), gidx_nat, getElem?_lt hmid, bsome]
      unfold actioncache_find_j5
      rw [half _ (by omega)]
      by_cases hc : c[(i + j) / 2].Key < x
      · rw [if_pos (by simpa using hc), if_pos (by decide), gadd_nat (by omega), bsome]
        refine ih ((i + j) / 2 + 1) j (by omega) hj (by omega) ?_ hhi
        intro p hp hpl
        by_cases he : p = (i + j) / 2
        · subst he; exact hc
        · have := hpair p _ hp hmid (by omega)
          simp [ltI] at this
          omega
      · have go : ∀ s : Int, ¬ s < 0 → (if (decide (s < 0)) = true then (gadd (((i + j) / 2 : Nat) : Int) 1).bind fun x12 => actioncache_find_l1 200 c x m x12 (j : Int) else actioncache_find_l1 200 c x m (i : Int) (((i + j) / 2 : Nat) : Int)) = actioncache_find_l1 200 c x m (i : Int) (((i + j) / 2 : Nat) : Int) :=
          fun s hs => if_neg (by simpa using hs)
        have e : actioncache_find_l1 200 c x m (i : Int) (((i + j) / 2 : Nat) : Int) = (if decide (c[(i + j) / 2].Key < x) = true then
            (if (decide ((-1 : Int) < 0)) = true then (gadd (((i + j) / 2 : Nat) : Int) 1).bind fun x12 => actioncache_find_l1 200 c x m x12 (j : Int) else actioncache_find_l1 200 c x m (i : Int) (((i + j) / 2 : Nat) : Int))
            else if decide (x < c[(i + j) / 2].Key) = true then
            (if (decide ((1 : Int) < 0)) = true then (gadd (((i + j) / 2 : Nat) : Int) 1).bind fun x12 => actioncache_find_l1 200 c x m x12 (j : Int) else actioncache_find_l1 200 c x m (i : Int) (((i + j) / 2 : Nat) : Int))
            else (if (decide ((0 : Int) < 0)) = true then (gadd (((i + j) / 2 : Nat) : Int) 1).bind fun x12 => actioncache_find_l1 200 c x m x12 (j : Int) else actioncache_find_l1 200 c x m (i : Int) (((i + j) / 2 : Nat) : Int))) := by
          rw [if_neg (by simpa using hc), go 1 (by decide), go 0 (by decide), ite_self]
        rw [← e]
        refine ih i ((i + j) / 2) (by omega) (by omega) (by omega) hlo ?_
        intro p hp hpl
        by_cases he : p = (i + j) / 2
        · subst he; exact hc
        · have := hpair _ p hmid hp (by omega)
          simp [ltI] at this
          omega
    · have hie : i = j := by omega
      subst hie
      rw [if_neg (nlt_dec hlt)]
      have hw := getK_where hr x i hlo (fun hk => hhi i hk (Nat.le_refl _))
      unfold actioncache_find_j2 actioncache_find_j4 actioncache_find_j3 actioncache_find_j1
      by_cases hil : i < c.length
      · rw [dif_pos hil] at hw
        have hn := hhi i hil (Nat.le_refl _)
        rw [if_pos (lt_dec hil), gidx_nat, getElem?_lt hil, bsome, if_neg (by simpa using hn)]
        by_cases he : c[i].Key = x
        · rw [if_pos he] at hw
          rw [if_neg (by simp; omega), hw]
          exact ⟨i, by omega, rfl, hlo, fun _ => hn⟩
        · rw [if_neg he] at hw
          rw [if_pos (by simp; omega), hw]
          exact ⟨i, by omega, rfl, hlo, fun _ => hn⟩
      · rw [dif_neg hil] at hw
        rw [if_neg (nlt_dec hil), hw]
        exact ⟨i, by omega, rfl, hlo, fun hk => absurd hk hil⟩
theorem cfind (c : List SKeyLines) (x : Int) (hl : c.length ≤ 16) (hr : Rises ltI SKeyLines.Key c) : ∃ (k : Nat), k ≤ c.length ∧ actioncache_find 200 c x = some ((k : Int), (getK SKeyLines.Key x c).isSome) ∧ (∀ (p : Nat) (hp : p < c.length), p < k → c[p].Key < x) ∧ (∀ (hk : k < c.length), ¬ c[k].Key < x) :=
  cfind_l c x hl hr 200 0 c.length (by omega) (by omega) (by omega) (fun p _ h => by omega) (fun p hp h => by omega)
end Go.Proofs.YtlkknmhhefjmjaaDoor
namespace Go.Proofs.YtlkknmhhefjmjaaDoor
open Go.PW Go
def at' (c : List SKeyLines) (x : Int) : List (List UInt8) := ((getK SKeyLines.Key x c).map (·.Lines)).getD []
def has (c : List SKeyLines) (x : Int) : Bool := (getK SKeyLines.Key x c).isSome
theorem ln_clone {l : List (List UInt8)} (h : Ln l) : slices_Clone_string 200 l = some l := clone_eq l (by have := h.1; unfold big; omega)
theorem lookup_good (c : List SKeyLines) (x : Int) (hc : CGood c) (hx : Dg x) : actioncache_Lookup 200 c x = some (at' c x, has c x, ⟨0, 0⟩) := by
  unfold actioncache_Lookup at' has
  rw [cvalid_of hc, bsome, if_neg fault_none, isDig, bsome, decide_eq_true hx, if_neg (by decide)]
  obtain ⟨k, hk, h1, h2, h3⟩ := cfind c x hc.len hc.rise
  have hw := getK_where hc.rise x k h2 h3
  rw [h1, bsome]
  by_cases hl : k < c.length
  · rw [dif_pos hl] at hw
    by_cases he : c[k].Key = x
    · rw [if_pos he] at hw
      rw [hw, if_neg (by simp), gidx_nat, getElem?_lt hl, bsome, ln_clone (hc.ln (List.getElem_mem hl)), bsome]
      rfl
    · rw [if_neg he] at hw
      rw [hw, if_pos (by simp)]
      rfl
  · rw [dif_neg hl] at hw
    rw [hw, if_pos (by simp)]
    rfl
theorem lookup_eq (c : List SKeyLines) (x : Int) : ∃ r, actioncache_Validate 200 c = some r ∧ ref6_CacheFault 200 c = some r ∧ Fine r ∧ (r = ⟨0, 0⟩ ↔ CGood c) ∧
    actioncache_Lookup 200 c x = some (if r.Code ≠ 0 then ([], false, r) else if Dg x then (at' c x, has c x, ⟨0, 0⟩) else ([], false, ⟨3, -2⟩)) := by
  obtain ⟨r, r1, r2, r3, r4⟩ := cval_eq c
  refine ⟨r, r1, r2, r3, r4, ?_⟩
  by_cases hr : r.Code = 0
  · have := r3.resolve_right (fun h => h hr); subst this
    rw [if_neg (by simp)]
    by_cases hx : Dg x
    · rw [if_pos hx, lookup_good c x (r4.1 rfl) hx]
    · rw [if_neg hx]
      unfold actioncache_Lookup
      rw [r1, bsome, if_neg fault_none, isDig, bsome, decide_eq_false hx, if_pos (by decide)]
  · rw [if_pos hr]
    unfold actioncache_Lookup
    rw [r1, bsome, if_pos (fault_ne hr)]
theorem cclone_l (c : List SKeyLines) (hc : CGood c) : ∀ (m i : Nat), c.length - i < m → i ≤ c.length → actioncache_clone_l1 200 c m (c.take i) (i : Int) = some c := by
  have hl := hc.len
  intro m
  induction m with
  | zero => intro i h; omega
  | succ m ih =>
    intro i h hi
    rw [actioncache_clone_l1]
    by_cases hlt : i < c.length
    · rw [if_pos (lt_dec hlt), gidx_nat, getElem?_lt hlt, bsome, ln_clone (hc.ln (List.getElem_mem hlt)), bsome, gapp_ok (by simp; omega), bsome, gadd_nat (by omega), bsome]
      have := ih (i + 1) (by omega) (by omega)
      rw [List.take_add_one, getElem?_lt hlt] at this
      exact this
    · rw [if_neg (nlt_dec hlt), List.take_of_length_le (by omega)]
theorem cclone_eq (c : List SKeyLines) (hc : CGood c) : actioncache_clone 200 c = some c := cclone_l c hc 200 0 (by have := hc.len; omega) (by omega)
def put' (c : List SKeyLines) (x : Int) (l : List (List UInt8)) : List SKeyLines := putK ltI SKeyLines.Key ⟨x, l⟩ c
theorem put_good {c : List SKeyLines} {x : Int} {l : List (List UInt8)} (hc : CGood c) (hx : Dg x) (hl : lines_Validate 200 l = some ⟨0, 0⟩) (hn : has c x = true ∨ c.length < 16) : CGood (put' c x l) := by
  refine ⟨?_, putK_rises totI hc.rise, fun e he => ?_, fun e he => ?_⟩
  · unfold put'
    rw [putK_len totI hc.rise]
    show (if has c x = true then c.length else c.length + 1) ≤ 16
    have := hc.len
    rcases hn with hn | hn
    · rw [if_pos hn]; exact this
    · split <;> omega
  · rcases (putK_mem totI hc.rise).1 he with rfl | h
    · exact hx
    · exact hc.keys _ h.1
  · rcases (putK_mem totI hc.rise).1 he with rfl | h
    · exact hl
    · exact hc.lines _ h.1
theorem store_tail (c : List SKeyLines) (x : Int) (l : List (List UInt8)) (hc : CGood c) (hx : Dg x) (hl : Ln l) : actioncache_Store_j1 200 c x l (at' c x, has c x, ⟨0, 0⟩) false = some (put' c x l, ⟨0, 0⟩) := by
  unfold actioncache_Store_j1
  have hcl := hc.len
  obtain ⟨k, hk, h1, h2, h3⟩ := cfind c x hcl hc.rise
  have hw := getK_where hc.rise x k h2 h3
  have hput : put' c x l = c.take k ++ (⟨x, l⟩ : SKeyLines) :: c.drop (if ∃ hi : k < c.length, c[k].Key = x then k + 1 else k) :=
    putK_at (lt := ltI) (key := SKeyLines.Key) (⟨x, l⟩ : SKeyLines) k c hk (fun i hi hik => by simpa [ltI] using h2 i hi hik) (fun hi => by simpa [ltI] using h3 hi)
  rw [if_neg (by decide), cclone_eq c hc, bsome, h1, bsome]
  unfold actioncache_Store_j2
  by_cases hex : ∃ hi : k < c.length, c[k].Key = x
  · obtain ⟨hl1, he⟩ := hex
    rw [dif_pos hl1, if_pos he] at hw
    have hh : has c x = true := by unfold has; rw [hw]; rfl
    rw [if_pos ⟨hl1, he⟩] at hput
    simp only [hh, Bool.not_true, Bool.false_eq_true, if_false, ln_clone hl, bsome, gidx_nat, getElem?_lt hl1]
    rw [gset_nat, hput, he, List.set_eq_take_append_cons_drop, if_pos hl1]
  · have hw' : getK SKeyLines.Key x c = none := by
      rw [hw]
      split
      · rename_i h; rw [if_neg fun e => hex ⟨h, e⟩]
      · rfl
    have hh : has c x = false := by unfold has; rw [hw']; rfl
    rw [if_neg hex] at hput
    have hg : gins 32 c (k : Int) (⟨x, []⟩ : SKeyLines) = some (c.take k ++ [(⟨x, []⟩ : SKeyLines)] ++ c.drop k) := by
      unfold gins
      rw [if_pos ⟨by omega, by omega, by unfold big; omega, by unfold big; omega⟩, Int.toNat_natCast]
    have hkl : (c.take k).length = k := by rw [List.length_take]; omega
    have hg2 : (c.take k ++ [(⟨x, []⟩ : SKeyLines)] ++ c.drop k)[k]? = some ⟨x, []⟩ := by
      rw [List.append_assoc, List.getElem?_append_right (by omega), hkl, Nat.sub_self]; rfl
    simp only [hh, Bool.not_false, eq_self, if_true, hg, bsome, ln_clone hl, gidx_nat, hg2]
    rw [gset_nat, hput]
    congr 2
    rw [List.append_assoc, List.set_append_right _ _ (by omega), hkl, Nat.sub_self]
    rfl
theorem store_eq (c : List SKeyLines) (x : Int) (l : List (List UInt8)) : ∃ r s, actioncache_Validate 200 c = some r ∧ ref6_CacheFault 200 c = some r ∧ Fine r ∧ (r = ⟨0, 0⟩ ↔ CGood c) ∧
    lines_Second 200 l (-3) = some s ∧ Fine s ∧ (s = ⟨0, 0⟩ ↔ lines_Validate 200 l = some ⟨0, 0⟩) ∧ ref1_LinesCode 200 l = some s.Code ∧ (s.Code ≠ 0 → s.Index = -3) ∧
    actioncache_Store 200 c x l = some (if r.Code ≠ 0 then ([], r) else if ¬ Dg x then ([], ⟨3, -2⟩) else if s.Code ≠ 0 then ([], s) else if has c x = false ∧ 16 ≤ c.length then ([], ⟨14, 0⟩) else (put' c x l, ⟨0, 0⟩)) := by
  obtain ⟨r, r1, r2, r3, r4, r5⟩ := lookup_eq c x
  have hs : ∃ s, lines_Second 200 l (-3) = some s ∧ Fine s ∧ (s = ⟨0, 0⟩ ↔ lines_Validate 200 l = some ⟨0, 0⟩) ∧ ref1_LinesCode 200 l = some s.Code ∧ (s.Code ≠ 0 → s.Index = -3) := by
    obtain ⟨q, q1, q2⟩ := linesV l
    unfold lines_Second ref1_LinesCode
    rw [linesFault_eq, q1, bsome, bsome]
    rcases q2 with rfl | q2
    · rw [if_neg fault_none]; exact ⟨_, rfl, .none, by simp, rfl, fun h => absurd rfl h⟩
    · rw [if_pos (fault_ne q2)]
      exact ⟨_, rfl, .inr q2, ⟨fun h => absurd (congrArg SCodeIndex.Code h) q2, fun h => absurd (congrArg SCodeIndex.Code (Option.some.inj h)) q2⟩, rfl, fun _ => rfl⟩
  obtain ⟨s, s1, s2, s3, s4, s5⟩ := hs
  refine ⟨r, s, r1, r2, r3, r4, s1, s2, s3, s4, s5, ?_⟩
  unfold actioncache_Store
  rw [r5, bsome]
  by_cases hr : r.Code = 0
  · have := r3.resolve_right (fun h => h hr); subst this
    have hc := r4.1 rfl
    simp only [ne_eq, not_true_eq_false, if_false]
    by_cases hx : Dg x
    · simp only [hx, if_true, not_true_eq_false, if_false]
      rw [if_neg fault_none, s1, bsome]
      by_cases hsc : s.Code = 0
      · have := s2.resolve_right (fun h => h hsc); subst this
        rw [if_neg fault_none]
        simp only [not_true_eq_false, if_false]
        have hln := lines_ln (s3.1 rfl)
        cases hh : has c x with
        | true =>
          simp only [Bool.not_true, Bool.false_eq_true, if_false, Bool.true_eq_false, false_and]
          have := store_tail c x l hc hx hln
          rw [hh] at this
          exact this
        | false =>
          simp only [Bool.not_false, eq_self, if_true, true_and]
          by_cases h16 : 16 ≤ c.length
          · rw [decide_eq_true (show (16 : Int) ≤ (c.length : Int) by omega), if_pos h16]
            rfl
          · rw [decide_eq_false (show ¬ (16 : Int) ≤ (c.length : Int) by omega), if_neg h16]
            have := store_tail c x l hc hx hln
            rw [hh] at this
            exact this
      · rw [if_pos (fault_ne hsc), if_pos hsc]
    · simp only [hx, if_false, not_false_eq_true, if_true]
      rw [if_pos (fault_ne (r := ⟨3, -2⟩) (by simp))]
  · rw [if_pos hr, if_pos (fault_ne hr), if_pos hr]
theorem at_put {c : List SKeyLines} {x y : Int} {l : List (List UInt8)} (hc : CGood c) : at' (put' c x l) y = if y = x then l else at' c y := by
  unfold at' put'
  rw [getK_putK totI hc.rise]
  split <;> rfl
theorem has_put {c : List SKeyLines} {x y : Int} {l : List (List UInt8)} (hc : CGood c) : has (put' c x l) y = if y = x then true else has c y := by
  unfold has put'
  rw [getK_putK totI hc.rise]
  split <;> rfl
theorem at_ln {c : List SKeyLines} (hc : CGood c) (x : Int) : Ln (at' c x) := by
  unfold at'
  cases h : getK SKeyLines.Key x c with
  | none => exact ⟨by simp, by simp⟩
  | some e => exact hc.ln (getK_mem h).1
end Go.Proofs.YtlkknmhhefjmjaaDoor
namespace Go.Proofs.YtlkknmhhefjmjaaDoor
open Go.PW Go
theorem caches_eq : law6_caches 200 = some true := by kernel_rfl
theorem ceq_eq (x : SCodeIndex) : ((x.Code == x.Code && (x.Index == x.Index && true)) != false) = true := by simp
theorem store_two (c : List SKeyLines) (x : Int) (l : List (List UInt8)) : (∃ s, s.Code ≠ 0 ∧ actioncache_Store 200 c x l = some ([], s) ∧ ¬ (CGood c ∧ Dg x ∧ lines_Validate 200 l = some ⟨0, 0⟩ ∧ (has c x = true ∨ c.length < 16))) ∨
    (actioncache_Store 200 c x l = some (put' c x l, ⟨0, 0⟩) ∧ CGood c ∧ Dg x ∧ lines_Validate 200 l = some ⟨0, 0⟩ ∧ (has c x = true ∨ c.length < 16)) := by
  obtain ⟨r, s, r1, r2, r3, r4, s1, s2, s3, s4, s5, r6⟩ := store_eq c x l
  by_cases hr : r.Code = 0
  · have := r3.resolve_right (fun h => h hr); subst this
    rw [if_neg (by simp)] at r6
    have hc := r4.1 rfl
    by_cases hx : Dg x
    · rw [if_neg (by simpa using hx)] at r6
      by_cases hs : s.Code = 0
      · have := s2.resolve_right (fun h => h hs); subst this
        rw [if_neg (by simp)] at r6
        by_cases h : has c x = false ∧ 16 ≤ c.length
        · rw [if_pos h] at r6
          refine .inl ⟨_, by simp, r6, fun h' => ?_⟩
          rcases h'.2.2.2 with h2 | h2
          · rw [h.1] at h2; cases h2
          · omega
        · rw [if_neg h] at r6
          refine .inr ⟨r6, hc, hx, s3.1 rfl, ?_⟩
          cases hh : has c x with
          | true => exact .inl rfl
          | false =>
            refine .inr ?_
            by_cases h' : c.length < 16
            · exact h'
            · exact absurd ⟨hh, by omega⟩ h
      · rw [if_pos hs] at r6
        exact .inl ⟨_, hs, r6, fun h' => hs (congrArg SCodeIndex.Code (s3.2 h'.2.2.1))⟩
    · rw [if_pos (by simpa using hx)] at r6
      exact .inl ⟨_, by simp, r6, fun h' => hx h'.2.1⟩
  · rw [if_pos hr] at r6
    exact .inl ⟨_, hr, r6, fun h' => hr (congrArg SCodeIndex.Code (r4.2 h'.1))⟩
end Go.Proofs.YtlkknmhhefjmjaaDoor
namespace Go.Proofs.YtlkknmhhefjmjaaDoor
open Go.PW Go
theorem vp60 {p : List UInt8} (h : libValidPath p = true) : p.length ≤ 60 := by
  unfold libValidPath at h
  have := (Bool.and_eq_true_iff.1 h).1
  simpa using this
theorem in60_l (a : SInputsOpsOutput) (hl : a.Inputs.length ≤ 8) : ∀ (m i : Nat), a.Inputs.length - i < m → sandbox_Validate_l1 200 a m (i : Int) = some ⟨0, 0⟩ → (∀ p ∈ a.Inputs.drop i, p.length ≤ 60) ∧ a.Output.length ≤ 60 := by
  intro m
  induction m with
  | zero => intro i h; omega
  | succ m ih =>
    intro i h h0
    rw [sandbox_Validate_l1] at h0
    unfold treepatch_ValidPath at h0
    by_cases hi : i < a.Inputs.length
    · rw [if_pos (lt_dec hi), gidx_nat, getElem?_lt hi, bsome, bsome] at h0
      by_cases hv : libValidPath a.Inputs[i] = true
      · have tail : ∀ b : Bool, sandbox_Validate_j2 200 (i : Int) (sandbox_Validate_l1 200 a m) b = some ⟨0, 0⟩ → (∀ p ∈ a.Inputs.drop i, p.length ≤ 60) ∧ a.Output.length ≤ 60 := by
          intro b hb
          unfold sandbox_Validate_j2 at hb
          cases b with
          | true =>
            rw [if_pos rfl] at hb
            have := congrArg SCodeIndex.Code (Option.some.inj hb)
            simp at this
          | false =>
            rw [if_neg (by simp), gadd_nat (by omega), bsome] at hb
            obtain ⟨h1, h2⟩ := ih (i + 1) (by omega) hb
            refine ⟨fun p hp => ?_, h2⟩
            rw [List.drop_eq_getElem_cons hi] at hp
            rcases List.mem_cons.1 hp with rfl | hp
            · exact vp60 hv
            · exact h1 p hp
        rw [if_neg (by simp [hv])] at h0
        by_cases hp : 0 < i
        · have e1 : ((i : Int) - 1) = ((i - 1 : Nat) : Int) := by omega
          rw [if_pos (by simp; omega), gsubI (by omega), bsome, e1, gidx_nat, getElem?_lt (by omega), bsome] at h0
          exact tail _ h0
        · rw [if_neg (by simp; omega)] at h0
          exact tail _ h0
      · rw [if_pos (by simp [hv])] at h0
        have := congrArg SCodeIndex.Code (Option.some.inj h0)
        simp at this
    · rw [if_neg (nlt_dec hi), bsome] at h0
      rw [List.drop_of_length_le (by omega)]
      by_cases hv : libValidPath a.Output = true
      · exact ⟨by simp, vp60 hv⟩
      · rw [if_pos (by simp [hv])] at h0
        have := congrArg SCodeIndex.Code (Option.some.inj h0)
        simp at this
structure VGood (a : SInputsOpsOutput) : Prop where
  ins : a.Inputs.length ≤ 8
  ops : a.Ops.length ≤ 16
  in60 : ∀ p ∈ a.Inputs, p.length ≤ 60
  out60 : a.Output.length ≤ 60
  text : ∀ o ∈ a.Ops, o.Text.length ≤ 80
  kind : ∀ o ∈ a.Ops, Dg o.Kind
theorem vgood_of (a : SInputsOpsOutput) (h : sandbox_Validate 200 a = some ⟨0, 0⟩) : VGood a := by
  have hk := kinds_ok a h
  obtain ⟨r, h1, h2, h3⟩ := validate_ok a
  have e : (⟨0, 0⟩ : SCodeIndex) = r := Option.some.inj (h.symm.trans h1)
  obtain ⟨hi, ho⟩ := h3 e.symm
  have d1 : decide ((8 : Int) < (a.Inputs.length : Int)) = false := by simp; omega
  have d2 : decide ((16 : Int) < (a.Ops.length : Int)) = false := by simp; omega
  unfold sandbox_Validate sandbox_Validate_j1 at h
  simp only [d1, d2, Bool.false_eq_true, ↓reduceIte] at h
  obtain ⟨h6, h7⟩ := in60_l a hi 200 0 (by omega) h
  have h4 := valid_l1 a hi 200 0 (by omega) h
  have h5 := kinds_l2 a ho 200 0 (by omega) h4
  refine ⟨hi, ho, fun p hp => h6 p (by simpa using hp), h7, fun o hm => ?_, fun o hm => ?_⟩
  · have h8 := h5 o (by simpa using hm)
    have hpath : (treepatch_ValidPath 200 o.Text).bind (fun r2 => if (!r2) = true then some 12 else sandbox_checkOp_j1 200) = some 0 → o.Text.length ≤ 80 := by
      intro h9
      unfold treepatch_ValidPath at h9
      rw [bsome] at h9
      by_cases hv : libValidPath o.Text = true
      · have := vp60 hv; omega
      · rw [if_pos (by simp [hv])] at h9
        cases h9
    have hnil : (if (decide (o.Text ≠ ([] : List UInt8))) = true then some 5 else sandbox_checkOp_j1 200) = some (0 : Int) → o.Text.length ≤ 80 := by
      intro h9
      by_cases hv : o.Text = []
      · rw [hv]; simp
      · rw [if_pos (by simpa using hv)] at h9
        cases h9
    unfold sandbox_checkOp sandbox_checkOp_j2 sandbox_checkOp_j3 at h8
    rcases hk o hm with k | k | k | k | k
    · simp only [k, decide_true, if_true] at h8
      exact hpath h8
    · simp only [k] at h8
      exact hpath h8
    · simp only [k] at h8
      have h9 : ((lines_Validate 200 [o.Text]).bind fun r3 => some r3.Code) = some 0 := h8
      obtain ⟨q, q1, q2⟩ := linesV [o.Text]
      rw [q1, bsome] at h9
      rcases q2 with rfl | q2
      · exact (lines_ln q1).2 _ (by simp)
      · exact absurd (Option.some.inj h9) q2
    · simp only [k] at h8
      exact hnil h8
    · simp only [k] at h8
      exact hnil h8
  · unfold Dg
    rcases hk o hm with k | k | k | k | k <;> rw [k] <;> omega
structure AGood (a : SInputsOpsOutput) (t : SFiles) : Prop where
  act : VGood a
  valid : sandbox_Validate 200 a = some ⟨0, 0⟩
  tree : TGood t
theorem args_cases (a : SInputsOpsOutput) (t : SFiles) (hf : ∀ f ∈ t.Files, f.Path.length ≤ reachBytes) : ∃ r, sandbox_Arguments 200 a t = some r ∧ Fine r ∧ (r = ⟨0, 0⟩ → AGood a t) := by
  obtain ⟨r, h1, h2, h3⟩ := arguments_ok a t hf
  refine ⟨r, h1, h2, fun h => ?_⟩
  subst h
  have hf' : ∀ f ∈ t.Files, f.Path.length < big := fun f hm => Nat.lt_of_le_of_lt (hf f hm) (by decide)
  obtain ⟨hv, _, _, hl⟩ := h3 rfl
  have hT := treeOk_of a t hf' hv h1
  exact ⟨vgood_of a hv, hv, ⟨hl, hT, (args_rise a t hf' hv h1).2⟩⟩
theorem dPair_eq (a b : Int) (ha : Dg a) (hb : Dg b) : digest_Pair 200 a b = some (sumPair a b, ⟨0, 0⟩) := by
  have is : ∀ x, Dg x → digest_is 200 x = some true := by
    intro x hx
    unfold digest_is digest_is_j1
    rw [if_pos (by simpa using hx.1), decide_eq_true hx.2]
  unfold digest_Pair
  rw [digest_Pair_l1, if_pos (by decide)]
  have g0 : garr 2 0 = some 0 := rfl
  have g1 : garr 2 1 = some 1 := rfl
  have a0 : gadd 0 1 = some 1 := rfl
  have a1 : gadd 1 1 = some 2 := rfl
  rw [g0, bsome, if_pos rfl, is a ha, bsome, if_neg (by decide), a0, bsome, digest_Pair_l1, if_pos (by decide), g1, bsome, if_neg (by decide), is b hb, bsome, if_neg (by decide), a1, bsome, digest_Pair_l1, if_neg (by decide), pair_eq a b ha hb, bsome]
theorem combine_eq (a b : Int) (ha : Dg a) (hb : Dg b) : actioncache_combine 200 a [b] = some (sumPair a b) := by
  unfold actioncache_combine
  have a0 : gadd 0 1 = some 1 := rfl
  have g0 : gidx ([b] : List Int) 0 = some b := rfl
  rw [actioncache_combine_l1, if_pos (by simp), g0, bsome, dPair_eq a b ha hb, bsome, a0, bsome, actioncache_combine_l1, if_neg (by simp)]
def inSum (t : SFiles) (p : List UInt8) : Int := match fileOf t p with
  | some l => sumList l
  | none => 0
def key1 (k : Int) (l : List (List UInt8)) (t : SFiles) : Int := l.foldl (fun k p => sumPair k (inSum t p)) k
def key2 (k : Int) (l : List SKindText) : Int := l.foldl (fun k o => sumPair k (sumPair o.Kind (sumOf o.Text))) k
def keyOf (a : SInputsOpsOutput) (t : SFiles) : Int := sumPair (key2 (key1 (sumList a.Inputs) a.Inputs t) a.Ops) (sumOf a.Output)
theorem key_l2 (a : SInputsOpsOutput) (ha : VGood a) : ∀ (m i : Nat) (k : Int), a.Ops.length - i < m → Dg k → actioncache_Key_l2 200 a m k (i : Int) = some (sumPair (key2 k (a.Ops.drop i)) (sumOf a.Output), ⟨0, 0⟩) ∧ ref6_ActionKey_l2 200 a m k (i : Int) = some (sumPair (key2 k (a.Ops.drop i)) (sumOf a.Output)) := by
  have hol := ha.ops
  intro m
  induction m with
  | zero => intro i k h; omega
  | succ m ih =>
    intro i k h hk
    rw [actioncache_Key_l2, ref6_ActionKey_l2]
    by_cases hlt : i < a.Ops.length
    · have hm := List.getElem_mem hlt
      have h80 := ha.text _ hm
      have hkd := ha.kind _ hm
      have hs := sumOf_dg a.Ops[i].Text
      have hp := sumPair_dg a.Ops[i].Kind (sumOf a.Ops[i].Text)
      unfold actioncache_Key_1
      rw [if_pos (lt_dec hlt), if_pos (lt_dec hlt), gidx_nat, getElem?_lt hlt, bsome, bsome, of_eq _ (by omega), bsome, bsome, combine_eq _ _ hkd hs, bsome, combine_eq _ _ hk hp, bsome, gadd_nat (by omega), bsome,
        rof_eq _ (by omega), bsome, rpair_eq _ _ hkd hs, bsome, rpair_eq _ _ hk hp, bsome, bsome, List.drop_eq_getElem_cons hlt]
      exact ih (i + 1) _ (by omega) (sumPair_dg _ _)
    · have h60 := ha.out60
      have e : key2 k (a.Ops.drop i) = k := by rw [List.drop_of_length_le (by omega)]; rfl
      unfold actioncache_Key_j2
      rw [if_neg (nlt_dec hlt), if_neg (nlt_dec hlt), of_eq _ (by omega), bsome, rof_eq _ (by omega), bsome, combine_eq _ _ hk (sumOf_dg _), bsome, rpair_eq _ _ hk (sumOf_dg _), bsome, e]
      exact ⟨rfl, rfl⟩
theorem key_l1 (a : SInputsOpsOutput) (t : SFiles) (ha : VGood a) (ht : TGood t) : ∀ (m i : Nat) (k : Int), a.Inputs.length - i < m → Dg k → actioncache_Key_l1 200 a t m k (i : Int) = some (sumPair (key2 (key1 k (a.Inputs.drop i) t) a.Ops) (sumOf a.Output), ⟨0, 0⟩) ∧
    ref6_ActionKey_l1 200 a t m k (i : Int) = some (sumPair (key2 (key1 k (a.Inputs.drop i) t) a.Ops) (sumOf a.Output)) := by
  have hil := ha.ins
  intro m
  induction m with
  | zero => intro i k h; omega
  | succ m ih =>
    intro i k h hk
    rw [actioncache_Key_l1, ref6_ActionKey_l1]
    by_cases hlt : i < a.Inputs.length
    · have step : ∀ x : Int, Dg x → inSum t a.Inputs[i] = x → (actioncache_Key_j1 200 k (i : Int) (actioncache_Key_l1 200 a t m) x = some (sumPair (key2 (key1 k (a.Inputs.drop i) t) a.Ops) (sumOf a.Output), ⟨0, 0⟩) ∧
          ref6_ActionKey_j1 200 k (i : Int) (ref6_ActionKey_l1 200 a t m) x = some (sumPair (key2 (key1 k (a.Inputs.drop i) t) a.Ops) (sumOf a.Output))) := by
        intro x hx he
        unfold actioncache_Key_j1 ref6_ActionKey_j1
        rw [combine_eq _ _ hk hx, rpair_eq _ _ hk hx, bsome, bsome, gadd_nat (by omega), bsome, bsome, List.drop_eq_getElem_cons hlt]
        have := ih (i + 1) (sumPair k x) (by omega) (sumPair_dg _ _)
        rw [← he] at this ⊢
        exact this
      rw [if_pos (lt_dec hlt), if_pos (lt_dec hlt), gidx_nat, getElem?_lt hlt, bsome, bsome, fileIn_eq t _ ht.len, bsome]
      obtain ⟨q, b, h1, h2, h3⟩ := find_good t ht a.Inputs[i]
      rw [h1, bsome]
      cases b with
      | true =>
        obtain ⟨hq, h4⟩ := h3 rfl
        have hln := ht.lns (List.getElem_mem hq)
        rw [if_pos rfl, gidx_nat, getElem?_lt hq, bsome, strs_eq _ hln, bsome, h4]
        show _ ∧ ((ref6_stringsSum 200 (t.Files[q]).Lines).bind fun r9 => ref6_ActionKey_j1 200 k (i : Int) (ref6_ActionKey_l1 200 a t m) r9) = _
        rw [stringsSum_eq _ hln, bsome]
        exact step _ (sumList_dg _) (by unfold inSum; rw [h4])
      | false =>
        have h4 : fileOf t a.Inputs[i] = none := by
          cases h5 : fileOf t a.Inputs[i] with
          | none => rfl
          | some x => rw [h5] at h2; cases h2
        rw [if_neg (by simp), h4, if_neg (by simp)]
        exact step _ (by unfold Dg; omega) (by unfold inSum; rw [h4])
    · rw [if_neg (nlt_dec hlt), if_neg (nlt_dec hlt)]
      have e : key1 k (a.Inputs.drop i) t = k := by rw [List.drop_of_length_le (by omega)]; rfl
      rw [e]
      exact key_l2 a ha 200 0 k (by have := ha.ops; omega) hk
theorem VGood.insLn {a : SInputsOpsOutput} (h : VGood a) : Ln a.Inputs := ⟨by have := h.ins; omega, fun s hs => by have := h.in60 s hs; omega⟩
theorem key_eq (a : SInputsOpsOutput) (t : SFiles) (hg : AGood a t) (h : sandbox_Arguments 200 a t = some ⟨0, 0⟩) : actioncache_Key 200 a t = some (keyOf a t, ⟨0, 0⟩) ∧ ref6_ActionKey 200 a t = some (keyOf a t) := by
  obtain ⟨h1, h2⟩ := key_l1 a t hg.act hg.tree 200 0 (sumList a.Inputs) (by have := hg.act.ins; omega) (sumList_dg _)
  unfold actioncache_Key ref6_ActionKey
  rw [h, bsome, if_neg fault_none, strs_eq _ hg.act.insLn, bsome, stringsSum_eq _ hg.act.insLn, bsome]
  exact ⟨h1, h2⟩
theorem key_bad (a : SInputsOpsOutput) (t : SFiles) (r : SCodeIndex) (hr : r.Code ≠ 0) (h : sandbox_Arguments 200 a t = some r) : actioncache_Key 200 a t = some (0, r) := by
  unfold actioncache_Key
  rw [h, bsome, if_pos (fault_ne hr)]
theorem keyOf_dg (a : SInputsOpsOutput) (t : SFiles) : Dg (keyOf a t) := sumPair_dg _ _
theorem cacheKey_eq (a : SInputsOpsOutput) (t : SFiles) (hf : ∀ f ∈ t.Files, f.Path.length ≤ reachBytes) : law6_ActioncacheKeyMatchesSpec 200 a t = some true := by
  have hf' : ∀ f ∈ t.Files, f.Path.length < big := fun f hm => Nat.lt_of_le_of_lt (hf f hm) (by decide)
  obtain ⟨r, h1, h2, h3⟩ := args_cases a t hf
  unfold law6_ActioncacheKeyMatchesSpec
  rw [runFault_eq a t hf', h1, bsome]
  by_cases hr : r.Code = 0
  · have := h2.resolve_right (fun h => h hr); subst this
    obtain ⟨k1, k2⟩ := key_eq a t (h3 rfl) h1
    rw [k1, bsome, caches_eq, bsome, if_pos rfl, if_pos (ceq_eq ⟨0, 0⟩), if_neg (by decide), if_pos (by decide), k2, bsome]
    show law6_ActioncacheKeyMatchesSpec_j1 200 (decide (keyOf a t = keyOf a t)) = _
    rw [decide_eq_true rfl]
    rfl
  · rw [key_bad a t r hr h1, bsome, caches_eq, bsome, if_pos rfl, if_pos (ceq_eq r), if_pos (by simpa using hr)]
    rfl
end Go.Proofs.YtlkknmhhefjmjaaDoor
namespace Go.Proofs.YtlkknmhhefjmjaaDoor
open Go.PW Go
def LnOk (s : List UInt8) : Prop := s.length ≤ 80 ∧ ¬ 0 ≤ libIndexByte s 10
theorem lval_l (l : List (List UInt8)) (hl : l.length ≤ 120) : ∀ (m i : Nat), l.length - i < m → (lines_Validate_l1 200 l m (i : Int) = some ⟨0, 0⟩ ↔ ∀ s ∈ l.drop i, LnOk s) := by
  intro m
  induction m with
  | zero => intro i h; omega
  | succ m ih =>
    intro i h
    rw [lines_Validate_l1]
    by_cases hlt : i < l.length
    · rw [if_pos (lt_dec hlt), gidx_nat, getElem?_lt hlt, bsome, List.drop_eq_getElem_cons hlt]
      have bad : ∀ c : Int, c ≠ 0 → ¬ LnOk l[i] → ((some (⟨c, (i : Int)⟩ : SCodeIndex) = some ⟨0, 0⟩) ↔ ∀ s ∈ l[i] :: l.drop (i + 1), LnOk s) :=
        fun c hc hn => ⟨fun h => absurd (congrArg SCodeIndex.Code (Option.some.inj h)) hc, fun h => absurd (h _ List.mem_cons_self) hn⟩
      by_cases h80 : 80 < l[i].length
      · rw [if_pos (by simp; omega)]
        exact bad 2 (by decide) fun h => by have := h.1; omega
      · rw [if_neg (by simp; omega)]
        unfold strings_IndexByte
        rw [bsome]
        by_cases h10 : 0 ≤ libIndexByte l[i] 10
        · rw [if_pos (by simpa using h10)]
          exact bad 5 (by decide) fun h => h.2 h10
        · rw [if_neg (by simpa using h10), gadd_nat (by omega), bsome, ih (i + 1) (by omega)]
          exact ⟨fun h s hs => (List.mem_cons.1 hs).elim (fun e => e ▸ ⟨by omega, h10⟩) (h s), fun h s hs => h s (List.mem_cons_of_mem _ hs)⟩
    · rw [if_neg (nlt_dec hlt), List.drop_of_length_le (by omega)]
      simp
theorem lval_iff (l : List (List UInt8)) : lines_Validate 200 l = some ⟨0, 0⟩ ↔ l.length ≤ 120 ∧ ∀ s ∈ l, LnOk s := by
  constructor
  · intro h
    have hl := lines_len h
    unfold lines_Validate at h
    rw [if_neg (by simp; omega)] at h
    have := (lval_l l hl 200 0 (by omega)).1 h
    exact ⟨hl, fun s hs => this s (by simpa using hs)⟩
  · rintro ⟨hl, h⟩
    unfold lines_Validate
    rw [if_neg (by simp; omega)]
    exact (lval_l l hl 200 0 (by omega)).2 fun s hs => h s (by simpa using hs)
theorem rev_k (n : Nat) (x3 : Int) (lp : List (List UInt8) → Int → Option (List (List UInt8) × SCodeIndex)) (N : Nat) (hN : N ≤ 120) (G : List UInt8 → Prop)
    (R : Option (List (List UInt8) × SCodeIndex) → Prop) (hR : ∀ w, w.length = N → (∀ s ∈ w, G s) → R (sandbox_Run_j1 n x3 lp w 0)) :
    ∀ (m i j : Nat) (w : List (List UInt8)), w.length = N → (∀ s ∈ w, G s) → j ≤ N → j - i < m → i ≤ N → R (sandbox_Run_l2 n x3 lp m w (i : Int) ((j : Int) - 1)) := by
  intro m
  induction m with
  | zero => intro i j w _ _ _ h; omega
  | succ m ih =>
    intro i j w hw hG hj h hi
    rw [sandbox_Run_l2]
    unfold sandbox_Run_j7
    by_cases hij : i + 1 < j
    · have e1 : ((j : Int) - 1) = ((j - 1 : Nat) : Int) := by omega
      rw [if_pos (by simp; omega), e1, gidx_nat, getElem?_lt (show j - 1 < w.length by omega), bsome, gidx_nat, getElem?_lt (show i < w.length by omega), bsome, gset_nat, gidx_nat,
        getElem?_lt (show j - 1 < (w.set i w[j - 1]).length by simp; omega), bsome, gadd_nat (by omega), bsome, gsubI (by omega), bsome, gset_nat]
      have hG' : ∀ s ∈ (w.set i w[j - 1]).set (j - 1) w[i], G s := by
        intro s hs
        rcases List.mem_or_eq_of_mem_set hs with hs | rfl
        · rcases List.mem_or_eq_of_mem_set hs with hs | rfl
          · exact hG s hs
          · exact hG _ (List.getElem_mem _)
        · exact hG _ (List.getElem_mem _)
      have := ih (i + 1) (j - 1) ((w.set i w[j - 1]).set (j - 1) w[i]) (by simp; omega) hG' (by omega) (by omega) (by omega)
      exact this
    · rw [if_neg (by simp; omega)]
      exact hR _ hw hG
theorem unique_k (l : List (List UInt8)) (hl : l.length ≤ 120) (G : List UInt8 → Prop) (hG : ∀ s ∈ l, G s) : ∀ (m i : Nat) (w : List (List UInt8)), l.length - i < m → w.length ≤ i → i ≤ l.length → (∀ s ∈ w, G s) → ∃ r, sandbox_unique_l1 200 l m w (i : Int) = some r ∧ r.length ≤ l.length ∧ ∀ s ∈ r, G s := by
  intro m
  induction m with
  | zero => intro i w h; omega
  | succ m ih =>
    intro i w h hw hil hGw
    rw [sandbox_unique_l1]
    unfold sandbox_unique_j1
    by_cases hi : i < l.length
    · rw [if_pos (lt_dec hi), gidx_nat, getElem?_lt hi, bsome, contains_eq w l[i] (by omega), bsome]
      split
      · rw [gapp_ok (by simp; omega), bsome, gadd_nat (by omega), bsome]
        refine ih (i + 1) _ (by omega) (by simp; omega) (by omega) fun s hs => ?_
        rcases List.mem_append.1 hs with hs | hs
        · exact hGw s hs
        · rw [List.mem_singleton.1 hs]; exact hG _ (List.getElem_mem hi)
      · rw [gadd_nat (by omega), bsome]
        exact ih (i + 1) _ (by omega) (by omega) (by omega) hGw
    · rw [if_neg (nlt_dec hi)]
      exact ⟨_, rfl, by omega, hGw⟩
def RunV (r : List (List UInt8) × SCodeIndex) : Prop := (r.2.Code ≠ 0 ∧ r.1 = []) ∨ (r.2 = ⟨0, 0⟩ ∧ r.1.length ≤ 120 ∧ ∀ s ∈ r.1, LnOk s)
theorem runv_l (a : SInputsOpsOutput) (t : SFiles) (hi : a.Inputs.length ≤ 8) (ho : a.Ops.length ≤ 16) (ht : t.Files.length ≤ 24) (hf : ∀ f ∈ t.Files, f.Lines.length ≤ 120 ∧ ∀ s ∈ f.Lines, LnOk s) (hk3 : ∀ o ∈ a.Ops, o.Kind = 3 → LnOk o.Text) :
    ∀ (m i : Nat) (w : List (List UInt8)), a.Ops.length - i < m → w.length ≤ 120 → (∀ s ∈ w, LnOk s) → ∃ r, sandbox_Run_l1 200 a t m w (i : Int) = some r ∧ RunV r := by
  intro m
  induction m with
  | zero => intro i w h; omega
  | succ m ih =>
    intro i w h hw hG
    rw [sandbox_Run_l1]
    by_cases hi2 : i < a.Ops.length
    · rw [if_pos (lt_dec hi2), gidx_nat, getElem?_lt hi2, bsome]
      obtain ⟨k, b, h1, h2⟩ := find_ok t.Files a.Ops[i].Text ht
      rw [h1, bsome, contains_eq _ _ (by omega), bsome]
      have fin : ∀ (w' : List (List UInt8)) (c : Int), (c = 0 → w'.length ≤ 120 ∧ ∀ s ∈ w', LnOk s) → ∃ r, sandbox_Run_j1 200 (i : Int) (sandbox_Run_l1 200 a t m) w' c = some r ∧ RunV r := by
        intro w' c hc
        unfold sandbox_Run_j1
        by_cases h0 : c = 0
        · rw [if_neg (by simp [h0]), gadd_nat (by omega), bsome]
          exact ih (i + 1) w' (by omega) (hc h0).1 (hc h0).2
        · rw [if_pos (by simp [h0]), gsubI (by omega), bsome]
          exact ⟨_, rfl, .inl ⟨h0, rfl⟩⟩
      have step : ∀ den : Bool, ∃ r, sandbox_Run_j2 200 t w (i : Int) (sandbox_Run_l1 200 a t m) a.Ops[i] ((k : Int), b) den = some r ∧ RunV r := by
        intro den
        unfold sandbox_Run_j2 sandbox_Run_j3 sandbox_Run_j4 sandbox_Run_j5 sandbox_Run_j6
        cases den with
        | true => rw [if_pos rfl]; exact fin _ _ (fun h => by omega)
        | false =>
          rw [if_neg (by simp)]
          have one : ∀ x : List UInt8, LnOk x → ∃ r, ((gadd (w.length : Int) (([x] : List (List UInt8)).length : Int)).bind fun x14 => if (decide (120 < x14)) = true then sandbox_Run_j1 200 (i : Int) (sandbox_Run_l1 200 a t m) [] 10 else (gapp 16 w [x]).bind fun w15 => sandbox_Run_j1 200 (i : Int) (sandbox_Run_l1 200 a t m) w15 0) = some r ∧ RunV r := by
            intro x hx
            rw [gaddI (by simp; omega), bsome]
            split
            · exact fin _ _ (fun h => by omega)
            · rename_i hc
              simp at hc
              rw [gapp_ok (by simp; omega), bsome]
              refine fin _ _ (fun _ => ⟨by simp; omega, fun s hs => ?_⟩)
              rcases List.mem_append.1 hs with hs | hs
              · exact hG s hs
              · rw [List.mem_singleton.1 hs]; exact hx
          by_cases k1 : a.Ops[i].Kind = 1
          · rw [if_pos (by simp [k1])]
            cases b with
            | false => rw [if_pos (by simp)]; exact fin _ _ (fun h => by omega)
            | true =>
              rw [if_neg (by simp)]
              have hk := h2 rfl
              rw [gidx_nat, getElem?_lt hk, bsome]
              obtain ⟨hb, hbl⟩ := hf _ (List.getElem_mem hk)
              rw [gaddI (by omega), bsome]
              split
              · exact fin _ _ (fun h => by omega)
              · rename_i hc
                simp at hc
                rw [gapp_ok (by omega), bsome]
                refine fin _ _ (fun _ => ⟨by simp; omega, fun s hs => ?_⟩)
                rcases List.mem_append.1 hs with hs | hs
                · exact hG s hs
                · exact hbl s hs
          · rw [if_neg (by simp [k1])]
            by_cases k2 : a.Ops[i].Kind = 2
            · rw [if_pos (by simp [k2])]
              split
              · exact one _ (by unfold LnOk; decide)
              · exact one _ (by unfold LnOk; decide)
            · rw [if_neg (by simp [k2])]
              by_cases k3 : a.Ops[i].Kind = 3
              · rw [if_pos (by simp [k3])]; exact one _ (hk3 _ (List.getElem_mem hi2) k3)
              · rw [if_neg (by simp [k3])]
                by_cases k4 : a.Ops[i].Kind = 4
                · rw [if_pos (by simp [k4]), gsubI (by omega), bsome]
                  exact rev_k 200 (i : Int) (sandbox_Run_l1 200 a t m) w.length hw LnOk (fun o => ∃ r, o = some r ∧ RunV r)
                    (fun w' hq hg => fin w' 0 (fun _ => ⟨by omega, hg⟩)) 200 0 w.length w rfl hG (by omega) (by omega) (by omega)
                · rw [if_neg (by simp [k4])]
                  obtain ⟨r, h3, h4, h5⟩ := unique_k w hw LnOk hG 200 0 [] (by omega) (by simp) (by omega) (by simp)
                  have h3' : sandbox_unique 200 w = some r := h3
                  rw [h3', bsome]
                  exact fin _ _ (fun _ => ⟨by omega, h5⟩)
      split
      · exact step _
      · split
        · exact step _
        · exact step _
    · rw [if_neg (nlt_dec hi2)]
      exact ⟨_, rfl, .inr ⟨rfl, hw, hG⟩⟩
theorem text_ok (a : SInputsOpsOutput) (h : sandbox_Validate 200 a = some ⟨0, 0⟩) : ∀ o ∈ a.Ops, o.Kind = 3 → LnOk o.Text := by
  obtain ⟨r, h1, h2, h3⟩ := validate_ok a
  have e : (⟨0, 0⟩ : SCodeIndex) = r := Option.some.inj (h.symm.trans h1)
  obtain ⟨hi, ho⟩ := h3 e.symm
  have d1 : decide ((8 : Int) < (a.Inputs.length : Int)) = false := by simp; omega
  have d2 : decide ((16 : Int) < (a.Ops.length : Int)) = false := by simp; omega
  unfold sandbox_Validate sandbox_Validate_j1 at h
  simp only [d1, d2, Bool.false_eq_true, ↓reduceIte] at h
  have h4 := valid_l1 a hi 200 0 (by omega) h
  have h5 := kinds_l2 a ho 200 0 (by omega) h4
  intro o hm k
  have h8 := h5 o (by simpa using hm)
  unfold sandbox_checkOp sandbox_checkOp_j2 sandbox_checkOp_j3 at h8
  simp only [k] at h8
  have h9 : ((lines_Validate 200 [o.Text]).bind fun r3 => some r3.Code) = some 0 := h8
  obtain ⟨q, q1, q2⟩ := linesV [o.Text]
  rw [q1, bsome] at h9
  rcases q2 with rfl | q2
  · exact ((lval_iff _).1 q1).2 _ (by simp)
  · exact absurd (Option.some.inj h9) q2
theorem run_valid (a : SInputsOpsOutput) (t : SFiles) (hg : AGood a t) (h : sandbox_Arguments 200 a t = some ⟨0, 0⟩) : ∃ r, sandbox_Run 200 a t = some r ∧ ((r.2.Code ≠ 0 ∧ r.1 = []) ∨ (r.2 = ⟨0, 0⟩ ∧ lines_Validate 200 r.1 = some ⟨0, 0⟩)) := by
  have hf : ∀ f ∈ t.Files, f.Lines.length ≤ 120 ∧ ∀ s ∈ f.Lines, LnOk s := fun f hf => (lval_iff _).1 (hg.tree.ok.2 f hf).2
  obtain ⟨r, h1, h2⟩ := runv_l a t hg.act.ins hg.act.ops hg.tree.len hf (text_ok a hg.valid) 200 0 [] (by have := hg.act.ops; omega) (by simp) (by simp)
  unfold sandbox_Run
  rw [h, bsome, if_neg fault_none]
  refine ⟨r, h1, ?_⟩
  rcases h2 with h2 | ⟨h2, h3⟩
  · exact .inl h2
  · exact .inr ⟨h2, (lval_iff _).2 h3⟩
end Go.Proofs.YtlkknmhhefjmjaaDoor
namespace Go.Proofs.YtlkknmhhefjmjaaDoor
open Go.PW Go
theorem stringsEq_l (a b : List (List UInt8)) (hl : a.length < 200) (hab : a.length = b.length) : ∀ (m i : Nat), a.length - i < m → ref6_Strings_l1 200 a b m (i : Int) = some (decide (a.drop i = b.drop i)) := by
  intro m
  induction m with
  | zero => intro i h; omega
  | succ m ih =>
    intro i h
    rw [ref6_Strings_l1]
    by_cases hlt : i < a.length
    · have hlb : i < b.length := by omega
      rw [if_pos (lt_dec hlt), gidx_nat, getElem?_lt hlt, bsome, gidx_nat, getElem?_lt hlb, bsome]
      by_cases he : a[i] = b[i]
      · rw [if_neg (by simpa using he), gadd_nat (by omega), bsome, ih (i + 1) (by omega)]
        congr 1
        refine decide_eq_decide.2 ?_
        rw [List.drop_eq_getElem_cons hlt, List.drop_eq_getElem_cons hlb, he]
        exact ⟨fun h => by rw [h], fun h => (List.cons.inj h).2⟩
      · rw [if_pos (by simpa using he)]
        congr 1
        refine (decide_eq_false fun h => he ?_).symm
        rw [List.drop_eq_getElem_cons hlt, List.drop_eq_getElem_cons hlb] at h
        exact (List.cons.inj h).1
    · rw [if_neg (nlt_dec hlt), List.drop_of_length_le (by omega), List.drop_of_length_le (by omega)]
      simp
theorem stringsEq (a b : List (List UInt8)) (hl : a.length < 200) : ref6_Strings 200 a b = some (decide (a = b)) := by
  unfold ref6_Strings
  by_cases h : a.length = b.length
  · rw [if_neg (by simp; omega)]
    have := stringsEq_l a b hl h 200 0 (by omega)
    exact this
  · rw [if_pos (by simp; omega)]
    congr 1
    exact (decide_eq_false fun e => h (by rw [e])).symm
theorem same_l2 (a b : SInputsOpsOutput) (hl : a.Ops.length ≤ 16) (hab : a.Ops.length = b.Ops.length) (lp : Int → Option Bool) (hlp : lp 1 = some true) : ∀ (m i : Nat), a.Ops.length - i < m → ref6_SameActions_l2 200 [a] [b] 0 lp m (i : Int) = some (decide (a.Ops.drop i = b.Ops.drop i)) := by
  have g0 : gidx ([a] : List SInputsOpsOutput) 0 = some a := rfl
  have g1 : gidx ([b] : List SInputsOpsOutput) 0 = some b := rfl
  have a0 : gadd 0 1 = some 1 := rfl
  intro m
  induction m with
  | zero => intro i h; omega
  | succ m ih =>
    intro i h
    rw [ref6_SameActions_l2, g0, bsome]
    by_cases hlt : i < a.Ops.length
    · have hlb : i < b.Ops.length := by omega
      rw [if_pos (lt_dec hlt), gidx_nat, getElem?_lt hlt, bsome, g1, bsome, gidx_nat, getElem?_lt hlb, bsome]
      by_cases he : a.Ops[i] = b.Ops[i]
      · rw [if_neg (by rw [he]; simp), gadd_nat (by omega), bsome, ih (i + 1) (by omega)]
        congr 1
        refine decide_eq_decide.2 ?_
        rw [List.drop_eq_getElem_cons hlt, List.drop_eq_getElem_cons hlb, he]
        exact ⟨fun h => by rw [h], fun h => (List.cons.inj h).2⟩
      · have hne : ((a.Ops[i].Kind == b.Ops[i].Kind && (a.Ops[i].Text == b.Ops[i].Text && true)) != true) = true := by
          cases hx : a.Ops[i]; cases hy : b.Ops[i]
          rw [hx, hy] at he
          rename_i k1 t1 k2 t2
          by_cases e1 : k1 = k2 <;> by_cases e2 : t1 = t2
          · subst e1; subst e2; exact absurd rfl he
          · simp [e1, e2]
          · simp [e1, e2]
          · simp [e1, e2]
        rw [if_pos hne]
        congr 1
        refine (decide_eq_false fun h => he ?_).symm
        rw [List.drop_eq_getElem_cons hlt, List.drop_eq_getElem_cons hlb] at h
        exact (List.cons.inj h).1
    · rw [if_neg (nlt_dec hlt), a0, bsome, hlp, List.drop_of_length_le (by omega), List.drop_of_length_le (by omega)]
      simp
theorem sameActions_eq (a b : SInputsOpsOutput) (hi : a.Inputs.length ≤ 8) (hl : a.Ops.length ≤ 16) : ref6_SameActions 200 [a] [b] = some (decide (a = b)) := by
  have g0 : gidx ([a] : List SInputsOpsOutput) 0 = some a := rfl
  have g1 : gidx ([b] : List SInputsOpsOutput) 0 = some b := rfl
  unfold ref6_SameActions
  rw [if_neg (by simp), ref6_SameActions_l1, if_pos (by simp), g0, bsome, g1, bsome]
  have hne : a ≠ b → (a.Output ≠ b.Output ∨ a.Inputs ≠ b.Inputs ∨ a.Ops ≠ b.Ops) := by
    intro h
    cases a; cases b
    rename_i i1 o1 p1 i2 o2 p2
    by_cases e1 : p1 = p2
    · by_cases e2 : i1 = i2
      · by_cases e3 : o1 = o2
        · subst e1; subst e2; subst e3; exact absurd rfl h
        · exact .inr (.inr e3)
      · exact .inr (.inl e2)
    · exact .inl e1
  have hend : ref6_SameActions_l1 200 [a] [b] 199 1 = some true := by
    rw [ref6_SameActions_l1, if_neg (by simp)]
  by_cases e1 : a.Output = b.Output
  · rw [if_neg (by simpa using e1), stringsEq _ _ (by omega), bsome]
    by_cases e2 : a.Inputs = b.Inputs
    · rw [decide_eq_true e2, if_neg (by decide)]
      unfold ref6_SameActions_j1
      by_cases e3 : a.Ops.length = b.Ops.length
      · rw [if_neg (by simp; omega)]
        have := same_l2 a b hl e3 (ref6_SameActions_l1 200 [a] [b] 199) hend 200 0 (by omega)
        rw [show ((0 : Nat) : Int) = 0 from rfl] at this
        rw [this, List.drop_zero, List.drop_zero]
        congr 1
        refine decide_eq_decide.2 ⟨fun h => ?_, fun h => by rw [h]⟩
        cases a; cases b
        simp only at e1 e2 h
        rw [e1, e2, h]
      · rw [if_pos (by simp; omega)]
        congr 1
        exact (decide_eq_false fun h => e3 (by rw [h])).symm
    · rw [decide_eq_false e2, if_pos (by decide)]
      unfold ref6_SameActions_j1
      rw [if_pos rfl]
      congr 1
      exact (decide_eq_false fun h => e2 (by rw [h])).symm
  · rw [if_pos (by simpa using e1)]
    unfold ref6_SameActions_j1
    rw [if_pos rfl]
    congr 1
    exact (decide_eq_false fun h => e1 (by rw [h])).symm
theorem crun_eq (c : List SKeyLines) (a : SInputsOpsOutput) (t : SFiles) (hc : CGood c) (hg : AGood a t) (h : sandbox_Arguments 200 a t = some ⟨0, 0⟩) : ∃ r, sandbox_Run 200 a t = some r ∧ ((r.2.Code ≠ 0 ∧ r.1 = []) ∨ (r.2 = ⟨0, 0⟩ ∧ lines_Validate 200 r.1 = some ⟨0, 0⟩)) ∧
    actioncache_Run 200 c a t = some (if has c (keyOf a t) = true then (at' c (keyOf a t), c, true, ⟨0, 0⟩) else if r.2.Code ≠ 0 then ([], [], false, r.2) else if c.length < 16 then (r.1, put' c (keyOf a t) r.1, false, ⟨0, 0⟩) else (r.1, c, false, ⟨0, 0⟩)) := by
  obtain ⟨r, h1, h2⟩ := run_valid a t hg h
  refine ⟨r, h1, h2, ?_⟩
  unfold actioncache_Run
  rw [cvalid_of hc, bsome, if_neg fault_none, (key_eq a t hg h).1, bsome, if_neg fault_none]
  show ((actioncache_Lookup 200 c (keyOf a t)).bind fun r3 => _) = _
  rw [lookup_good c _ hc (keyOf_dg a t), bsome]
  cases hh : has c (keyOf a t) with
  | true =>
    rw [if_pos rfl, cclone_eq c hc, bsome, if_pos rfl]
  | false =>
    have hff : ∀ x y : List (List UInt8) × List SKeyLines × Bool × SCodeIndex, (if false = true then x else y) = y := fun _ _ => rfl
    rw [if_neg (by simp), h1, bsome, hff]
    rcases h2 with ⟨h3, h4⟩ | ⟨h3, h4⟩
    · rw [if_pos (fault_ne h3), if_pos h3]
    · have hr2 : r.2.Code = 0 := by rw [h3]
      have hnf : ¬ ((r.2.Code == 0 && (r.2.Index == 0 && true)) != true) = true := by rw [h3]; exact fault_none
      rw [if_neg hnf, if_neg (by simpa using hr2)]
      show ((actioncache_Store 200 c (keyOf a t) r.1).bind fun r6 => _) = _
      rcases store_two c (keyOf a t) r.1 with ⟨s, hs, h5, h6⟩ | ⟨h5, h6⟩
      · have : ¬ c.length < 16 := fun h7 => h6 ⟨hc, keyOf_dg a t, h4, .inr h7⟩
        rw [h5, bsome, if_pos (fault_ne hs), cclone_eq c hc, bsome, if_neg this]
        rfl
      · have h7 : c.length < 16 := by
          rcases h6.2.2.2 with h7 | h7
          · rw [hh] at h7; cases h7
          · exact h7
        rw [h5, bsome, if_neg fault_none, if_pos h7]
        rfl
structure HInv (a : SInputsOpsOutput) (t : SFiles) (c : List SKeyLines) : Prop where
  good : CGood c
  hit : has c (keyOf a t) = true → sandbox_Run 200 a t = some (at' c (keyOf a t), ⟨0, 0⟩)
theorem hinv_put {a e : SInputsOpsOutput} {t : SFiles} {c : List SKeyLines} (hI : HInv a t c) (l : List (List UInt8)) (hl : lines_Validate 200 l = some ⟨0, 0⟩) (hlen : c.length < 16) (hr : sandbox_Run 200 e t = some (l, ⟨0, 0⟩)) (hs : keyOf e t = keyOf a t → e = a) : HInv a t (put' c (keyOf e t) l) := by
  refine ⟨put_good hI.good (keyOf_dg e t) hl (.inr hlen), fun hh => ?_⟩
  rw [has_put hI.good] at hh
  rw [at_put hI.good]
  by_cases he : keyOf a t = keyOf e t
  · rw [if_pos he]
    rw [← hs he.symm]
    exact hr
  · rw [if_neg he] at hh ⊢
    exact hI.hit hh
theorem hits_l (es : List SInputsOpsOutput) (a : SInputsOpsOutput) (t : SFiles) (hf : ∀ f ∈ t.Files, f.Path.length ≤ reachBytes) (hn : es.length ≤ 20) (hg : AGood a t) (h : sandbox_Arguments 200 a t = some ⟨0, 0⟩) : ∀ (m i : Nat) (c : List SKeyLines), es.length - i < m → HInv a t c →
    law6_ActioncacheHitsEqualRecomputation_l1 200 es a t (keyOf a t, ⟨0, 0⟩) m c (i : Int) = some true := by
  intro m
  induction m with
  | zero => intro i c h; omega
  | succ m ih =>
    intro i c hm hI
    rw [law6_ActioncacheHitsEqualRecomputation_l1]
    by_cases hlt : i < es.length
    · rw [if_pos (lt_dec hlt), gidx_nat, getElem?_lt hlt, bsome]
      obtain ⟨r, h1, h2, h3⟩ := args_cases es[i] t hf
      have skip : law6_ActioncacheHitsEqualRecomputation_j2 200 t c (i : Int) (law6_ActioncacheHitsEqualRecomputation_l1 200 es a t (keyOf a t, ⟨0, 0⟩) m) es[i] true = some true := by
        unfold law6_ActioncacheHitsEqualRecomputation_j2 law6_ActioncacheHitsEqualRecomputation_j1
        rw [if_pos rfl, gadd_nat (by omega), bsome]
        exact ih (i + 1) c (by omega) hI
      by_cases hr : r.Code = 0
      · have := h2.resolve_right (fun h => h hr); subst this
        have hge := h3 rfl
        rw [(key_eq es[i] t hge h1).1, bsome, if_neg (by simp)]
        have go : (keyOf es[i] t = keyOf a t → es[i] = a) → law6_ActioncacheHitsEqualRecomputation_j2 200 t c (i : Int) (law6_ActioncacheHitsEqualRecomputation_l1 200 es a t (keyOf a t, ⟨0, 0⟩) m) es[i] false = some true := by
          intro hs
          unfold law6_ActioncacheHitsEqualRecomputation_j2 law6_ActioncacheHitsEqualRecomputation_j1
          rw [if_neg (by decide)]
          obtain ⟨q, q1, q2, q3⟩ := crun_eq c es[i] t hI.good hge h1
          rw [q3, bsome]
          by_cases hh : has c (keyOf es[i] t) = true
          · rw [if_pos hh, if_pos (by simp), gadd_nat (by omega), bsome]
            exact ih (i + 1) c (by omega) hI
          · rw [if_neg hh]
            rcases q2 with ⟨q4, q5⟩ | ⟨q4, q5⟩
            · rw [if_pos q4, if_neg (by simpa using q4), gadd_nat (by omega), bsome]
              exact ih (i + 1) c (by omega) hI
            · have q6 : q.2.Code = 0 := by rw [q4]
              rw [if_neg (show ¬ q.2.Code ≠ 0 from fun h => h q6)]
              by_cases hl : c.length < 16
              · rw [if_pos hl, if_pos (by simp), gadd_nat (by omega), bsome]
                have hq : sandbox_Run 200 es[i] t = some (q.1, ⟨0, 0⟩) := by rw [q1, ← q4]
                exact ih (i + 1) _ (by omega) (hinv_put hI q.1 q5 hl hq hs)
              · rw [if_neg hl, if_pos (by simp), gadd_nat (by omega), bsome]
                exact ih (i + 1) c (by omega) hI
        by_cases hk : keyOf es[i] t = keyOf a t
        · have hcut : gcut es (i : Int) ((i + 1 : Nat) : Int) = some [es[i]] := by
            have e : es.take (i + 1) = es.take i ++ [es[i]] := by rw [List.take_add_one, getElem?_lt hlt]; rfl
            rw [gcut_nat (by omega) (by omega), e, List.drop_left' (by rw [List.length_take]; omega)]
          rw [if_pos (by simpa using hk), gadd_nat (by omega), bsome, hcut, bsome, sameActions_eq _ _ hge.act.ins hge.act.ops, bsome]
          by_cases hs : es[i] = a
          · rw [decide_eq_true hs]; exact go fun _ => hs
          · rw [decide_eq_false hs]; exact skip
        · rw [if_neg (by simpa using hk)]
          exact go fun h => absurd h hk
      · rw [key_bad _ _ r hr h1, bsome, if_pos (by simpa using hr)]
        exact skip
    · rw [if_neg (nlt_dec hlt)]
      obtain ⟨q, q1, q2, q3⟩ := crun_eq c a t hI.good hg h
      rw [q1, bsome, q3, bsome]
      have hcl := hI.good.len
      by_cases hh : has c (keyOf a t) = true
      · have hq := hI.hit hh
        rw [q1] at hq
        injection hq with hq
        subst hq
        rw [if_pos hh, if_neg (by simp)]
        show ((actioncache_Lookup 200 c (keyOf a t)).bind fun r17 => _) = _
        rw [lookup_good c _ hI.good (keyOf_dg a t), bsome, if_pos (by simp), if_pos (by simp)]
        have hs := strings_self (at' c (keyOf a t)) (by have := (at_ln hI.good (keyOf a t)).1; omega)
        show ((ref6_Strings 200 (at' c (keyOf a t)) (at' c (keyOf a t))).bind fun r19 => _) = _
        rw [hs, bsome, if_pos rfl, hh, if_pos rfl, bsome, if_pos rfl]
        rfl
      · rw [if_neg hh]
        rcases q2 with ⟨q4, q5⟩ | ⟨q4, q5⟩
        · rw [if_pos q4, if_pos (by simpa using q4)]
          show (if ((q.2.Code == q.2.Code && (q.2.Index == q.2.Index && true)) != false) = true then _ else _) = _
          rw [if_pos (ceq_eq q.2)]
          rfl
        · have q6 : q.2.Code = 0 := by rw [q4]
          have hln := lines_ln q5
          have hs := strings_self q.1 (by have := hln.1; omega)
          rw [if_neg (show ¬ q.2.Code ≠ 0 from fun h => h q6), if_neg (by simpa using q6)]
          by_cases hl : c.length < 16
          · rw [if_pos hl]
            have hgp := put_good hI.good (keyOf_dg a t) q5 (.inr hl)
            show ((actioncache_Lookup 200 (put' c (keyOf a t) q.1) (keyOf a t)).bind fun r17 => _) = _
            rw [lookup_good _ _ hgp (keyOf_dg a t), bsome, if_pos (by simp), if_pos (by simp)]
            have e1 : at' (put' c (keyOf a t) q.1) (keyOf a t) = q.1 := by rw [at_put hI.good, if_pos rfl]
            have e2 : has (put' c (keyOf a t) q.1) (keyOf a t) = true := by rw [has_put hI.good, if_pos rfl]
            show ((ref6_Strings 200 q.1 q.1).bind fun r19 => _) = _
            rw [hs, bsome, if_pos rfl, e2, if_pos rfl, e1]
            show ((ref6_Strings 200 q.1 q.1).bind fun r20 => _) = _
            rw [hs, bsome, if_pos rfl]
            rfl
          · rw [if_neg hl]
            show ((actioncache_Lookup 200 c (keyOf a t)).bind fun r17 => _) = _
            have hh' : has c (keyOf a t) = false := by simpa using hh
            rw [lookup_good c _ hI.good (keyOf_dg a t), bsome, if_pos (by simp), if_pos (by simp)]
            show ((ref6_Strings 200 q.1 q.1).bind fun r19 => _) = _
            rw [hs, bsome, if_pos rfl, hh', if_neg (by simp), if_pos (by simp)]
            have : decide ((c.length : Int) = 16) = true := by simp; omega
            rw [this]
            rfl
theorem cacheHits_eq (es : List SInputsOpsOutput) (a : SInputsOpsOutput) (t : SFiles) (hf : ∀ f ∈ t.Files, f.Path.length ≤ reachBytes) : law6_ActioncacheHitsEqualRecomputation 200 es a t = some true := by
  unfold law6_ActioncacheHitsEqualRecomputation
  rw [caches_eq, bsome, if_neg (by decide)]
  by_cases hn : 20 < es.length
  · rw [if_pos (by simp; omega)]
  · rw [if_neg (by simp; omega)]
    obtain ⟨r, h1, h2, h3⟩ := args_cases a t hf
    by_cases hr : r.Code = 0
    · have := h2.resolve_right (fun h => h hr); subst this
      have hg := h3 rfl
      rw [(key_eq a t hg h1).1, bsome, if_neg (by simp)]
      refine hits_l es a t hf (by omega) hg h1 200 0 [] (by omega) ⟨⟨by simp, .nil, by simp, by simp⟩, fun h => ?_⟩
      cases h
    · rw [key_bad a t r hr h1, bsome, if_pos (by simpa using hr)]
      rfl
end Go.Proofs.YtlkknmhhefjmjaaDoor
