/- The plain laws: digests. -/
import Derived.Test.YtlkknmhhefjmjaaDoorPA
import Derived.Test.YtlkknmhhefjmjaaDoorPwBytes
import Derived.KernelRfl
namespace Go.Proofs.YtlkknmhhefjmjaaDoor
open Go.PW Go
def Dg (a : Int) : Prop := 0 ≤ a ∧ a < 2305843009213693951
instance (a : Int) : Decidable (Dg a) := inferInstanceAs (Decidable (_ ∧ _))
def sumOf (s : List UInt8) : Int := s.foldl (fun h b => (h * 257 + (b.toNat : Int) + 1) % 2305843009213693951) 1
def sumPair (a b : Int) : Int := (a * 1000003 + b * 31 + 7) % 2305843009213693951
def sumList (l : List (List UInt8)) : Int := l.foldl (fun h s => sumPair h (sumOf s)) 2
theorem mod_dg (a : Int) : Dg (a % 2305843009213693951) := by unfold Dg; omega
theorem grem_nn {a : Int} (h : 0 ≤ a) : grem a 2305843009213693951 = some (a % 2305843009213693951) := by
  unfold grem
  rw [if_neg (by decide), Int.tmod_eq_emod_of_nonneg h]
theorem kand1 (b : Nat) (h : b < 9223372036854775808) : kand .i64 (b : Int) 1 = ((b % 2 : Nat) : Int) := by
  unfold kand bitsOf
  have e1 : (BitVec.ofInt (IntKind.bits .i64) (b : Int) &&& BitVec.ofInt (IntKind.bits .i64) 1).toNat = b % 2 := by
    show (BitVec.ofInt 64 (b : Int) &&& BitVec.ofInt 64 1).toNat = b % 2
    rw [BitVec.toNat_and, BitVec.ofInt_natCast, BitVec.toNat_ofNat, Nat.mod_eq_of_lt (by omega)]
    exact Nat.and_one_is_mod b
  rw [e1, IntKind.wrap_i64]
  omega
theorem kshr1 (b : Nat) : kshr .i64 (b : Int) 1 = ((b / 2 : Nat) : Int) := by
  unfold kshr
  have : (2 : Int) ^ min 1 (IntKind.bits .i64) = 2 := rfl
  rw [this, Int.fdiv_eq_ediv_of_nonneg _ (by decide)]
  omega
theorem mod_step (s a b : Int) : (s % 2305843009213693951 + (a % 2305843009213693951) * b) % 2305843009213693951 = (s + a * b) % 2305843009213693951 := by
  rw [Int.add_emod, Int.emod_emod, Int.mul_emod (a % 2305843009213693951) b, Int.emod_emod, ← Int.mul_emod, ← Int.add_emod]
theorem mod_step' (s a b : Int) : (s + (a % 2305843009213693951) * b) % 2305843009213693951 = (s + a * b) % 2305843009213693951 := by
  rw [Int.add_emod, Int.mul_emod (a % 2305843009213693951) b, Int.emod_emod, ← Int.mul_emod, ← Int.add_emod]
theorem mul_l : ∀ (m k b : Nat) (a s : Int), k < m → b < 2 ^ k → k ≤ 60 → Dg a → Dg s → digest_mul_l1 200 m a (b : Int) s = some ((s + a * b) % 2305843009213693951) := by
  intro m
  induction m with
  | zero => intro k b a s h; omega
  | succ m ih =>
    intro k b a s hk hb hk60 ha hs
    have hb63 : b < 9223372036854775808 := Nat.lt_of_lt_of_le hb (Nat.le_trans (Nat.pow_le_pow_right (by decide) hk60) (by decide))
    unfold Dg at ha hs
    rw [digest_mul_l1]
    by_cases h0 : b = 0
    · subst h0
      rw [if_neg (by simp)]
      unfold digest_mul_j1
      rw [Int.emod_eq_of_lt (by simp; omega) (by simp; omega)]
      simp
    · rw [if_pos (by simp; omega), kand1 b hb63]
      obtain ⟨k, rfl⟩ : ∃ j, k = j + 1 := ⟨k - 1, by
        cases k with
        | zero => simp at hb; omega
        | succ k => omega⟩
      have hb2 : b / 2 < 2 ^ k := by rw [Nat.pow_succ] at hb; omega
      have hda := mod_dg (2 * a)
      by_cases hbit : b % 2 = 1
      · rw [if_pos (by simp [hbit]), gaddI (by omega), bsome, grem_nn (by omega), bsome]
        unfold digest_mul_j2
        rw [gmulI (by omega), bsome, grem_nn (by omega), bsome, kshr1, ih k (b / 2) _ _ (by omega) hb2 (by omega) hda (mod_dg _), mod_step]
        congr 2
        have : (b : Int) = 2 * ((b / 2 : Nat) : Int) + 1 := by omega
        rw [this, Int.mul_add, Int.mul_one, Int.add_assoc, Int.add_comm (a * _), ← Int.mul_assoc, Int.mul_comm a 2]
      · rw [if_neg (by simp; omega)]
        unfold digest_mul_j2
        rw [gmulI (by omega), bsome, grem_nn (by omega), bsome, kshr1, ih k (b / 2) _ _ (by omega) hb2 (by omega) hda hs, mod_step']
        congr 2
        have : (b : Int) = 2 * ((b / 2 : Nat) : Int) := by omega
        rw [this, ← Int.mul_assoc, Int.mul_comm a 2]
theorem mul_eq (a : Int) (b : Nat) (hb : b < 2 ^ 60) (ha : Dg a) : digest_mul 200 a (b : Int) = some ((a * b) % 2305843009213693951) := by
  unfold digest_mul
  rw [mul_l 200 60 b a 0 (by omega) hb (by omega) ha (by unfold Dg; omega), Int.zero_add]
theorem next_eq (a c : Int) (b : Nat) (hb : b < 2 ^ 60) (ha : Dg a) (hc : Dg c) : digest_next 200 ⟨a, c⟩ (b : Int) = some ((a * b + c) % 2305843009213693951) := by
  unfold digest_next
  have h1 := mod_dg (a * b)
  rw [mul_eq a b hb ha, bsome]
  unfold Dg at h1 hc
  rw [gaddI (by simp only []; omega), bsome, grem_nn (by simp only []; omega), bsome]
  congr 1
  exact Int.emod_add_emod _ _ _
theorem wrap_u8 (b : UInt8) : IntKind.wrap .i64 (b.toNat : Int) = (b.toNat : Int) := by
  rw [IntKind.wrap_i64]
  have := b.toNat_lt
  omega
theorem bts_get (s : List UInt8) (i : Nat) (h : i < s.length) : (bts s)[i]? = some ((s[i].toNat : Nat) : Int) := by
  unfold bts
  rw [List.getElem?_map, getElem?_lt h]; rfl
theorem bts_len (s : List UInt8) : (bts s).length = s.length := by simp [bts]
theorem foldl_snoc {α β : Type} (f : β → α → β) (z : β) (l : List α) (i : Nat) (h : i < l.length) : (l.take (i + 1)).foldl f z = f ((l.take i).foldl f z) l[i] := by
  rw [List.take_add_one, getElem?_lt h, List.foldl_append]; rfl
theorem sumOf_dg (s : List UInt8) : Dg (sumOf s) := by
  unfold sumOf
  rcases List.eq_nil_or_concat s with rfl | ⟨l, x, rfl⟩
  · unfold Dg; simp
  · rw [List.concat_eq_append, List.foldl_append]; exact mod_dg _
theorem sumPair_dg (a b : Int) : Dg (sumPair a b) := mod_dg _
theorem sumList_dg (l : List (List UInt8)) : Dg (sumList l) := by
  unfold sumList
  rcases List.eq_nil_or_concat l with rfl | ⟨l, x, rfl⟩
  · unfold Dg; simp
  · rw [List.concat_eq_append, List.foldl_append]; exact sumPair_dg _ _
theorem of_l (s : List UInt8) (hl : s.length ≤ 100) : ∀ (m i : Nat), s.length - i < m → i ≤ s.length → digest_Of_l1 200 (bts s) m (sumOf (s.take i)) (i : Int) = some (sumOf s, ⟨0, 0⟩) := by
  intro m
  induction m with
  | zero => intro i h; omega
  | succ m ih =>
    intro i h hil
    rw [digest_Of_l1]
    by_cases hlt : i < s.length
    · have hb := s[i].toNat_lt
      rw [if_pos (by rw [bts_len]; simp; omega), gidx_nat, bts_get s i hlt, bsome, wrap_u8, gaddI (by omega), bsome]
      have hd := sumOf_dg (s.take i)
      have hn := next_eq (sumOf (s.take i)) ((s[i].toNat : Int) + 1) 257 (by decide) hd (by unfold Dg; omega)
      rw [show ((257 : Nat) : Int) = 257 from rfl] at hn
      rw [hn, bsome, gadd_nat (by omega), bsome]
      have := ih (i + 1) (by omega) (by omega)
      have e1 : sumOf (s.take (i + 1)) = (sumOf (s.take i) * 257 + ((s[i].toNat : Int) + 1)) % 2305843009213693951 := by
        unfold sumOf
        rw [foldl_snoc _ _ _ _ hlt, Int.add_assoc]
      rw [e1] at this
      exact this
    · rw [if_neg (by rw [bts_len]; simp; omega), List.take_of_length_le (by omega)]
theorem of_eq (s : List UInt8) (hl : s.length ≤ 100) : digest_Of 200 (bts s) = some (sumOf s, ⟨0, 0⟩) := by
  unfold digest_Of
  rw [if_neg (by rw [bts_len]; simp; omega)]
  exact of_l s hl 200 0 (by omega) (by omega)
theorem pair_eq (a b : Int) (ha : Dg a) (hb : Dg b) : digest_pair 200 a b = some (sumPair a b) := by
  unfold digest_pair
  have h1 := next_eq b 7 31 (by decide) hb (by unfold Dg; omega)
  rw [show ((31 : Nat) : Int) = 31 from rfl] at h1
  rw [h1, bsome]
  have h2 := next_eq a ((b * 31 + 7) % 2305843009213693951) 1000003 (by decide) ha (mod_dg _)
  rw [show ((1000003 : Nat) : Int) = 1000003 from rfl] at h2
  rw [h2, bsome]
  unfold sumPair
  congr 1
  rw [Int.add_emod_emod, Int.add_assoc]
def Ln (l : List (List UInt8)) : Prop := l.length ≤ 120 ∧ ∀ s ∈ l, s.length ≤ 80
theorem strs_l (l : List (List UInt8)) (hl : Ln l) : ∀ (m i : Nat), l.length - i < m → i ≤ l.length → digest_Strings_l1 200 l m (sumList (l.take i)) (i : Int) = some (sumList l, ⟨0, 0⟩) := by
  intro m
  induction m with
  | zero => intro i h; omega
  | succ m ih =>
    intro i h hil
    rw [digest_Strings_l1]
    have h120 := hl.1
    by_cases hlt : i < l.length
    · have h80 := hl.2 _ (List.getElem_mem hlt)
      rw [if_pos (lt_dec hlt), gidx_nat, getElem?_lt hlt, bsome, of_eq _ (by omega), bsome, if_neg fault_none, pair_eq _ _ (sumList_dg _) (sumOf_dg _), bsome, gadd_nat (by omega), bsome]
      have := ih (i + 1) (by omega) (by omega)
      have e1 : sumList (l.take (i + 1)) = sumPair (sumList (l.take i)) (sumOf l[i]) := by
        unfold sumList
        rw [foldl_snoc _ _ _ _ hlt]
      rw [e1] at this
      exact this
    · rw [if_neg (nlt_dec hlt), List.take_of_length_le (by omega)]
theorem strs_eq (l : List (List UInt8)) (hl : Ln l) : digest_Strings 200 l = some (sumList l, ⟨0, 0⟩) := by
  unfold digest_Strings
  have h120 := hl.1
  rw [if_neg (by simp; omega)]
  exact strs_l l hl 200 0 (by omega) (by omega)
theorem times_l : ∀ (m k b : Nat) (a s : Int), k < m → b < 2 ^ k → k ≤ 60 → Dg a → Dg s → ref1_times_l1 200 m a (b : Int) s = some ((s + a * b) % 2305843009213693951) := by
  intro m
  induction m with
  | zero => intro k b a s h; omega
  | succ m ih =>
    intro k b a s hk hb hk60 ha hs
    unfold Dg at ha hs
    rw [ref1_times_l1]
    by_cases h0 : b = 0
    · subst h0
      rw [if_neg (by simp)]
      unfold ref1_times_j1
      rw [Int.emod_eq_of_lt (by simp; omega) (by simp; omega)]
      simp
    · have hb63 : b < 9223372036854775808 := Nat.lt_of_lt_of_le hb (Nat.le_trans (Nat.pow_le_pow_right (by decide) hk60) (by decide))
      have hr : grem (b : Int) 2 = some ((b % 2 : Nat) : Int) := by
        unfold grem
        rw [if_neg (by decide), Int.tmod_eq_emod_of_nonneg (by omega)]; rfl
      have hq : gquo (b : Int) 2 = some ((b / 2 : Nat) : Int) := by
        unfold gquo
        rw [if_neg (by decide), Int.tdiv_eq_ediv_of_nonneg (by omega), gchk_ok (by omega)]; rfl
      rw [if_pos (by simp; omega), hr, bsome]
      obtain ⟨k, rfl⟩ : ∃ j, k = j + 1 := ⟨k - 1, by
        cases k with
        | zero => simp at hb; omega
        | succ k => omega⟩
      have hb2 : b / 2 < 2 ^ k := by rw [Nat.pow_succ] at hb; omega
      have hda := mod_dg (a + a)
      by_cases hbit : b % 2 = 1
      · rw [if_pos (by simp [hbit]), gaddI (by omega), bsome, grem_nn (by omega), bsome]
        unfold ref1_times_j2
        rw [gaddI (by omega), bsome, grem_nn (by omega), bsome, hq, bsome]
        rw [ih k (b / 2) ((a + a) % 2305843009213693951) ((s + a) % 2305843009213693951) (by omega) hb2 (by omega) hda (mod_dg _), mod_step]
        refine congrArg (fun z => some (z % 2305843009213693951)) ?_
        have : (b : Int) = 2 * ((b / 2 : Nat) : Int) + 1 := by omega
        rw [this, Int.mul_add, Int.mul_one, Int.add_assoc, Int.add_comm (a * _), ← Int.mul_assoc, Int.mul_comm a 2, Int.two_mul]
      · rw [if_neg (by simp; omega)]
        unfold ref1_times_j2
        rw [gaddI (by omega), bsome, grem_nn (by omega), bsome, hq, bsome]
        rw [ih k (b / 2) ((a + a) % 2305843009213693951) s (by omega) hb2 (by omega) hda hs, mod_step']
        refine congrArg (fun z => some (z % 2305843009213693951)) ?_
        have : (b : Int) = 2 * ((b / 2 : Nat) : Int) := by omega
        rw [this, ← Int.mul_assoc, Int.mul_comm a 2, Int.two_mul]
theorem times_eq (a : Int) (b : Nat) (hb : b < 2 ^ 60) (ha : Dg a) : ref1_times 200 a (b : Int) = some ((a * b) % 2305843009213693951) := by
  unfold ref1_times
  rw [times_l 200 60 b a 0 (by omega) hb (by omega) ha (by unfold Dg; omega), Int.zero_add]
theorem rpair_eq (a b : Int) (ha : Dg a) (hb : Dg b) : ref1_DigestPair 200 a b = some (sumPair a b) := by
  unfold ref1_DigestPair
  have h1 := times_eq a 1000003 (by decide) ha
  have h2 := times_eq b 31 (by decide) hb
  rw [show ((1000003 : Nat) : Int) = 1000003 from rfl] at h1
  rw [show ((31 : Nat) : Int) = 31 from rfl] at h2
  have d1 := mod_dg (a * 1000003)
  have d2 := mod_dg (b * 31)
  unfold Dg at d1 d2
  rw [h1, bsome, h2, bsome, gaddI (by omega), bsome, gaddI (by omega), bsome, grem_nn (by omega), bsome]
  unfold sumPair
  congr 1
  omega
theorem rof_l (s : List UInt8) (hl : s.length ≤ 100) : ∀ (m i : Nat), s.length - i < m → i ≤ s.length → ref1_DigestOf_l1 200 (bts s) m (sumOf (s.take i)) (i : Int) = some (sumOf s) := by
  intro m
  induction m with
  | zero => intro i h; omega
  | succ m ih =>
    intro i h hil
    rw [ref1_DigestOf_l1]
    by_cases hlt : i < s.length
    · have hb := s[i].toNat_lt
      have hn := times_eq (sumOf (s.take i)) 257 (by decide) (sumOf_dg _)
      rw [show ((257 : Nat) : Int) = 257 from rfl] at hn
      have d1 := mod_dg (sumOf (s.take i) * 257)
      unfold Dg at d1
      rw [if_pos (by rw [bts_len]; simp; omega), hn, bsome, gidx_nat, bts_get s i hlt, bsome, wrap_u8, gaddI (by omega), bsome, gaddI (by omega), bsome, grem_nn (by omega), bsome, gadd_nat (by omega), bsome]
      have := ih (i + 1) (by omega) (by omega)
      have e1 : sumOf (s.take (i + 1)) = (sumOf (s.take i) * 257 % 2305843009213693951 + (s[i].toNat : Int) + 1) % 2305843009213693951 := by
        unfold sumOf
        rw [foldl_snoc _ _ _ _ hlt, Int.add_assoc (_ % _), Int.emod_add_emod, Int.add_assoc]
      rw [e1] at this
      exact this
    · rw [if_neg (by rw [bts_len]; simp; omega), List.take_of_length_le (by omega)]
theorem rof_eq (s : List UInt8) (hl : s.length ≤ 100) : ref1_DigestOf 200 (bts s) = some (sumOf s) := rof_l s hl 200 0 (by omega) (by omega)
theorem rstrs_l (l : List (List UInt8)) (hl : Ln l) : ∀ (m i : Nat), l.length - i < m → i ≤ l.length → ref1_DigestStrings_l1 200 l m (sumList (l.take i)) (i : Int) = some (sumList l, ⟨0, 0⟩) := by
  intro m
  induction m with
  | zero => intro i h; omega
  | succ m ih =>
    intro i h hil
    rw [ref1_DigestStrings_l1]
    have h120 := hl.1
    by_cases hlt : i < l.length
    · have h80 := hl.2 _ (List.getElem_mem hlt)
      rw [if_pos (lt_dec hlt), gidx_nat, getElem?_lt hlt, bsome, if_neg (by simp; omega), rof_eq _ (by omega), bsome, rpair_eq _ _ (sumList_dg _) (sumOf_dg _), bsome, gadd_nat (by omega), bsome]
      have := ih (i + 1) (by omega) (by omega)
      have e1 : sumList (l.take (i + 1)) = sumPair (sumList (l.take i)) (sumOf l[i]) := by
        unfold sumList
        rw [foldl_snoc _ _ _ _ hlt]
      rw [e1] at this
      exact this
    · rw [if_neg (nlt_dec hlt), List.take_of_length_le (by omega)]
theorem stringsSum_eq (l : List (List UInt8)) (hl : Ln l) : ref6_stringsSum 200 l = some (sumList l) := by
  unfold ref6_stringsSum ref1_DigestStrings
  have h120 := hl.1
  have := rstrs_l l hl 200 0 (by omega) (by omega)
  rw [List.take_zero] at this
  rw [if_neg (by simp; omega)]
  rw [show sumList [] = 2 from rfl] at this
  rw [show ((0 : Nat) : Int) = 0 from rfl] at this
  rw [this, bsome]
end Go.Proofs.YtlkknmhhefjmjaaDoor
namespace Go.Proofs.YtlkknmhhefjmjaaDoor
open Go.PW Go
theorem linesV_80 (l : List (List UInt8)) (hl : l.length ≤ 120) : ∀ (m i : Nat), l.length - i < m → lines_Validate_l1 200 l m (i : Int) = some ⟨0, 0⟩ → ∀ s ∈ l.drop i, s.length ≤ 80 := by
  intro m
  induction m with
  | zero => intro i h; omega
  | succ m ih =>
    intro i h h0 s hs
    rw [lines_Validate_l1] at h0
    by_cases hlt : i < l.length
    · rw [if_pos (lt_dec hlt), gidx_nat, getElem?_lt hlt, bsome] at h0
      by_cases h80 : 80 < l[i].length
      · rw [if_pos (by simp; omega)] at h0
        have := congrArg SCodeIndex.Code (Option.some.inj h0)
        simp at this
      · rw [if_neg (by simp; omega)] at h0
        unfold strings_IndexByte at h0
        rw [bsome] at h0
        split at h0
        · have := congrArg SCodeIndex.Code (Option.some.inj h0)
          simp at this
        · rw [gadd_nat (by omega), bsome] at h0
          rw [List.drop_eq_getElem_cons hlt] at hs
          rcases List.mem_cons.1 hs with rfl | hs
          · omega
          · exact ih (i + 1) (by omega) h0 s hs
    · rw [List.drop_of_length_le (by omega)] at hs
      cases hs
theorem lines_ln {l : List (List UInt8)} (h : lines_Validate 200 l = some ⟨0, 0⟩) : Ln l := by
  have hl := lines_len h
  unfold lines_Validate at h
  rw [if_neg (by simp; omega)] at h
  exact ⟨hl, fun s hs => linesV_80 l hl 200 0 (by omega) h s (by simpa using hs)⟩
structure TGood (t : SFiles) : Prop where
  len : t.Files.length ≤ 24
  ok : TreeOk t.Files
  rise : Rise t.Files
theorem TGood.lns {t : SFiles} (h : TGood t) {f : SPathLines} (hf : f ∈ t.Files) : Ln f.Lines := lines_ln (h.ok.2 f hf).2
theorem tgood_of (t : SFiles) (hf : ∀ f ∈ t.Files, f.Path.length < big) (h : treepatch_Validate 200 t = some ⟨0, 0⟩) : TGood t := by
  unfold treepatch_Validate at h
  by_cases hl : 24 < t.Files.length
  · rw [if_pos (by simp; omega)] at h
    have := congrArg SCodeIndex.Code (Option.some.inj h)
    simp at this
  · rw [if_neg (by simp; omega)] at h
    have hr : Rise t.Files := rise_of fun i hi => treeV_rise t (by omega) hf 200 0 (by omega) h i hi (by omega)
    have hF := tree_facts t (by omega) hf 200 0 (by omega) h
    refine ⟨by omega, ⟨?_, ?_⟩, hr⟩
    · rw [List.pairwise_iff_getElem]
      intro i j hi hj hij
      refine ⟨hr i j hi hj hij, (hF j hj (by omega)).2.2 _ ?_⟩
      rw [List.mem_take_iff_getElem]
      exact ⟨i, by omega, rfl⟩
    · intro f hm
      obtain ⟨j, hj, rfl⟩ := List.getElem_of_mem hm
      exact ⟨(hF j hj (by omega)).1, (hF j hj (by omega)).2.1⟩
theorem valid_of (t : SFiles) (hf : ∀ f ∈ t.Files, f.Path.length < big) (h : TGood t) : treepatch_Validate 200 t = some ⟨0, 0⟩ := by
  unfold treepatch_Validate
  have := h.len
  rw [if_neg (by simp; omega)]
  exact treeV_of t.Files h.len hf h.ok 200 0 (by omega)
theorem treeAt_eq (t : SFiles) (hf : ∀ f ∈ t.Files, f.Path.length < big) (k : Int) : ref6_TreeAt 200 t k = treepatch_Second 200 t k := by
  unfold ref6_TreeAt treepatch_Second ref6_TreeAt_j1
  rw [tree_eq t hf]
  obtain ⟨r, h1, h2⟩ := treeV_ok t hf
  rw [h1, bsome, bsome]
  rcases h2 with rfl | h2
  · rw [if_neg (by simp), if_neg fault_none]
  · rw [if_pos (by simpa using h2), if_pos (fault_ne h2)]
theorem second_cases (t : SFiles) (hf : ∀ f ∈ t.Files, f.Path.length < big) (k : Int) : (TGood t ∧ treepatch_Second 200 t k = some ⟨0, 0⟩) ∨ ∃ c, c ≠ 0 ∧ ¬ TGood t ∧ treepatch_Second 200 t k = some ⟨c, k⟩ := by
  unfold treepatch_Second
  obtain ⟨r, h1, h2⟩ := treeV_ok t hf
  rcases h2 with rfl | h2
  · exact .inl ⟨tgood_of t hf h1, by rw [h1, bsome, if_neg fault_none]⟩
  · refine .inr ⟨r.Code, h2, fun hg => ?_, by rw [h1, bsome, if_pos (fault_ne h2)]⟩
    rw [valid_of t hf hg] at h1
    have := congrArg SCodeIndex.Code (Option.some.inj h1)
    exact h2 this.symm
def fileOf (t : SFiles) (p : List UInt8) : Option (List (List UInt8)) := (getK SPathLines.Path p t.Files).map (·.Lines)
theorem getK_first (fs : List SPathLines) (p : List UInt8) (i : Nat) (_ : SPathLines) (h : i < fs.length) : getK SPathLines.Path p (fs.drop i) = if fs[i].Path = p then some fs[i] else getK SPathLines.Path p (fs.drop (i + 1)) := by
  rw [List.drop_eq_getElem_cons h]; rfl
theorem fileIn_l2 (t : SFiles) (p : List UInt8) (hl : t.Files.length ≤ 24) : ∀ (m i : Nat), t.Files.length - i < m →
    ref6_FileIn_l1 200 t p m (i : Int) = some ((((getK SPathLines.Path p (t.Files.drop i)).map (·.Lines)).getD []), (getK SPathLines.Path p (t.Files.drop i)).isSome) := by
  intro m
  induction m with
  | zero => intro i h; omega
  | succ m ih =>
    intro i h
    rw [ref6_FileIn_l1]
    by_cases hlt : i < t.Files.length
    · rw [if_pos (lt_dec hlt), gidx_nat, getElem?_lt hlt, bsome, getK_first _ _ _ t.Files[i] hlt]
      by_cases he : t.Files[i].Path = p
      · rw [if_pos (by simpa using he), if_pos he]; rfl
      · rw [if_neg (by simpa using he), if_neg he, gadd_nat (by omega), bsome]
        exact ih (i + 1) (by omega)
    · rw [if_neg (nlt_dec hlt), List.drop_of_length_le (by omega)]; rfl
theorem fileIn_eq (t : SFiles) (p : List UInt8) (hl : t.Files.length ≤ 24) : ref6_FileIn 200 t p = some ((fileOf t p).getD [], (fileOf t p).isSome) := by
  have := fileIn_l2 t p hl 200 0 (by omega)
  unfold ref6_FileIn fileOf
  rw [List.drop_zero] at this
  rw [show ((0 : Nat) : Int) = 0 from rfl] at this
  rw [this]; simp
theorem TGood.rises {t : SFiles} (h : TGood t) : Rises Op.bytesLess SPathLines.Path t.Files := h.ok.1.imp fun hab => hab.1
theorem find_good (t : SFiles) (h : TGood t) (p : List UInt8) : ∃ (k : Nat) (b : Bool), treepatch_Find 200 t.Files p = some ((k : Int), b) ∧ (b = (fileOf t p).isSome) ∧ (b = true → ∃ hk : k < t.Files.length, fileOf t p = some (t.Files[k]).Lines) := by
  obtain ⟨k, b, h1, h2, h3⟩ := find_spec t.Files p h.len h.rise
  cases b with
  | true =>
    obtain ⟨hk, hp⟩ := h2 rfl
    have hg := getK_of_mem totalBytes h.rises (List.getElem_mem hk)
    rw [hp] at hg
    have : fileOf t p = some (t.Files[k]).Lines := by unfold fileOf; rw [hg]; rfl
    exact ⟨k, true, h1, by rw [this]; rfl, fun _ => ⟨hk, this⟩⟩
  | false =>
    have : getK SPathLines.Path p t.Files = none := getK_none.2 (h3 rfl)
    exact ⟨k, false, h1, by unfold fileOf; rw [this]; rfl, fun h => by cases h⟩
theorem fileOf_ln {t : SFiles} (h : TGood t) {p : List UInt8} {l : List (List UInt8)} (hl : fileOf t p = some l) : Ln l := by
  unfold fileOf at hl
  obtain ⟨f, h1, rfl⟩ := Option.map_eq_some_iff.1 hl
  exact h.lns (getK_mem h1).1
def fsum (t : SFiles) (p : List UInt8) : Int := match fileOf t p with
  | some l => sumList l
  | none => -1
theorem fsum_ok {t : SFiles} {p : List UInt8} : fsum t p = -1 ∨ Dg (fsum t p) := by
  unfold fsum
  split
  · exact .inr (sumList_dg _)
  · exact .inl rfl
theorem describe_eq (t : SFiles) (h : TGood t) (p : List UInt8) : bom_describe 200 t p = some (fsum t p) := by
  unfold bom_describe fsum
  obtain ⟨k, b, h1, h2, h3⟩ := find_good t h p
  rw [h1, bsome]
  cases b with
  | true =>
    obtain ⟨hk, h4⟩ := h3 rfl
    rw [if_neg (by simp), gidx_nat, getElem?_lt hk, bsome, strs_eq _ (fileOf_ln h h4), bsome, h4]
  | false =>
    rw [if_pos (by simp)]
    cases h5 : fileOf t p with
    | none => rfl
    | some l => rw [h5] at h2; cases h2
theorem fileSum_eq (t : SFiles) (h : TGood t) (p : List UInt8) : ref6_FileSum 200 t p = some (fsum t p) := by
  unfold ref6_FileSum fsum
  rw [fileIn_eq t p h.len, bsome]
  cases h5 : fileOf t p with
  | none => rw [if_pos (by simp)]
  | some l =>
    rw [if_neg (by simp)]
    show (ref6_stringsSum 200 l).bind _ = _
    rw [stringsSum_eq l (fileOf_ln h h5), bsome]
end Go.Proofs.YtlkknmhhefjmjaaDoor
namespace Go.Proofs.YtlkknmhhefjmjaaDoor
open Go.PW Go
theorem isDigest_eq (a : Int) : signing_IsDigest 200 a = some (decide (Dg a)) := by
  unfold signing_IsDigest signing_IsDigest_j1 Dg
  by_cases h : 0 ≤ a <;> simp [h]
theorem isDigest5_eq (a : Int) : ref5_IsDigest 200 a = some (decide (Dg a)) := by
  unfold ref5_IsDigest ref5_in ref5_in_j1 Dg
  by_cases h : 0 ≤ a
  · rw [if_pos (by simpa using h), bsome]
    congr 1
    simp [h]
    omega
  · rw [if_neg (by simpa using h), bsome]
    simp [h]
theorem pathsF_l (l : List (List UInt8)) (hl : l.length ≤ 24) : ∀ (m i : Nat), l.length - i < m → ∃ r, ref6_PathsFault_l1 200 l m (i : Int) = some r ∧ Fine r := by
  intro m
  induction m with
  | zero => intro i h; omega
  | succ m ih =>
    intro i h
    rw [ref6_PathsFault_l1]
    unfold ref6_PathsFault_j1 ref6_fault
    by_cases hlt : i < l.length
    · rw [if_pos (lt_dec hlt), gidx_nat, getElem?_lt hlt, bsome, pathValid_eq, bsome]
      by_cases hv : libValidPath l[i] = true
      · rw [if_neg (by simp [hv])]
        by_cases h0 : 0 < i
        · rw [if_pos (by simp; omega), gsubI (by omega), bsome, show (i : Int) - 1 = ((i - 1 : Nat) : Int) by omega, gidx_nat, getElem?_lt (show i - 1 < l.length by omega), bsome]
          split
          · exact ⟨_, rfl, .inr (by simp)⟩
          · rw [gadd_nat (by omega), bsome]; exact ih (i + 1) (by omega)
        · rw [if_neg (by simp; omega), if_neg (by simp), gadd_nat (by omega), bsome]; exact ih (i + 1) (by omega)
      · rw [if_pos (by simp [hv]), bsome]; exact ⟨_, rfl, .inr (by simp)⟩
    · rw [if_neg (nlt_dec hlt)]; exact ⟨_, rfl, .none⟩
theorem pathsF (l : List (List UInt8)) : ∃ r, ref6_PathsFault 200 l = some r ∧ Fine r ∧ (r = ⟨0, 0⟩ → l.length ≤ 24) := by
  unfold ref6_PathsFault ref6_fault
  by_cases h : 24 < l.length
  · rw [if_pos (by simp; omega), bsome]
    exact ⟨_, rfl, .inr (by simp), fun h => by cases h⟩
  · rw [if_neg (by simp; omega)]
    obtain ⟨r, h1, h2⟩ := pathsF_l l (by omega) 200 0 (by omega)
    exact ⟨r, h1, h2, fun _ => by omega⟩
structure PGood (l : List (List UInt8)) : Prop where
  len : l.length ≤ 24
  valid : ∀ p ∈ l, libValidPath p = true
  up : l.Pairwise fun x y => Op.bytesLess x y = true
theorem pathsG_l (l : List (List UInt8)) (hl : l.length ≤ 24) : ∀ (m i : Nat), l.length - i < m → ref6_PathsFault_l1 200 l m (i : Int) = some ⟨0, 0⟩ →
    ∀ (j : Nat) (hj : j < l.length), i ≤ j → libValidPath l[j] = true ∧ ∀ (h0 : 0 < j), Op.bytesLess l[j - 1] l[j] = true := by
  intro m
  induction m with
  | zero => intro i h; omega
  | succ m ih =>
    intro i h h0 j hj hij
    rw [ref6_PathsFault_l1] at h0
    unfold ref6_PathsFault_j1 ref6_fault at h0
    have hlt : i < l.length := by omega
    rw [if_pos (lt_dec hlt), gidx_nat, getElem?_lt hlt, bsome, pathValid_eq, bsome] at h0
    by_cases hv : libValidPath l[i] = true
    · rw [if_neg (by simp [hv])] at h0
      have key : (∀ (hi0 : 0 < i), Op.bytesLess l[i - 1] l[i] = true) ∧ ref6_PathsFault_l1 200 l m ((i + 1 : Nat) : Int) = some ⟨0, 0⟩ := by
        by_cases hi0 : 0 < i
        · rw [if_pos (by simp; omega), gsubI (by omega), bsome, show (i : Int) - 1 = ((i - 1 : Nat) : Int) by omega, gidx_nat, getElem?_lt (show i - 1 < l.length by omega), bsome] at h0
          split at h0
          · exact absurd (congrArg SCodeIndex.Code (Option.some.inj h0)) (by simp)
          · rename_i hc
            rw [gadd_nat (by omega), bsome] at h0
            exact ⟨fun _ => bytes_total (by simpa using hc), h0⟩
        · rw [if_neg (by simp; omega), if_neg (by simp), gadd_nat (by omega), bsome] at h0
          exact ⟨fun h => absurd h hi0, h0⟩
      by_cases hje : j = i
      · subst hje; exact ⟨hv, key.1⟩
      · exact ih (i + 1) (by omega) key.2 j hj (by omega)
    · rw [if_pos (by simp [hv]), bsome] at h0
      exact absurd (congrArg SCodeIndex.Code (Option.some.inj h0)) (by simp)
theorem up_of_adj {l : List (List UInt8)} (h : ∀ (j : Nat) (hj : j < l.length) (h0 : 0 < j), Op.bytesLess l[j - 1] l[j] = true) : l.Pairwise fun x y => Op.bytesLess x y = true := by
  rw [List.pairwise_iff_getElem]
  intro i j hi hj hij
  obtain ⟨d, rfl⟩ : ∃ d, j = i + 1 + d := ⟨j - (i + 1), by omega⟩
  induction d with
  | zero => exact h (i + 1) hj (by omega)
  | succ d ih => exact bytes_trans (ih (by omega) (by omega)) (h (i + 1 + (d + 1)) hj (by omega))
theorem pgood_of (l : List (List UInt8)) (h : ref6_PathsFault 200 l = some ⟨0, 0⟩) : PGood l := by
  obtain ⟨r, h1, _, h3⟩ := pathsF l
  rw [h1] at h
  injection h with h
  have hl := h3 h
  unfold ref6_PathsFault at h1
  rw [if_neg (by simp; omega), h] at h1
  have hG := pathsG_l l hl 200 0 (by omega) h1
  refine ⟨hl, fun p hp => ?_, up_of_adj fun j hj h0 => (hG j hj (by omega)).2 h0⟩
  obtain ⟨j, hj, rfl⟩ := List.getElem_of_mem hp
  exact (hG j hj (by omega)).1
def bill (l : List (List UInt8)) (t : SFiles) : List SPathDigest := l.map fun p => ⟨p, fsum t p⟩
theorem make_l1 (l : List (List UInt8)) (t : SFiles) (hl : l.length ≤ 24) (ht : TGood t) : ∀ (m i : Nat), l.length - i < m → i ≤ l.length → bom_Make_l1 200 l t m (bill (l.take i) t) (i : Int) = some (bill l t, ⟨0, 0⟩) := by
  intro m
  induction m with
  | zero => intro i h; omega
  | succ m ih =>
    intro i h hil
    rw [bom_Make_l1]
    by_cases hlt : i < l.length
    · rw [if_pos (lt_dec hlt), gidx_nat, getElem?_lt hlt, bsome, describe_eq t ht, bsome, gapp_ok (by simp [bill]; omega), bsome, gadd_nat (by omega), bsome]
      have := ih (i + 1) (by omega) (by omega)
      rw [List.take_add_one, getElem?_lt hlt] at this
      simp only [bill, List.map_append, Option.toList, List.map_cons, List.map_nil] at this
      exact this
    · rw [if_neg (nlt_dec hlt), List.take_of_length_le (by omega)]
theorem make_l2 (l : List (List UInt8)) (t : SFiles) (hl : l.length ≤ 24) : ∀ (m i : Nat), bom_Make_l2 200 l t m (i : Int) = (ref6_PathsFault_l1 200 l m (i : Int)).bind fun r => bom_Make_j1 200 l t r.Code r.Index := by
  intro m
  induction m with
  | zero => intro i; rw [bom_Make_l2, ref6_PathsFault_l1]; rfl
  | succ m ih =>
    intro i
    rw [bom_Make_l2, ref6_PathsFault_l1]
    unfold ref6_PathsFault_j1 ref6_fault bom_Make_j2 bom_Make_j3 bom_Make_j4 bom_Make_j5 bom_Make_j3 treepatch_ValidPath
    by_cases hlt : i < l.length
    · rw [if_pos (lt_dec hlt), if_pos (lt_dec hlt), gidx_nat, getElem?_lt hlt]
      simp only [bsome, pathValid_eq]
      by_cases hv : libValidPath l[i] = true
      · have hv' : (!libValidPath l[i]) = false := by simp [hv]
        simp only [hv', Bool.false_eq_true, if_false]
        by_cases h0 : 0 < i
        · have h0' : decide (0 < (i : Int)) = true := by simp; omega
          have hs : gsub (i : Int) 1 = some ((i - 1 : Nat) : Int) := by rw [gsubI (by omega)]; congr 1; omega
          simp only [h0', eq_self, if_true, hs, bsome, gidx_nat, getElem?_lt (show i - 1 < l.length by omega)]
          split
          · rfl
          · rw [gadd_nat (by omega), bsome, bsome]; exact ih (i + 1)
        · have h0' : decide (0 < (i : Int)) = false := by simp; omega
          simp only [h0', Bool.false_eq_true, if_false, gadd_nat (show i < 1000000 by omega), bsome]; exact ih (i + 1)
      · have hv' : (!libValidPath l[i]) = true := by simp [hv]
        simp only [hv', eq_self, if_true, bsome]
    · rw [if_neg (nlt_dec hlt), if_neg (nlt_dec hlt), bsome]
theorem make_eq (l : List (List UInt8)) (t : SFiles) (hf : ∀ f ∈ t.Files, f.Path.length < big) : ∃ r s, ref6_PathsFault 200 l = some r ∧ Fine r ∧ treepatch_Second 200 t (-2) = some s ∧ Fine s ∧
    bom_Make 200 l t = some (if r.Code ≠ 0 then ([], r) else if s.Code ≠ 0 then ([], s) else (bill l t, ⟨0, 0⟩)) := by
  obtain ⟨r, h1, h2, h3⟩ := pathsF l
  have hs : ∃ s, treepatch_Second 200 t (-2) = some s ∧ Fine s ∧ (s = ⟨0, 0⟩ → TGood t) := by
    rcases second_cases t hf (-2) with ⟨hg, h⟩ | ⟨c, hc, _, h⟩
    · exact ⟨_, h, .none, fun _ => hg⟩
    · exact ⟨_, h, .inr hc, fun e => absurd (congrArg SCodeIndex.Code e) hc⟩
  obtain ⟨s, h4, h5, h6⟩ := hs
  refine ⟨r, s, h1, h2, h4, h5, ?_⟩
  have hj : bom_Make 200 l t = bom_Make_j1 200 l t r.Code r.Index := by
    unfold bom_Make
    unfold ref6_PathsFault ref6_fault at h1
    by_cases h : 24 < l.length
    · rw [if_pos (by simp; omega), bsome] at h1
      injection h1 with h1
      subst h1
      rw [if_pos (by simp; omega)]
    · rw [if_neg (by simp; omega)] at h1
      rw [if_neg (by simp; omega)]
      have := make_l2 l t (by omega) 200 0
      rw [show ((0 : Nat) : Int) = 0 from rfl, h1, bsome] at this
      exact this
  rw [hj]
  unfold bom_Make_j1
  rcases h2 with rfl | h2
  · rw [if_neg (by decide), h4, bsome]
    rcases h5 with rfl | h5
    · rw [if_neg fault_none, if_neg (by simp), if_neg (by simp)]
      have := make_l1 l t (h3 rfl) (h6 rfl) 200 0 (by have := h3 rfl; omega) (by omega)
      exact this
    · rw [if_pos (fault_ne h5), if_neg (by simp), if_pos h5]
  · rw [if_pos (by simp [h2]), if_pos h2]
def digOk (e : SPathDigest) : Prop := e.Digest = -1 ∨ Dg e.Digest
theorem dig_l (a : List SPathDigest) (hl : a.length ≤ 24) : ∀ (m i : Nat), a.length - i < m → ∃ r, bom_Validate_l1 200 a m (i : Int) = some r ∧ Fine r ∧ (r = ⟨0, 0⟩ ↔ ∀ e ∈ a.drop i, digOk e) := by
  intro m
  induction m with
  | zero => intro i h; omega
  | succ m ih =>
    intro i h
    rw [bom_Validate_l1]
    unfold bom_Validate_j2
    by_cases hlt : i < a.length
    · rw [if_pos (lt_dec hlt), gidx_nat, getElem?_lt hlt, bsome, gadd_nat (by omega), bsome, isDigest_eq, bsome]
      obtain ⟨r, h1, h2, h3⟩ := ih (i + 1) (by omega)
      have hd : (∀ e ∈ a.drop i, digOk e) ↔ digOk a[i] ∧ ∀ e ∈ a.drop (i + 1), digOk e := by
        rw [List.drop_eq_getElem_cons hlt]; exact List.forall_mem_cons
      by_cases hm : a[i].Digest = -1
      · have hm' : decide (a[i].Digest ≠ -1) = false := by simp [hm]
        simp only [hm', Bool.false_eq_true, if_false]
        refine ⟨r, h1, h2, ?_⟩
        rw [h3, hd]
        exact ⟨fun h => ⟨.inl hm, h⟩, fun h => h.2⟩
      · have hm' : decide (a[i].Digest ≠ -1) = true := by simpa using hm
        simp only [hm', eq_self, if_true]
        by_cases hg : Dg a[i].Digest
        · rw [if_neg (by simp [hg])]
          refine ⟨r, h1, h2, ?_⟩
          rw [h3, hd]
          exact ⟨fun h => ⟨.inr hg, h⟩, fun h => h.2⟩
        · rw [if_pos (by simp [hg])]
          refine ⟨_, rfl, .inr (by simp), ?_⟩
          rw [hd]
          constructor
          · intro h; exact absurd (congrArg SCodeIndex.Code h) (by simp)
          · rintro ⟨h | h, _⟩
            · exact absurd h hm
            · exact absurd h hg
    · rw [if_neg (nlt_dec hlt)]
      refine ⟨_, rfl, .none, ?_⟩
      rw [List.drop_of_length_le (by omega)]
      simp
theorem bval_l2 (a : List SPathDigest) (hl : a.length ≤ 24) : ∀ (m i : Nat), bom_Validate_l2 200 a m (i : Int) = (ref6_PathsFault_l1 200 (a.map (·.Path)) m (i : Int)).bind fun r => bom_Validate_j1 200 a r.Code r.Index := by
  intro m
  induction m with
  | zero => intro i; rw [bom_Validate_l2, ref6_PathsFault_l1]; rfl
  | succ m ih =>
    intro i
    rw [bom_Validate_l2, ref6_PathsFault_l1]
    unfold ref6_PathsFault_j1 ref6_fault bom_Validate_j3 bom_Validate_j4 bom_Validate_j5 bom_Validate_j6 bom_Validate_j4 treepatch_ValidPath
    by_cases hlt : i < a.length
    · have hlt' : i < (a.map (·.Path)).length := by simpa using hlt
      rw [if_pos (lt_dec hlt), if_pos (lt_dec hlt'), gidx_nat, gidx_nat, getElem?_lt hlt, getElem?_lt hlt']
      simp only [bsome, pathValid_eq, List.getElem_map]
      by_cases hv : libValidPath a[i].Path = true
      · have hv' : (!libValidPath a[i].Path) = false := by simp [hv]
        simp only [hv', Bool.false_eq_true, if_false]
        by_cases h0 : 0 < i
        · have h0' : decide (0 < (i : Int)) = true := by simp; omega
          have hs : gsub (i : Int) 1 = some ((i - 1 : Nat) : Int) := by rw [gsubI (by omega)]; congr 1; omega
          simp only [h0', eq_self, if_true, hs, bsome, gidx_nat, getElem?_lt (show i - 1 < a.length by omega), getElem?_lt (show i - 1 < (a.map (·.Path)).length by simp; omega), List.getElem_map]
          split
          · rfl
          · rw [gadd_nat (by omega), bsome, bsome]; exact ih (i + 1)
        · have h0' : decide (0 < (i : Int)) = false := by simp; omega
          simp only [h0', Bool.false_eq_true, if_false, gadd_nat (show i < 1000000 by omega), bsome]; exact ih (i + 1)
      · have hv' : (!libValidPath a[i].Path) = true := by simp [hv]
        simp only [hv', eq_self, if_true, bsome]
    · have hlt' : ¬ i < (a.map (·.Path)).length := by simpa using hlt
      rw [if_neg (nlt_dec hlt), if_neg (nlt_dec hlt'), bsome]
structure BGood (a : List SPathDigest) : Prop where
  paths : PGood (a.map (·.Path))
  dig : ∀ e ∈ a, digOk e
theorem bval_eq (a : List SPathDigest) : ∃ r, bom_Validate 200 a = some r ∧ Fine r ∧ (r = ⟨0, 0⟩ → BGood a) := by
  obtain ⟨r, h1, h2, h3⟩ := pathsF (a.map (·.Path))
  have hj : bom_Validate 200 a = bom_Validate_j1 200 a r.Code r.Index := by
    unfold bom_Validate
    have h1' := h1
    unfold ref6_PathsFault ref6_fault at h1'
    by_cases h : 24 < a.length
    · rw [if_pos (by simp; omega), bsome] at h1'
      injection h1' with h1'
      subst h1'
      rw [if_pos (by simp; omega)]
    · rw [if_neg (by simp; omega)] at h1'
      rw [if_neg (by simp; omega)]
      have := bval_l2 a (by omega) 200 0
      rw [show ((0 : Nat) : Int) = 0 from rfl, h1', bsome] at this
      exact this
  rw [hj]
  unfold bom_Validate_j1
  rcases h2 with rfl | h2
  · have hl : a.length ≤ 24 := by have := h3 rfl; simpa using this
    rw [if_neg (by decide)]
    obtain ⟨r, h4, h5, h6⟩ := dig_l a hl 200 0 (by omega)
    exact ⟨r, h4, h5, fun h => ⟨pgood_of _ h1, fun e he => (h6.1 h) e (by simpa using he)⟩⟩
  · rw [if_pos (by simp [h2])]
    exact ⟨r, by cases r; rfl, .inr h2, fun h => absurd (congrArg SCodeIndex.Code h) h2⟩
end Go.Proofs.YtlkknmhhefjmjaaDoor
namespace Go.Proofs.YtlkknmhhefjmjaaDoor
open Go.PW Go
theorem fault_l1 (a : List SPathDigest) (hb : a.length * 24 ≤ reachBytes) : ∀ (m i : Nat), a.length - i < m → i ≤ a.length →
    ref6_BomFault_l1 200 a m ((a.map (·.Path)).take i) (i : Int) = (ref6_PathsFault 200 (a.map (·.Path))).bind fun r => ref6_BomFault_l2 200 a 200 r.Code r.Index 0 := by
  have hrb : reachBytes ≤ 140737488355328 := by decide
  intro m
  induction m with
  | zero => intro i h; omega
  | succ m ih =>
    intro i h hil
    rw [ref6_BomFault_l1]
    by_cases hlt : i < a.length
    · have hlt' : i < (a.map (·.Path)).length := by simpa using hlt
      have hg : gapp 16 ((a.map (·.Path)).take i) [a[i].Path] = some ((a.map (·.Path)).take (i + 1)) := by
        unfold gapp
        have : (((a.map (·.Path)).take i).length + [a[i].Path].length) * 16 ≤ big := by
          show _ ≤ 140737488355328
          simp only [List.length_take, List.length_map, List.length_cons, List.length_nil]
          omega
        rw [if_pos this, List.take_add_one, getElem?_lt hlt', List.getElem_map]; rfl
      rw [if_pos (lt_dec hlt), gidx_nat, getElem?_lt hlt, bsome, hg, bsome, gaddI (by omega), bsome]
      exact ih (i + 1) (by omega) (by omega)
    · rw [if_neg (nlt_dec hlt), List.take_of_length_le (by simp; omega)]
theorem fault_l2n (a : List SPathDigest) (m : Nat) (c ix x : Int) (hc : c ≠ 0) : ref6_BomFault_l2 200 a (m + 1) c ix x = some ⟨c, ix⟩ := by
  rw [ref6_BomFault_l2]
  unfold ref6_BomFault_j1
  have h1 : decide (c = 0) = false := by simpa using hc
  simp only [h1, Bool.false_eq_true, if_false, ite_self]
theorem fault_l2 (a : List SPathDigest) (hl : a.length ≤ 24) : ∀ (m i : Nat), a.length - i < m → ref6_BomFault_l2 200 a m 0 0 (i : Int) = bom_Validate_l1 200 a m (i : Int) := by
  intro m
  induction m with
  | zero => intro i h; omega
  | succ m ih =>
    intro i h
    rw [ref6_BomFault_l2, bom_Validate_l1]
    unfold ref6_BomFault_j1 ref6_BomFault_j3 ref6_BomFault_j2 bom_Validate_j2 ref6_fault
    by_cases hlt : i < a.length
    · have e0 : decide ((0 : Int) = 0) = true := rfl
      simp only [lt_dec hlt, if_true, gidx_nat, getElem?_lt hlt, bsome, isDigest5_eq, isDigest_eq, gadd_nat (show i < 1000000 by omega)]
      have hih := ih (i + 1) (by omega)
      by_cases hm : a[i].Digest = -1
      · have hm' : decide (a[i].Digest ≠ -1) = false := by simp [hm]
        simp only [hm', Bool.false_eq_true, if_false]
        exact hih
      · have hm' : decide (a[i].Digest ≠ -1) = true := by simpa using hm
        simp only [hm', eq_self, if_true]
        by_cases hg : Dg a[i].Digest
        · have hg' : (!decide (Dg a[i].Digest)) = false := by simp [hg]
          simp only [hg', Bool.false_eq_true, if_false]
          exact hih
        · have hg' : (!decide (Dg a[i].Digest)) = true := by simp [hg]
          simp only [hg', eq_self, if_true]
          obtain ⟨m', rfl⟩ : ∃ j, m = j + 1 := ⟨m - 1, by omega⟩
          exact fault_l2n a m' 3 i _ (by decide)
    · have e0 : decide ((i : Int) < (a.length : Int)) = false := by simp; omega
      simp only [e0, Bool.false_eq_true, if_false]
theorem bomFault_eq (a : List SPathDigest) (hb : a.length * 24 ≤ reachBytes) : ref6_BomFault 200 a = bom_Validate 200 a := by
  unfold ref6_BomFault
  have h0 := fault_l1 a hb (200 + a.length) 0 (by omega) (by omega)
  rw [List.take_zero] at h0
  rw [show ((0 : Nat) : Int) = 0 from rfl] at h0
  rw [h0]
  obtain ⟨r, h1, h2, h3⟩ := pathsF (a.map (·.Path))
  have hj : bom_Validate 200 a = bom_Validate_j1 200 a r.Code r.Index := by
    unfold bom_Validate
    have h1' := h1
    unfold ref6_PathsFault ref6_fault at h1'
    by_cases h : 24 < a.length
    · rw [if_pos (by simp; omega), bsome] at h1'
      injection h1' with h1'
      subst h1'
      rw [if_pos (by simp; omega)]
    · rw [if_neg (by simp; omega)] at h1'
      rw [if_neg (by simp; omega)]
      have := bval_l2 a (by omega) 200 0
      rw [show ((0 : Nat) : Int) = 0 from rfl, h1', bsome] at this
      exact this
  rw [hj, h1, bsome]
  unfold bom_Validate_j1
  rcases h2 with rfl | h2
  · have hl : a.length ≤ 24 := by have := h3 rfl; simpa using this
    rw [if_neg (by decide)]
    exact fault_l2 a hl 200 0 (by omega)
  · rw [if_pos (by simp [h2])]
    exact fault_l2n a 199 r.Code r.Index 0 h2
theorem wrong_l (a : List SPathDigest) (t : SFiles) (hl : a.length ≤ 24) (ht : TGood t) : ∀ (m i : Nat) (w : List Int), a.length - i < m → w.length ≤ i → i ≤ a.length →
    ∃ r, ref6_Wrong_l1 200 a t m w (i : Int) = some r ∧ bom_Check_l1 200 a t m w (i : Int) = some (r, ⟨0, 0⟩) ∧ r.length ≤ 24 ∧ (r = [] ↔ w = [] ∧ ∀ e ∈ a.drop i, e.Digest = fsum t e.Path) ∧
      ∀ x ∈ r, x ∈ w ∨ ∃ (k : Nat) (hk : k < a.length), x = k ∧ a[k].Digest ≠ fsum t a[k].Path := by
  intro m
  induction m with
  | zero => intro i w h; omega
  | succ m ih =>
    intro i w h hw hil
    rw [ref6_Wrong_l1, bom_Check_l1]
    unfold ref6_Wrong_j1 bom_Check_j1
    by_cases hlt : i < a.length
    · have hdr : (∀ e ∈ a.drop i, e.Digest = fsum t e.Path) ↔ a[i].Digest = fsum t a[i].Path ∧ ∀ e ∈ a.drop (i + 1), e.Digest = fsum t e.Path := by
        rw [List.drop_eq_getElem_cons hlt]; exact List.forall_mem_cons
      simp only [lt_dec hlt, if_true, gidx_nat, getElem?_lt hlt, bsome, fileSum_eq t ht, describe_eq t ht, gadd_nat (show i < 1000000 by omega)]
      by_cases he : a[i].Digest = fsum t a[i].Path
      · have h1 : decide (fsum t a[i].Path ≠ a[i].Digest) = false := by simp [he]
        have h2 : decide (a[i].Digest ≠ fsum t a[i].Path) = false := by simp [he]
        simp only [h1, h2, Bool.false_eq_true, if_false]
        obtain ⟨r, a1, a2, a3, a4, a5⟩ := ih (i + 1) w (by omega) (by omega) (by omega)
        refine ⟨r, a1, a2, a3, ?_, a5⟩
        rw [a4, hdr]
        exact ⟨fun h => ⟨h.1, he, h.2⟩, fun h => ⟨h.1, h.2.2⟩⟩
      · have h1 : decide (fsum t a[i].Path ≠ a[i].Digest) = true := by simpa using fun e => he e.symm
        have h2 : decide (a[i].Digest ≠ fsum t a[i].Path) = true := by simpa using he
        simp only [h1, h2, eq_self, if_true]
        rw [gapp_ok (by simp; omega)]
        simp only [bsome]
        obtain ⟨r, a1, a2, a3, a4, a5⟩ := ih (i + 1) (w ++ [(i : Int)]) (by omega) (by simp; omega) (by omega)
        refine ⟨r, a1, a2, a3, ?_, fun x hx => ?_⟩
        · rw [a4, hdr]
          constructor
          · rintro ⟨h, _⟩; simp at h
          · rintro ⟨_, h, _⟩; exact absurd h he
        · rcases a5 x hx with h | h
          · rcases List.mem_append.1 h with h | h
            · exact .inl h
            · simp at h; exact .inr ⟨i, hlt, h, he⟩
          · exact .inr h
    · have e0 : decide ((i : Int) < (a.length : Int)) = false := by simp; omega
      simp only [e0, Bool.false_eq_true, if_false]
      refine ⟨w, rfl, rfl, by omega, ?_, fun x hx => .inl hx⟩
      rw [List.drop_of_length_le (by omega)]; simp
theorem check_eq (a : List SPathDigest) (t : SFiles) (hf : ∀ f ∈ t.Files, f.Path.length < big) : ∃ r s w, bom_Validate 200 a = some r ∧ Fine r ∧ (r = ⟨0, 0⟩ → BGood a) ∧ treepatch_Second 200 t (-2) = some s ∧ Fine s ∧ (s = ⟨0, 0⟩ → TGood t) ∧
    bom_Check 200 a t = some (if r.Code ≠ 0 then ([], r) else if s.Code ≠ 0 then ([], s) else (w, ⟨0, 0⟩)) ∧
    (r = ⟨0, 0⟩ → s = ⟨0, 0⟩ → ref6_Wrong 200 a t = some w ∧ w.length ≤ 24 ∧ (w = [] ↔ ∀ e ∈ a, e.Digest = fsum t e.Path) ∧ ∀ x ∈ w, ∃ (k : Nat) (hk : k < a.length), x = k ∧ a[k].Digest ≠ fsum t a[k].Path) := by
  obtain ⟨r, h1, h2, h3⟩ := bval_eq a
  have hs : ∃ s, treepatch_Second 200 t (-2) = some s ∧ Fine s ∧ (s = ⟨0, 0⟩ → TGood t) := by
    rcases second_cases t hf (-2) with ⟨hg, h⟩ | ⟨c, hc, _, h⟩
    · exact ⟨_, h, .none, fun _ => hg⟩
    · exact ⟨_, h, .inr hc, fun e => absurd (congrArg SCodeIndex.Code e) hc⟩
  obtain ⟨s, h4, h5, h6⟩ := hs
  unfold bom_Check
  rw [h1, bsome]
  rcases h2 with rfl | h2
  · rw [if_neg fault_none, h4, bsome]
    rcases h5 with rfl | h5
    · rw [if_neg fault_none]
      have hlen : a.length ≤ 24 := by have := (h3 rfl).paths.len; simpa using this
      obtain ⟨w, a1, a2, a3, a4, a5⟩ := wrong_l a t hlen (h6 rfl) 200 0 [] (by omega) (by simp) (by omega)
      refine ⟨_, _, w, rfl, .none, h3, rfl, .none, h6, ?_, fun _ _ => ⟨a1, a3, by simpa using a4, fun x hx => ?_⟩⟩
      · rw [if_neg (by simp), if_neg (by simp)]; exact a2
      · rcases a5 x hx with h | h
        · cases h
        · exact h
    · rw [if_pos (fault_ne h5)]
      exact ⟨_, s, [], rfl, .none, h3, rfl, .inr h5, h6, by rw [if_neg (by simp), if_pos h5], fun _ h => absurd (congrArg SCodeIndex.Code h) h5⟩
  · rw [if_pos (fault_ne h2)]
    exact ⟨r, s, [], rfl, .inr h2, h3, h4, h5, h6, by rw [if_pos h2], fun h => absurd (congrArg SCodeIndex.Code h) h2⟩
theorem ints_l (l : List Int) (hl : l.length < 100000) : ∀ (m i : Nat), l.length - i < m → ref5_Ints_l1 200 l l m (i : Int) = some true := by
  intro m
  induction m with
  | zero => intro i h; omega
  | succ m ih =>
    intro i h
    rw [ref5_Ints_l1]
    by_cases hlt : i < l.length
    · rw [if_pos (lt_dec hlt), gidx_nat, getElem?_lt hlt]
      simp only [bsome]
      rw [if_neg (by simp), gadd_nat (by omega), bsome]
      exact ih (i + 1) (by omega)
    · rw [if_neg (nlt_dec hlt)]
theorem ints_self (l : List Int) (hl : l.length < 200) : ref5_Ints 200 l l = some true := by
  unfold ref5_Ints
  rw [if_neg (by simp)]
  exact ints_l l (by omega) 200 0 (by omega)
theorem sameBom_l (a b : List SPathDigest) (hl : a.length < 100000) (hlen : a.length = b.length) : ∀ (m i : Nat), a.length - i < m → ref6_SameBom_l1 200 a b m (i : Int) = some (decide (a.drop i = b.drop i)) := by
  intro m
  induction m with
  | zero => intro i h; omega
  | succ m ih =>
    intro i h
    rw [ref6_SameBom_l1]
    by_cases hlt : i < a.length
    · rw [if_pos (lt_dec hlt), gidx_nat, gidx_nat, getElem?_lt hlt, getElem?_lt (show i < b.length by omega)]
      simp only [bsome]
      rw [List.drop_eq_getElem_cons hlt, List.drop_eq_getElem_cons (show i < b.length by omega)]
      by_cases he : a[i] = b[i]'(by omega)
      · rw [if_neg (by simp [he]), gadd_nat (by omega), bsome, ih (i + 1) (by omega)]
        exact congrArg some (decide_eq_decide.2 ⟨fun h => by rw [he, h], fun h => (List.cons.inj h).2⟩)
      · have hne : ((a[i].Path == (b[i]'(by omega)).Path && (a[i].Digest == (b[i]'(by omega)).Digest && true)) != true) = true := by
          generalize a[i] = x at he ⊢
          generalize b[i] = y at he ⊢
          cases x; cases y
          simp at he ⊢
          rename_i p d q e
          by_cases h1 : p = q
          · exact .inr (he h1)
          · exact .inl h1
        rw [if_pos hne]
        exact congrArg some (decide_eq_false fun h => he (List.cons.inj h).1).symm
    · rw [if_neg (nlt_dec hlt), List.drop_of_length_le (by omega), List.drop_of_length_le (by omega)]
      simp
theorem sameBom_eq (a b : List SPathDigest) (hl : a.length < 200) : ref6_SameBom 200 a b = some (decide (a = b)) := by
  unfold ref6_SameBom
  by_cases h : a.length = b.length
  · rw [if_neg (by simp; omega)]
    have := sameBom_l a b (by omega) h 200 0 (by omega)
    simpa using this
  · rw [if_pos (by simp; omega)]
    have : a ≠ b := fun e => h (by rw [e])
    simp [this]
theorem billed_l (l : List (List UInt8)) (t : SFiles) (hl : l.length ≤ 24) (ht : TGood t) : ∀ (m i : Nat), l.length - i < m → i ≤ l.length → ref6_Billed_l1 200 l t m (bill (l.take i) t) (i : Int) = some (bill l t) := by
  intro m
  induction m with
  | zero => intro i h; omega
  | succ m ih =>
    intro i h hil
    rw [ref6_Billed_l1]
    by_cases hlt : i < l.length
    · rw [if_pos (lt_dec hlt), gidx_nat, getElem?_lt hlt, bsome, fileSum_eq t ht, bsome, gapp_ok (by simp [bill]; omega), bsome, gadd_nat (by omega), bsome]
      have := ih (i + 1) (by omega) (by omega)
      rw [List.take_add_one, getElem?_lt hlt] at this
      simp only [bill, List.map_append, Option.toList, List.map_cons, List.map_nil] at this
      exact this
    · rw [if_neg (nlt_dec hlt), List.take_of_length_le (by omega)]
theorem billed_eq (l : List (List UInt8)) (t : SFiles) (hl : l.length ≤ 24) (ht : TGood t) : ref6_Billed 200 l t = some (bill l t) := billed_l l t hl ht 200 0 (by omega) (by omega)
end Go.Proofs.YtlkknmhhefjmjaaDoor
namespace Go.Proofs.YtlkknmhhefjmjaaDoor
open Go.PW Go
def dd : List SPathDigest → List SPathDigest
  | [] => []
  | [x] => [x]
  | x :: y :: r => if x = y then dd (y :: r) else x :: dd (y :: r)
theorem dd_snoc : ∀ (l : List SPathDigest) (x y : SPathDigest), dd (l ++ [x, y]) = if x = y then dd (l ++ [x]) else dd (l ++ [x]) ++ [y]
  | [], x, y => by
    have e : dd [x, y] = if x = y then dd [y] else x :: dd [y] := by conv => lhs; rw [dd]
    show dd [x, y] = if x = y then dd [x] else dd [x] ++ [y]
    rw [e]
    by_cases h : x = y
    · rw [if_pos h, if_pos h, h]
    · rw [if_neg h, if_neg h]; rfl
  | [z], x, y => by
    have ih := dd_snoc [] x y
    show dd (z :: x :: [y]) = if x = y then dd (z :: [x]) else dd (z :: [x]) ++ [y]
    have e1 : dd (z :: x :: [y]) = if z = x then dd (x :: [y]) else z :: dd (x :: [y]) := by conv => lhs; rw [dd]
    have e2 : dd (z :: [x]) = if z = x then dd [x] else z :: dd [x] := by conv => lhs; rw [dd]
    have ih' : dd (x :: [y]) = if x = y then dd [x] else dd [x] ++ [y] := ih
    rw [e1, e2, ih']
    by_cases h1 : z = x <;> by_cases h2 : x = y <;> simp [h1, h2]
  | z :: v :: l, x, y => by
    have ih := dd_snoc (v :: l) x y
    have e1 : dd (z :: v :: (l ++ [x, y])) = if z = v then dd (v :: (l ++ [x, y])) else z :: dd (v :: (l ++ [x, y])) := by conv => lhs; rw [dd]
    have e2 : dd (z :: v :: (l ++ [x])) = if z = v then dd (v :: (l ++ [x])) else z :: dd (v :: (l ++ [x])) := by conv => lhs; rw [dd]
    have ih' : dd (v :: (l ++ [x, y])) = if x = y then dd (v :: (l ++ [x])) else dd (v :: (l ++ [x])) ++ [y] := ih
    show dd (z :: v :: (l ++ [x, y])) = if x = y then dd (z :: v :: (l ++ [x])) else dd (z :: v :: (l ++ [x])) ++ [y]
    rw [e1, e2, ih']
    by_cases h1 : z = v <;> by_cases h2 : x = y <;> simp [h1, h2]
theorem dd_take (s : List SPathDigest) (j : Nat) (h0 : 0 < j) (hj : j < s.length) : dd (s.take (j + 1)) = if s[j - 1] = s[j] then dd (s.take j) else dd (s.take j) ++ [s[j]] := by
  obtain ⟨k, rfl⟩ : ∃ k, j = k + 1 := ⟨j - 1, by omega⟩
  have e1 : s.take (k + 1) = s.take k ++ [s[k]] := by rw [List.take_add_one, getElem?_lt (show k < s.length by omega)]; rfl
  have e2 : s.take (k + 1 + 1) = s.take k ++ [s[k], s[k + 1]] := by
    rw [List.take_add_one, getElem?_lt hj, e1, List.append_assoc]; rfl
  rw [e2, dd_snoc, ← e1]
  rfl
theorem dd_mem : ∀ (l : List SPathDigest) (x : SPathDigest), x ∈ dd l ↔ x ∈ l
  | [], x => by simp [dd]
  | [y], x => by simp [dd]
  | y :: z :: r, x => by
    have ih := dd_mem (z :: r) x
    rw [dd]
    split
    · rename_i h
      subst h
      rw [ih]; simp
    · rw [List.mem_cons, ih, List.mem_cons (a := x) (b := y)]
theorem dd_sub : ∀ (l : List SPathDigest), (dd l).Sublist l
  | [] => .slnil
  | [x] => List.Sublist.refl _
  | x :: y :: r => by
    rw [dd]
    split
    · exact (dd_sub (y :: r)).cons x
    · exact (dd_sub (y :: r)).cons_cons x
theorem dd_head (x : SPathDigest) : ∀ (r : List SPathDigest), ∃ t, dd (x :: r) = x :: t
  | [] => ⟨[], rfl⟩
  | y :: r => by
    rw [dd]
    split
    · rename_i h
      subst h
      exact dd_head x r
    · exact ⟨_, rfl⟩
theorem dd_adj : ∀ (l : List SPathDigest) (i : Nat) (h : i + 1 < (dd l).length), (dd l)[i] ≠ (dd l)[i + 1]
  | [], i, h => by simp [dd] at h
  | [x], i, h => by simp [dd] at h
  | x :: y :: r, i, h => by
    have ih := dd_adj (y :: r)
    by_cases he : x = y
    · have e : dd (x :: y :: r) = dd (y :: r) := by rw [dd, if_pos he]
      have := ih i (by rw [← e]; exact h)
      simp only [e]
      exact this
    · have e : dd (x :: y :: r) = x :: dd (y :: r) := by rw [dd, if_neg he]
      simp only [e]
      cases i with
      | zero =>
        obtain ⟨t, ht⟩ := dd_head y r
        simp only [ht]
        simpa using he
      | succ i =>
        have hi : i + 1 < (dd (y :: r)).length := by rw [e] at h; simpa using h
        simpa using ih i hi
theorem dd_len (l : List SPathDigest) : (dd l).length ≤ l.length := (dd_sub l).length_le
theorem ne_dec (x y : SPathDigest) : ((x.Path == y.Path && (x.Digest == y.Digest && true)) != true) = decide (x ≠ y) := by
  cases x; cases y
  rename_i p d q e
  by_cases h1 : p = q <;> by_cases h2 : d = e <;> simp [h1, h2]
theorem eq_dec (x y : SPathDigest) : ((x.Path == y.Path && (x.Digest == y.Digest && true)) != false) = decide (x = y) := by
  cases x; cases y
  rename_i p d q e
  by_cases h1 : p = q <;> by_cases h2 : d = e <;> simp [h1, h2]
theorem merge_l3 (c s : List SPathDigest) (hs : sortPath c = s) (hN : s.length ≤ 48) (b : Nat) (hb : b < s.length) : ∀ (m : Nat) (w : List SPathDigest) (p q : Nat), s.length - (b + q) < m → w.length = s.length → p ≤ b + q - 1 → 1 ≤ q → b + q ≤ s.length →
    w.take p = dd (s.take (b + q)) → w.drop (b + q - 1) = s.drop (b + q - 1) → bom_Merge_l3 200 c (b : Int) m w (p : Int) (q : Int) = bom_Merge_l1 200 (dd s) 200 0 := by
  intro m
  induction m with
  | zero => intro w p q h; omega
  | succ m ih =>
    intro w p q h hw hp hq hqs ht hd
    rw [bom_Merge_l3, hs]
    unfold bom_Merge_j4 bom_Merge_j2
    have hcut : gcut w (b : Int) (s.length : Int) = some (w.drop b) := by
      rw [gcut_nat (by omega) (by omega), ← hw, List.take_length]
    rw [hcut, bsome]
    have get : ∀ (j : Nat), b + q - 1 ≤ j → (hj : j < s.length) → w[j]? = some s[j] := by
      intro j h1 h2
      have e1 : (w.drop (b + q - 1))[j - (b + q - 1)]? = (s.drop (b + q - 1))[j - (b + q - 1)]? := by rw [hd]
      rw [List.getElem?_drop, List.getElem?_drop, show b + q - 1 + (j - (b + q - 1)) = j by omega] at e1
      rw [e1, getElem?_lt h2]
    by_cases hlt : b + q < s.length
    · have hq1 : q < (w.drop b).length := by rw [List.length_drop]; omega
      have g1 : gidx (w.drop b) (q : Int) = some s[b + q] := by rw [gidx_nat, List.getElem?_drop]; exact get _ (by omega) hlt
      have g2 : gidx w ((b : Int) + (q : Int)) = some s[b + q] := by
        rw [show (b : Int) + (q : Int) = ((b + q : Nat) : Int) by omega, gidx_nat]; exact get _ (by omega) hlt
      have g3 : gsub (q : Int) 1 = some ((q - 1 : Nat) : Int) := by rw [gsubI (by omega)]; congr 1; omega
      have g4 : gidx (w.drop b) ((q - 1 : Nat) : Int) = some (s[b + q - 1]'(by omega)) := by
        rw [gidx_nat, List.getElem?_drop, show b + (q - 1) = b + q - 1 by omega]; exact get _ (by omega) (by omega)
      have g5 : gidx w ((b : Int) + ((q - 1 : Nat) : Int)) = some (s[b + q - 1]'(by omega)) := by
        rw [show (b : Int) + ((q - 1 : Nat) : Int) = ((b + q - 1 : Nat) : Int) by omega, gidx_nat]; exact get _ (by omega) (by omega)
      have hc : decide ((q : Int) < ((w.drop b).length : Int)) = true := by simp only [decide_eq_true_eq]; omega
      simp only [hc, if_true, g1, g2, g3, g4, g5, bsome, ne_dec, gadd_nat (show q < 1000000 by omega)]
      have hdt := dd_take s (b + q) (by omega) hlt
      have hd2 : w.drop (b + (q + 1) - 1) = s.drop (b + (q + 1) - 1) := by
        have e1 : w.drop (b + (q + 1) - 1) = (w.drop (b + q - 1)).drop 1 := by rw [List.drop_drop]; congr 1; omega
        have e2 : s.drop (b + (q + 1) - 1) = (s.drop (b + q - 1)).drop 1 := by rw [List.drop_drop]; congr 1; omega
        rw [e1, e2, hd]
      by_cases he : s[b + q - 1]'(by omega) = s[b + q]
      · have h1 : decide (s[b + q] ≠ s[b + q - 1]'(by omega)) = false := by simp [he]
        simp only [h1, Bool.false_eq_true, if_false]
        refine ih w p (q + 1) (by omega) hw (by omega) (by omega) (by omega) ?_ hd2
        rw [ht, show b + (q + 1) = b + q + 1 by omega, hdt, if_pos he]
      · have h1 : decide (s[b + q] ≠ s[b + q - 1]'(by omega)) = true := by simpa using fun e => he e.symm
        have hpl : p < w.length := by omega
        simp only [h1, eq_self, if_true, gidx_nat, getElem?_lt hpl, bsome, gadd_nat (show p < 1000000 by omega), gset_nat]
        refine ih (w.set p s[b + q]) (p + 1) (q + 1) (by omega) (by simpa using hw) (by omega) (by omega) (by omega) ?_ ?_
        · rw [List.take_add_one, List.take_set_of_le (Nat.le_refl _), List.getElem?_set_self hpl, ht, show b + (q + 1) = b + q + 1 by omega, hdt, if_neg he]
          rfl
        · rw [List.drop_set_of_lt (by omega)]
          exact hd2
    · have hc : decide ((q : Int) < ((w.drop b).length : Int)) = false := by simp only [decide_eq_false_iff_not, List.length_drop]; omega
      have hend : b + q = s.length := by omega
      simp only [hc, Bool.false_eq_true, if_false]
      rw [gcut_drop (by omega), bsome]
      have e4 : ((p : Int)).toNat = p := by omega
      have e5 : ((w.length : Nat) : Int).toNat = w.length := by omega
      rw [e4, e5, gcut_take (by unfold gclear; simp; omega), bsome]
      have : (gclear w p w.length (⟨[], 0⟩ : SPathDigest)).take p = dd s := by
        unfold gclear
        rw [List.append_assoc, List.take_append_of_le_length (by simp; omega), List.take_take, Nat.min_self, ht, hend, List.take_length]
      rw [this]
theorem merge_l2 (c s : List SPathDigest) (hs : sortPath c = s) (hN : s.length ≤ 48) : ∀ (m i : Nat), s.length - i < m → 1 ≤ i → i ≤ s.length → dd (s.take i) = s.take i → bom_Merge_l2 200 c m (i : Int) = bom_Merge_l1 200 (dd s) 200 0 := by
  intro m
  induction m with
  | zero => intro i h; omega
  | succ m ih =>
    intro i h h1 hil ht
    rw [bom_Merge_l2, hs]
    by_cases hlt : i < s.length
    · have g1 : gsub (i : Int) 1 = some ((i - 1 : Nat) : Int) := by rw [gsubI (by omega)]; congr 1; omega
      simp only [lt_dec hlt, if_true, gidx_nat, getElem?_lt hlt, bsome, g1, getElem?_lt (show i - 1 < s.length by omega), eq_dec]
      have hdt := dd_take s i (by omega) hlt
      by_cases he : s[i - 1]'(by omega) = s[i]
      · have h2 : decide (s[i] = s[i - 1]'(by omega)) = true := by simp [he]
        simp only [h2, eq_self, if_true]
        rw [gcut_drop (by omega), bsome]
        have := merge_l3 c s hs hN i hlt 200 s i 1 (by omega) rfl (by omega) (by omega) (by omega) (by rw [hdt, if_pos he, ht]) rfl
        exact this
      · have h2 : decide (s[i] = s[i - 1]'(by omega)) = false := by simpa using fun e => he e.symm
        simp only [h2, Bool.false_eq_true, if_false, gadd_nat (show i < 1000000 by omega), bsome]
        refine ih (i + 1) (by omega) (by omega) (by omega) ?_
        rw [hdt, if_neg he, ht, List.take_add_one, getElem?_lt hlt]; rfl
    · have hc : decide ((i : Int) < (s.length : Int)) = false := by simp; omega
      simp only [hc, Bool.false_eq_true, if_false]
      unfold bom_Merge_j2
      rw [List.take_of_length_le (by omega)] at ht
      rw [ht]
theorem merge_l1 (d : List SPathDigest) (hN : d.length ≤ 48) : ∀ (m i : Nat), d.length - i < m → i ≤ d.length → (∀ (j : Nat) (hj : j < d.length), 0 < j → j < i → (d[j - 1]'(by omega)).Path ≠ d[j].Path) →
    ((∀ (j : Nat) (hj : j < d.length), 0 < j → (d[j - 1]'(by omega)).Path ≠ d[j].Path) ∧ bom_Merge_l1 200 d m (i : Int) = some (if 24 < d.length then ([], false, ⟨10, -3⟩) else (d, true, ⟨0, 0⟩))) ∨
    ((∃ (j : Nat) (hj : j < d.length), 0 < j ∧ (d[j - 1]'(by omega)).Path = d[j].Path) ∧ bom_Merge_l1 200 d m (i : Int) = some ([], false, ⟨0, 0⟩)) := by
  intro m
  induction m with
  | zero => intro i h; omega
  | succ m ih =>
    intro i h hil hall
    rw [bom_Merge_l1]
    unfold bom_Merge_j3
    by_cases hlt : i < d.length
    · by_cases h0 : 0 < i
      · have h0' : decide (0 < (i : Int)) = true := by simp; omega
        have g1 : gsub (i : Int) 1 = some ((i - 1 : Nat) : Int) := by rw [gsubI (by omega)]; congr 1; omega
        simp only [lt_dec hlt, if_true, h0', eq_self, gidx_nat, getElem?_lt hlt, bsome, g1, getElem?_lt (show i - 1 < d.length by omega)]
        by_cases he : d[i].Path = (d[i - 1]'(by omega)).Path
        · simp only [decide_eq_true he, eq_self, if_true]
          exact .inr ⟨⟨i, hlt, h0, he.symm⟩, trivial⟩
        · simp only [decide_eq_false he, Bool.false_eq_true, if_false, gadd_nat (show i < 1000000 by omega), bsome]
          refine ih (i + 1) (by omega) (by omega) fun j hj hj0 hji => ?_
          by_cases hje : j = i
          · subst hje; exact fun e => he e.symm
          · exact hall j hj hj0 (by omega)
      · have h0' : decide (0 < (i : Int)) = false := by simp; omega
        simp only [lt_dec hlt, if_true, h0', Bool.false_eq_true, if_false, gadd_nat (show i < 1000000 by omega), bsome]
        exact ih (i + 1) (by omega) (by omega) fun j hj hj0 hji => hall j hj hj0 (by omega)
    · have hc : decide ((i : Int) < (d.length : Int)) = false := by simp; omega
      simp only [hc, Bool.false_eq_true, if_false]
      refine .inl ⟨fun j hj hj0 => hall j hj hj0 (by omega), ?_⟩
      by_cases hl : 24 < d.length
      · rw [if_pos (by simp; omega), if_pos hl]
      · rw [if_neg (by simp; omega), if_neg hl]
theorem merge_j1 (c : List SPathDigest) (hN : c.length ≤ 48) : bom_Merge_j1 200 c = bom_Merge_l1 200 (dd (sortPath c)) 200 0 := by
  unfold bom_Merge_j1
  have hl := sortPath_length c
  by_cases h2 : (sortPath c).length < 2
  · rw [if_pos (by simp; omega)]
    unfold bom_Merge_j2
    have : dd (sortPath c) = sortPath c := by
      match hm : sortPath c with
      | [] => rfl
      | [x] => rfl
      | x :: y :: r => exfalso; rw [hm] at h2; simp only [List.length_cons] at h2; omega
    rw [this]
  · rw [if_neg (by simp; omega)]
    have := merge_l2 c _ rfl (by omega) 200 1 (by omega) (by omega) (by omega) (by
      match hm : sortPath c with
      | [] => rfl
      | x :: r => rfl)
    exact this
theorem merge_head (a b : List SPathDigest) (ha : bom_Validate 200 a = some ⟨0, 0⟩) (hb : bom_Validate 200 b = some ⟨0, 0⟩) (hla : a.length ≤ 24) (hlb : b.length ≤ 24) : bom_Merge 200 a b = bom_Merge_l1 200 (dd (sortPath (a ++ b))) 200 0 := by
  unfold bom_Merge
  rw [ha, bsome, if_neg fault_none, hb, bsome, if_neg fault_none]
  have hg : ggrow 24 ((a.length : Int) + (b.length : Int)) = some () := by
    unfold ggrow
    rw [if_pos ⟨by omega, by show _ ≤ 140737488355328; omega⟩]
  have e2 : (([a, b] : List (List SPathDigest)).length : Int) = 2 := rfl
  rw [bom_Merge_l4, e2, if_pos (by decide)]
  have g0 : gidx ([a, b] : List (List SPathDigest)) 0 = some a := rfl
  have g1 : gidx ([a, b] : List (List SPathDigest)) 1 = some b := rfl
  rw [g0, bsome, gaddI (by omega), bsome, if_neg (by simp only [decide_eq_true_eq]; omega), gaddI (by omega), bsome, bom_Merge_l4, e2, if_pos (by decide)]
  have e01 : (0 : Int) + 1 = 1 := rfl
  rw [e01, g1, bsome, gaddI (by omega), bsome, if_neg (by simp only [decide_eq_true_eq]; omega), gaddI (by omega), bsome, bom_Merge_l4, e2, if_neg (by decide)]
  rw [Int.zero_add, hg, bsome, bom_Merge_l5, e2, if_pos (by decide), g0, bsome, gapp_ok (by simp; omega), bsome, gaddI (by omega), bsome, bom_Merge_l5, e2, if_pos (by decide), e01, g1, bsome, gapp_ok (by simp; omega), bsome, gaddI (by omega), bsome, bom_Merge_l5, e2, if_neg (by decide), List.nil_append]
  exact merge_j1 _ (by simp; omega)
end Go.Proofs.YtlkknmhhefjmjaaDoor
namespace Go.Proofs.YtlkknmhhefjmjaaDoor
open Go.PW Go
theorem BGood.rises {a : List SPathDigest} (h : BGood a) : Rises Op.bytesLess SPathDigest.Path a := List.pairwise_map.1 h.paths.up
theorem BGood.len {a : List SPathDigest} (h : BGood a) : a.length ≤ 24 := by have := h.paths.len; simpa using this
def Con (a b : List SPathDigest) : Prop := ∀ x ∈ a, ∀ y ∈ b, x.Path = y.Path → x = y
structure MInv (a b w : List SPathDigest) (i k : Nat) : Prop where
  rise : Rises Op.bytesLess SPathDigest.Path w
  belowA : ∀ x ∈ w, ∀ y ∈ a.drop i, Op.bytesLess x.Path y.Path = true
  belowB : ∀ x ∈ w, ∀ y ∈ b.drop k, Op.bytesLess x.Path y.Path = true
  mem : ∀ x, x ∈ w ↔ x ∈ a.take i ∨ x ∈ b.take k
  con : ∀ x ∈ a.take i, ∀ y ∈ b.take k, x.Path = y.Path → x = y
  len : w.length ≤ i + k
theorem MInv.swap {a b w : List SPathDigest} {i k : Nat} (h : MInv a b w i k) : MInv b a w k i :=
  ⟨h.rise, h.belowB, h.belowA, fun x => by rw [h.mem, or_comm], fun x hx y hy e => (h.con y hy x hx e.symm).symm, by have := h.len; omega⟩
theorem rise_drop {l : List SPathDigest} (h : Rises Op.bytesLess SPathDigest.Path l) {i : Nat} (hi : i < l.length) : ∀ y ∈ l.drop (i + 1), Op.bytesLess l[i].Path y.Path = true := by
  have h2 : Rises Op.bytesLess SPathDigest.Path (l.drop i) := List.Pairwise.sublist (List.drop_sublist _ _) h
  rw [List.drop_eq_getElem_cons hi] at h2
  exact (List.pairwise_cons.1 h2).1
theorem mem_drop_succ {l : List SPathDigest} {i : Nat} {y : SPathDigest} (h : y ∈ l.drop (i + 1)) : y ∈ l.drop i := by
  have : l.drop (i + 1) = (l.drop i).drop 1 := by rw [List.drop_drop]
  rw [this] at h
  exact List.mem_of_mem_drop h
theorem get_mem_drop {l : List SPathDigest} {i : Nat} (hi : i < l.length) : l[i] ∈ l.drop i := by rw [List.drop_eq_getElem_cons hi]; exact List.mem_cons_self
theorem take_snoc {l : List SPathDigest} {i : Nat} (hi : i < l.length) : l.take (i + 1) = l.take i ++ [l[i]] := by rw [List.take_add_one, getElem?_lt hi]; rfl
theorem rises_snoc {w : List SPathDigest} {x : SPathDigest} (h : Rises Op.bytesLess SPathDigest.Path w) (hx : ∀ y ∈ w, Op.bytesLess y.Path x.Path = true) : Rises Op.bytesLess SPathDigest.Path (w ++ [x]) :=
  List.pairwise_append.2 ⟨h, List.pairwise_singleton _ _, fun y hy z hz => by rw [List.mem_singleton.1 hz]; exact hx y hy⟩
theorem MInv.stepA {a b w : List SPathDigest} {i k : Nat} (h : MInv a b w i k) (ha : Rises Op.bytesLess SPathDigest.Path a) (hi : i < a.length) (hlt : ∀ y ∈ b.drop k, Op.bytesLess a[i].Path y.Path = true) :
    MInv a b (w ++ [a[i]]) (i + 1) k := by
  refine ⟨rises_snoc h.rise fun y hy => h.belowA y hy _ (get_mem_drop hi), ?_, ?_, ?_, ?_, ?_⟩
  · intro x hx y hy
    rcases List.mem_append.1 hx with hx | hx
    · exact h.belowA x hx y (mem_drop_succ hy)
    · rw [List.mem_singleton.1 hx]; exact rise_drop ha hi y hy
  · intro x hx y hy
    rcases List.mem_append.1 hx with hx | hx
    · exact h.belowB x hx y hy
    · rw [List.mem_singleton.1 hx]; exact hlt y hy
  · intro x
    rw [take_snoc hi, List.mem_append, List.mem_append, h.mem]
    constructor <;> rintro ((h | h) | h) <;> simp [h]
  · intro x hx y hy e
    rw [take_snoc hi] at hx
    rcases List.mem_append.1 hx with hx | hx
    · exact h.con x hx y hy e
    · exfalso
      rw [List.mem_singleton.1 hx] at e
      have := h.belowA y ((h.mem y).2 (.inr hy)) _ (get_mem_drop hi)
      rw [e, bytes_irrefl] at this
      cases this
  · have := h.len; simp; omega
theorem MInv.stepAB {a b w : List SPathDigest} {i k : Nat} (h : MInv a b w i k) (ha : Rises Op.bytesLess SPathDigest.Path a) (hb : Rises Op.bytesLess SPathDigest.Path b) (hi : i < a.length) (hk : k < b.length) (he : a[i] = b[k]) :
    MInv a b (w ++ [a[i]]) (i + 1) (k + 1) := by
  refine ⟨rises_snoc h.rise fun y hy => h.belowA y hy _ (get_mem_drop hi), ?_, ?_, ?_, ?_, ?_⟩
  · intro x hx y hy
    rcases List.mem_append.1 hx with hx | hx
    · exact h.belowA x hx y (mem_drop_succ hy)
    · rw [List.mem_singleton.1 hx]; exact rise_drop ha hi y hy
  · intro x hx y hy
    rcases List.mem_append.1 hx with hx | hx
    · exact h.belowB x hx y (mem_drop_succ hy)
    · rw [List.mem_singleton.1 hx, he]; exact rise_drop hb hk y hy
  · intro x
    rw [take_snoc hi, take_snoc hk, List.mem_append, List.mem_append, List.mem_append, h.mem, ← he]
    constructor
    · rintro ((h | h) | h) <;> simp [h]
    · rintro ((h | h) | (h | h)) <;> simp [h]
  · intro x hx y hy e
    rw [take_snoc hi] at hx
    rw [take_snoc hk] at hy
    rcases List.mem_append.1 hx with hx | hx <;> rcases List.mem_append.1 hy with hy | hy
    · exact h.con x hx y hy e
    · exfalso
      rw [List.mem_singleton.1 hy] at e
      have := h.belowB x ((h.mem x).2 (.inl hx)) _ (get_mem_drop hk)
      rw [e, bytes_irrefl] at this
      cases this
    · exfalso
      rw [List.mem_singleton.1 hx] at e
      have := h.belowA y ((h.mem y).2 (.inr hy)) _ (get_mem_drop hi)
      rw [e, bytes_irrefl] at this
      cases this
    · rw [List.mem_singleton.1 hx, List.mem_singleton.1 hy, he]
  · have := h.len; simp; omega
theorem merged_l (a b : List SPathDigest) (ha : Rises Op.bytesLess SPathDigest.Path a) (hb : Rises Op.bytesLess SPathDigest.Path b) (hla : a.length ≤ 24) (hlb : b.length ≤ 24) : ∀ (m : Nat) (w : List SPathDigest) (i k : Nat), (a.length - i) + (b.length - k) < m → i ≤ a.length → k ≤ b.length → MInv a b w i k →
    (Con a b ∧ ∃ d, ref6_Merged_l1 200 a b m w (i : Int) (k : Int) = some (d, true) ∧ Rises Op.bytesLess SPathDigest.Path d ∧ ∀ x, x ∈ d ↔ x ∈ a ∨ x ∈ b) ∨ (¬ Con a b ∧ ref6_Merged_l1 200 a b m w (i : Int) (k : Int) = some ([], false)) := by
  intro m
  induction m with
  | zero => intro w i k h; omega
  | succ m ih =>
    intro w i k h hia hkb hI
    rw [ref6_Merged_l1]
    have hwl := hI.len
    have hap : ∀ x : SPathDigest, gapp 24 w [x] = some (w ++ [x]) := fun x => gapp_ok (by simp; omega)
    have goA : ∀ (hi : i < a.length), (∀ y ∈ b.drop k, Op.bytesLess a[i].Path y.Path = true) → ref6_Merged_j4 200 a b w (i : Int) (k : Int) (ref6_Merged_l1 200 a b m) true = ref6_Merged_l1 200 a b m (w ++ [a[i]]) ((i + 1 : Nat) : Int) (k : Int) := by
      intro hi hy
      unfold ref6_Merged_j4
      simp only [eq_self, if_true, gidx_nat, getElem?_lt hi, bsome, hap, gadd_nat (show i < 1000000 by omega)]
    have goB : ∀ (hk : k < b.length), ref6_Merged_j3 200 a b w (i : Int) (k : Int) (ref6_Merged_l1 200 a b m) true = ref6_Merged_l1 200 a b m (w ++ [b[k]]) (i : Int) ((k + 1 : Nat) : Int) := by
      intro hk
      unfold ref6_Merged_j3
      simp only [eq_self, if_true, gidx_nat, getElem?_lt hk, bsome, hap, gadd_nat (show k < 1000000 by omega)]
    by_cases hi : i < a.length
    · rw [if_pos (lt_dec hi)]
      unfold ref6_Merged_j2
      have hne : decide ((i : Int) = (a.length : Int)) = false := by simp; omega
      simp only [eq_self, if_true, hne, Bool.false_eq_true, if_false]
      by_cases hk : k < b.length
      · simp only [lt_dec hk, eq_self, if_true, gidx_nat, getElem?_lt hk, getElem?_lt hi, bsome]
        by_cases h1 : Op.bytesLess b[k].Path a[i].Path = true
        · rw [h1, goB hk]
          refine ih _ _ _ (by omega) hia (by omega) (hI.swap.stepA hb hk fun y hy => ?_).swap
          rw [List.drop_eq_getElem_cons hi] at hy
          rcases List.mem_cons.1 hy with rfl | hy
          · exact h1
          · exact bytes_trans h1 (rise_drop ha hi y hy)
        · have h1' : Op.bytesLess b[k].Path a[i].Path = false := by simpa using h1
          rw [h1']
          unfold ref6_Merged_j3
          have hnk : decide ((k : Int) = (b.length : Int)) = false := by simp; omega
          simp only [Bool.false_eq_true, if_false, hnk, gidx_nat, getElem?_lt hk, getElem?_lt hi, bsome]
          by_cases h2 : Op.bytesLess a[i].Path b[k].Path = true
          · have hall : ∀ y ∈ b.drop k, Op.bytesLess a[i].Path y.Path = true := by
              intro y hy
              rw [List.drop_eq_getElem_cons hk] at hy
              rcases List.mem_cons.1 hy with rfl | hy
              · exact h2
              · exact bytes_trans h2 (rise_drop hb hk y hy)
            rw [h2, goA hi hall]
            exact ih _ _ _ (by omega) (by omega) hkb (hI.stepA ha hi hall)
          · have h2' : Op.bytesLess a[i].Path b[k].Path = false := by simpa using h2
            have hp : a[i].Path = b[k].Path := totalBytes.tri _ _ h2' h1'
            rw [h2']
            unfold ref6_Merged_j4
            simp only [Bool.false_eq_true, if_false, gidx_nat, getElem?_lt hk, getElem?_lt hi, bsome, hap, gadd_nat (show i < 1000000 by omega), gadd_nat (show k < 1000000 by omega)]
            by_cases hd : a[i].Digest = b[k].Digest
            · have he : a[i] = b[k] := by
                cases hx : a[i]; cases hy : b[k]
                rw [hx, hy] at hp hd
                simp only at hp hd
                rw [hp, hd]
              rw [if_neg (by simpa using hd)]
              exact ih _ _ _ (by omega) (by omega) (by omega) (hI.stepAB ha hb hi hk he)
            · rw [if_pos (by simpa using hd)]
              refine .inr ⟨fun hc => hd ?_, rfl⟩
              rw [hc _ (List.getElem_mem hi) _ (List.getElem_mem hk) hp]
      · have hnk : decide ((k : Int) < (b.length : Int)) = false := by simp; omega
        have hnk2 : decide ((k : Int) = (b.length : Int)) = true := by simp; omega
        have hall : ∀ y ∈ b.drop k, Op.bytesLess a[i].Path y.Path = true := by
          rw [List.drop_of_length_le (by omega)]; intro y hy; cases hy
        unfold ref6_Merged_j3
        simp only [hnk, hnk2, eq_self, if_true, Bool.false_eq_true, if_false]
        rw [goA hi hall]
        exact ih _ _ _ (by omega) (by omega) hkb (hI.stepA ha hi hall)
    · have hni : decide ((i : Int) < (a.length : Int)) = false := by simp; omega
      have hni2 : decide ((i : Int) = (a.length : Int)) = true := by simp; omega
      simp only [hni, Bool.false_eq_true, if_false]
      unfold ref6_Merged_j2
      by_cases hk : k < b.length
      · simp only [lt_dec hk, eq_self, if_true, hni2]
        rw [goB hk]
        refine ih _ _ _ (by omega) hia (by omega) (hI.swap.stepA hb hk fun y hy => ?_).swap
        rw [List.drop_of_length_le (by omega)] at hy; cases hy
      · have hnk : decide ((k : Int) < (b.length : Int)) = false := by simp; omega
        simp only [hnk, Bool.false_eq_true, if_false]
        unfold ref6_Merged_j1
        have ea : a.take i = a := List.take_of_length_le (by omega)
        have eb : b.take k = b := List.take_of_length_le (by omega)
        have hc := hI.con
        have hm := hI.mem
        rw [ea, eb] at hc hm
        exact .inl ⟨hc, w, rfl, hI.rise, hm⟩
theorem merged_eq (a b : List SPathDigest) (ha : BGood a) (hb : BGood b) :
    (Con a b ∧ ∃ d, ref6_Merged 200 a b = some (d, true) ∧ Rises Op.bytesLess SPathDigest.Path d ∧ ∀ x, x ∈ d ↔ x ∈ a ∨ x ∈ b) ∨ (¬ Con a b ∧ ref6_Merged 200 a b = some ([], false)) := by
  have hla := ha.len
  have hlb := hb.len
  refine merged_l a b ha.rises hb.rises hla hlb 200 [] 0 0 (by omega) (by omega) (by omega) ⟨.nil, ?_, ?_, ?_, ?_, ?_⟩
  · intro x hx; cases hx
  · intro x hx; cases hx
  · intro x; simp
  · intro x hx; simp at hx
  · simp
theorem sortPath_mem (l : List SPathDigest) (x : SPathDigest) : x ∈ sortPath l ↔ x ∈ l := (sortTie_perm cmpPath_ok l).mem_iff
theorem cmp_le {p q : List UInt8} (h : ¬ libCompare q p < 0) : p = q ∨ Op.bytesLess p q = true := by
  unfold libCompare at h
  rw [bytes_cmp_lt] at h
  have h1 : Op.bytesLess q p = false := by simpa using h
  cases h2 : Op.bytesLess p q with
  | true => exact .inr rfl
  | false => exact .inl (totalBytes.tri _ _ h2 h1)
theorem adj_rises {d : List SPathDigest} (hw : d.Pairwise fun x y => x.Path = y.Path ∨ Op.bytesLess x.Path y.Path = true) (h : ∀ (j : Nat) (hj : j < d.length), 0 < j → (d[j - 1]'(by omega)).Path ≠ d[j].Path) : Rises Op.bytesLess SPathDigest.Path d := by
  unfold Rises
  rw [List.pairwise_iff_getElem] at hw ⊢
  intro i j hi hj hij
  obtain ⟨e, rfl⟩ : ∃ e, j = i + 1 + e := ⟨j - (i + 1), by omega⟩
  induction e with
  | zero => exact (hw i (i + 1) hi hj (by omega)).resolve_left (h (i + 1) hj (by omega))
  | succ e ih =>
    have h1 := ih (by omega) (by omega)
    have h2 := (hw (i + 1 + e) (i + 1 + (e + 1)) (by omega) hj (by omega)).resolve_left (h (i + 1 + (e + 1)) hj (by omega))
    exact bytes_trans h1 h2
theorem merge_eq (a b : List SPathDigest) (ha : bom_Validate 200 a = some ⟨0, 0⟩) (hb : bom_Validate 200 b = some ⟨0, 0⟩) (ga : BGood a) (gb : BGood b) :
    (Con a b ∧ ∃ d, bom_Merge 200 a b = some (if 24 < d.length then ([], false, ⟨10, -3⟩) else (d, true, ⟨0, 0⟩)) ∧ ref6_Merged 200 a b = some (d, true) ∧ Rises Op.bytesLess SPathDigest.Path d ∧ (∀ x, x ∈ d ↔ x ∈ a ∨ x ∈ b) ∧ d.length ≤ 48) ∨
    (¬ Con a b ∧ bom_Merge 200 a b = some ([], false, ⟨0, 0⟩) ∧ ref6_Merged 200 a b = some ([], false)) := by
  have hla := ga.len
  have hlb := gb.len
  have hh := merge_head a b ha hb hla hlb
  have hm : ∀ x, x ∈ dd (sortPath (a ++ b)) ↔ x ∈ a ∨ x ∈ b := fun x => by rw [dd_mem, sortPath_mem, List.mem_append]
  have hdl : (dd (sortPath (a ++ b))).length ≤ 48 := by
    refine Nat.le_trans (dd_len _) ?_
    rw [sortPath_length, List.length_append]; omega
  have hw : (dd (sortPath (a ++ b))).Pairwise fun x y => x.Path = y.Path ∨ Op.bytesLess x.Path y.Path = true :=
    List.Pairwise.sublist (dd_sub _) ((sortTie_pairwise cmpPath_ok (a ++ b)).imp fun h => cmp_le h)
  rcases merge_l1 (dd (sortPath (a ++ b))) hdl 200 0 (by omega) (by omega) (fun j hj h1 h2 => by omega) with ⟨h1, h2⟩ | ⟨⟨j, hj, h0, h1⟩, h2⟩
  · have hr := adj_rises hw h1
    have hcon : Con a b := fun x hx y hy e => hr.uniq totalBytes ((hm x).2 (.inl hx)) ((hm y).2 (.inr hy)) e
    rcases merged_eq a b ga gb with ⟨_, d, h3, h4, h5⟩ | ⟨h3, _⟩
    · have : dd (sortPath (a ++ b)) = d := rises_ext totalBytes hr h4 fun x => by rw [hm, h5]
      rw [this] at h2 hdl
      exact .inl ⟨hcon, d, by rw [hh, this]; exact h2, h3, h4, h5, hdl⟩
    · exact absurd hcon h3
  · have hne : ¬ Con a b := by
      intro hc
      have hadj := dd_adj (sortPath (a ++ b)) (j - 1) (by omega)
      have e1 : (dd (sortPath (a ++ b)))[j - 1 + 1]'(by omega) = (dd (sortPath (a ++ b)))[j] := by congr 1; omega
      rw [e1] at hadj
      have m1 := (hm _).1 (List.getElem_mem (show j - 1 < (dd (sortPath (a ++ b))).length by omega))
      have m2 := (hm _).1 (List.getElem_mem hj)
      apply hadj
      rcases m1 with m1 | m1 <;> rcases m2 with m2 | m2
      · exact ga.rises.uniq totalBytes m1 m2 h1
      · exact hc _ m1 _ m2 h1
      · exact (hc _ m2 _ m1 h1.symm).symm
      · exact gb.rises.uniq totalBytes m1 m2 h1
    rcases merged_eq a b ga gb with ⟨h3, _⟩ | ⟨_, h3⟩
    · exact absurd h3 hne
    · exact .inr ⟨hne, by rw [hh]; exact h2, h3⟩
end Go.Proofs.YtlkknmhhefjmjaaDoor
namespace Go.Proofs.YtlkknmhhefjmjaaDoor
open Go.PW Go
theorem Fine.zero {r : SCodeIndex} (h : Fine r) (hc : r.Code = 0) : r = ⟨0, 0⟩ := h.resolve_right fun h => h hc
theorem tgood_s {t : SFiles} (hf : ∀ f ∈ t.Files, f.Path.length < big) {k : Int} (h : treepatch_Second 200 t k = some ⟨0, 0⟩) : TGood t := by
  rcases second_cases t hf k with ⟨h1, _⟩ | ⟨c, hc, _, h2⟩
  · exact h1
  · rw [h] at h2; exact absurd (congrArg SCodeIndex.Code (Option.some.inj h2)).symm hc
theorem second_s {t : SFiles} (hf : ∀ f ∈ t.Files, f.Path.length < big) {k : Int} (h : TGood t) : treepatch_Second 200 t k = some ⟨0, 0⟩ := by
  rcases second_cases t hf k with ⟨_, h1⟩ | ⟨c, hc, h2, _⟩
  · exact h1
  · exact absurd h h2
theorem pathsOf_l (l : List (List UInt8)) (h : PGood l) : ∀ (m i : Nat), l.length - i < m → ref6_PathsFault_l1 200 l m (i : Int) = some ⟨0, 0⟩ := by
  have hl := h.len
  intro m
  induction m with
  | zero => intro i h; omega
  | succ m ih =>
    intro i hm
    rw [ref6_PathsFault_l1]
    by_cases hlt : i < l.length
    · unfold ref6_PathsFault_j1
      have hv := h.valid _ (List.getElem_mem hlt)
      simp only [lt_dec hlt, if_true, gidx_nat, getElem?_lt hlt, bsome, pathValid_eq, hv, Bool.not_true, Bool.false_eq_true, if_false]
      by_cases h0 : 0 < i
      · have h0' : decide (0 < (i : Int)) = true := by simp; omega
        have g1 : gsub (i : Int) 1 = some ((i - 1 : Nat) : Int) := by rw [gsubI (by omega)]; congr 1; omega
        have hp := (List.pairwise_iff_getElem.1 h.up) (i - 1) i (by omega) hlt (by omega)
        have hc : (Op.bytesLess l[i] (l[i - 1]'(by omega)) || l[i] == (l[i - 1]'(by omega))) = false := by
          rw [totalBytes.asymm hp, Bool.false_or]
          have := totalBytes.ne hp
          simpa using fun e => this e.symm
        simp only [h0', eq_self, if_true, g1, bsome, gidx_nat, getElem?_lt (show i - 1 < l.length by omega), hc, Bool.false_eq_true, if_false, gadd_nat (show i < 1000000 by omega)]
        exact ih (i + 1) (by omega)
      · have h0' : decide (0 < (i : Int)) = false := by simp; omega
        simp only [h0', Bool.false_eq_true, if_false, gadd_nat (show i < 1000000 by omega), bsome]
        exact ih (i + 1) (by omega)
    · rw [if_neg (nlt_dec hlt)]
theorem pathsOf {l : List (List UInt8)} (h : PGood l) : ref6_PathsFault 200 l = some ⟨0, 0⟩ := by
  unfold ref6_PathsFault
  have := h.len
  rw [if_neg (by simp; omega)]
  exact pathsOf_l l h 200 0 (by omega)
theorem bvalid_of {a : List SPathDigest} (h : BGood a) : bom_Validate 200 a = some ⟨0, 0⟩ := by
  have hl := h.len
  have h1' := pathsOf h.paths
  unfold bom_Validate
  unfold ref6_PathsFault at h1'
  rw [if_neg (by simp; omega)] at h1'
  rw [if_neg (by simp; omega)]
  have := bval_l2 a (by omega) 200 0
  rw [show ((0 : Nat) : Int) = 0 from rfl, h1', bsome] at this
  rw [this]
  unfold bom_Validate_j1
  rw [if_neg (by decide)]
  obtain ⟨r, h4, h5, h6⟩ := dig_l a hl 200 0 (by omega)
  rw [show ((0 : Nat) : Int) = 0 from rfl] at h4
  rw [h4, h6.2 fun e he => h.dig e (by simpa using he)]
theorem bill_good {l : List (List UInt8)} (t : SFiles) (h : PGood l) : BGood (bill l t) := by
  have e : (bill l t).map (·.Path) = l := by unfold bill; rw [List.map_map]; exact List.map_id l
  refine ⟨by rw [e]; exact h, fun x hx => ?_⟩
  obtain ⟨p, _, rfl⟩ := List.mem_map.1 hx
  exact fsum_ok
theorem bill_len (l : List (List UInt8)) (t : SFiles) : (bill l t).length = l.length := by simp [bill]
theorem check_good (a : List SPathDigest) (t : SFiles) (hf : ∀ f ∈ t.Files, f.Path.length < big) (ha : BGood a) (ht : TGood t) : ∃ w : List Int, bom_Check 200 a t = some (w, ⟨0, 0⟩) ∧ (w = [] ↔ ∀ e ∈ a, e.Digest = fsum t e.Path) := by
  obtain ⟨r, s, w, h1, h2, h3, h4, h5, h6, h7, h8⟩ := check_eq a t hf
  rw [bvalid_of ha] at h1
  rw [second_s hf ht] at h4
  injection h1 with h1
  injection h4 with h4
  subst h1; subst h4
  rw [if_neg (by simp), if_neg (by simp)] at h7
  exact ⟨w, h7, (h8 rfl rfl).2.2.1⟩
theorem merge_self (a : List SPathDigest) (ha : BGood a) : bom_Merge 200 a a = some (a, true, ⟨0, 0⟩) := by
  have hl := ha.len
  rcases merge_eq a a (bvalid_of ha) (bvalid_of ha) ha ha with ⟨_, d, h1, _, h3, h4, _⟩ | ⟨h, _⟩
  · have : d = a := rises_ext totalBytes h3 ha.rises fun x => by rw [h4, or_self]
    subst this
    rw [h1, if_neg (by omega)]
  · exact absurd (fun x hx y hy e => ha.rises.uniq totalBytes hx hy e) h
def F0 : SFiles := ⟨[⟨[97], [[120], [121]]⟩]⟩
def B0 : List SPathDigest := bill [[97], [98]] F0
theorem make0 : bom_Make 200 [[97], [98]] F0 = some (B0, ⟨0, 0⟩) := by kernel_rfl
theorem check0 : bom_Check 200 B0 F0 = some ([], ⟨0, 0⟩) := by kernel_rfl
theorem check1 : bom_Check 200 B0 ⟨[]⟩ = some ([0], ⟨0, 0⟩) := by kernel_rfl
theorem valid0 : bom_Validate 200 B0 = some ⟨0, 0⟩ := by kernel_rfl
theorem good0 : BGood B0 := by
  obtain ⟨r, h1, _, h3⟩ := bval_eq B0
  rw [valid0] at h1
  injection h1 with h1
  exact h3 h1.symm
theorem bills1 : law6_bills_j1 200 (B0, ⟨0, 0⟩) ([], ⟨0, 0⟩) ([0], ⟨0, 0⟩) (B0, true, ⟨0, 0⟩) true = some true := by kernel_rfl
theorem bills_eq : law6_bills 200 = some true := by
  unfold law6_bills
  have e : law6_files 200 = some F0 := rfl
  rw [e, bsome, make0, bsome, bsome]
  show ((bom_Check 200 B0 F0).bind fun r4 => _) = _
  rw [check0, bsome]
  show ((bom_Check 200 B0 ⟨[]⟩).bind fun r5 => _) = _
  rw [check1, bsome]
  show ((bom_Merge 200 B0 B0).bind fun r6 => _) = _
  rw [merge_self B0 good0, bsome]
  exact bills1
theorem same_ne (x : SCodeIndex) : ((x.Code == x.Code && (x.Index == x.Index && true)) != true) = false := by simp
theorem same_eq (x : SCodeIndex) : ((x.Code == x.Code && (x.Index == x.Index && true)) != false) = true := by simp
theorem bomMatches_eq (a : List SPathDigest) (t : SFiles) (hb : a.length * 24 ≤ reachBytes) (hf : ∀ f ∈ t.Files, f.Path.length < big) : law6_BomMatchesSpec 200 a t = some true := by
  obtain ⟨r, s, w, h1, h2, h3, h4, h5, h6, h7, h8⟩ := check_eq a t hf
  unfold law6_BomMatchesSpec
  rw [bomFault_eq a hb, h1, bsome, bills_eq, bsome, if_neg (by decide), bsome, same_ne]
  unfold law6_BomMatchesSpec_j1
  rw [if_neg (by decide)]
  by_cases hr : r.Code = 0
  · rw [if_pos (by simp [hr]), treeAt_eq t hf, h4, bsome]
    have := h2.zero hr; subst this
    unfold law6_BomMatchesSpec_j2
    rw [if_neg (by simp)] at h7
    by_cases hs : s.Code = 0
    · have := h5.zero hs; subst this
      obtain ⟨w1, w2, w3, w4⟩ := h8 rfl rfl
      rw [if_neg (by simp)] at h7
      have hi := ints_self w (by omega)
      rw [h7, bsome, if_pos (same_eq _), if_neg (by decide), if_pos (by decide), w1, bsome, hi, bsome]
      rfl
    · rw [if_pos hs] at h7
      rw [h7, bsome, if_pos (same_eq _), if_pos (by simpa using hs)]
      rfl
  · rw [if_neg (by simp [hr])]
    unfold law6_BomMatchesSpec_j2
    rw [if_pos hr] at h7
    rw [h7, bsome, if_pos (same_eq _), if_pos (by simpa using hr)]
    rfl
theorem bomMake_eq (l : List (List UInt8)) (t : SFiles) (hf : ∀ f ∈ t.Files, f.Path.length < big) : law6_BomMakeMatchesSpec 200 l t = some true := by
  obtain ⟨r, s, h1, h2, h4, h5, h7⟩ := make_eq l t hf
  unfold law6_BomMakeMatchesSpec
  rw [h1, bsome]
  by_cases hr : r.Code = 0
  · rw [if_pos (by simp [hr]), treeAt_eq t hf, h4, bsome]
    have := h2.zero hr; subst this
    unfold law6_BomMakeMatchesSpec_j1
    rw [if_neg (by simp)] at h7
    by_cases hs : s.Code = 0
    · have := h5.zero hs; subst this
      rw [if_neg (by simp)] at h7
      have hg := pgood_of l h1
      have hl := hg.len
      rw [h7, bsome, bills_eq, bsome, if_pos rfl, if_pos (same_eq _), if_neg (by decide), if_pos (by decide), billed_eq l t hl (tgood_s hf h4), bsome, sameBom_eq _ _ (by rw [bill_len]; omega), bsome, decide_eq_true rfl]
      rfl
    · rw [if_pos hs] at h7
      rw [h7, bsome, bills_eq, bsome, if_pos rfl, if_pos (same_eq _), if_pos (by simpa using hs)]
      rfl
  · rw [if_neg (by simp [hr])]
    unfold law6_BomMakeMatchesSpec_j1
    rw [if_pos hr] at h7
    rw [h7, bsome, bills_eq, bsome, if_pos rfl, if_pos (same_eq _), if_pos (by simpa using hr)]
    rfl
theorem merge_all (a b : List SPathDigest) : ∃ ra rb, bom_Validate 200 a = some ra ∧ bom_Validate 200 b = some rb ∧ Fine ra ∧ Fine rb ∧ (ra = ⟨0, 0⟩ → BGood a) ∧ (rb = ⟨0, 0⟩ → BGood b) ∧
    (ra.Code ≠ 0 → bom_Merge 200 a b = some ([], false, ra)) ∧ (ra.Code = 0 → rb.Code ≠ 0 → bom_Merge 200 a b = some ([], false, ⟨rb.Code, -2⟩)) := by
  obtain ⟨ra, a1, a2, a3⟩ := bval_eq a
  obtain ⟨rb, b1, b2, b3⟩ := bval_eq b
  refine ⟨ra, rb, a1, b1, a2, b2, a3, b3, fun h => ?_, fun h h' => ?_⟩
  · unfold bom_Merge
    rw [a1, bsome, if_pos (fault_ne h)]
  · have := a2.zero h; subst this
    unfold bom_Merge
    rw [a1, bsome, if_neg fault_none, b1, bsome, if_pos (fault_ne h')]
theorem bomMerge_eq (a b : List SPathDigest) (ha : a.length * 24 ≤ reachBytes) (hb : b.length * 24 ≤ reachBytes) : law6_BomMergeMatchesSpec 200 a b = some true := by
  obtain ⟨ra, rb, a1, b1, a2, b2, a3, b3, h1, h2⟩ := merge_all a b
  unfold law6_BomMergeMatchesSpec
  rw [bomFault_eq a ha, bomFault_eq b hb, a1, b1, bsome]
  by_cases hra : ra.Code = 0
  · rw [if_pos (by simp [hra]), bsome]
    have := a2.zero hra; subst this
    unfold law6_BomMergeMatchesSpec_j6
    by_cases hrb : rb.Code = 0
    · have := b2.zero hrb; subst this
      rw [if_neg (by decide)]
      unfold law6_BomMergeMatchesSpec_j1
      rw [if_pos (by decide)]
      rcases merge_eq a b a1 b1 (a3 rfl) (b3 rfl) with ⟨_, d, h3, h4, _, _, h6⟩ | ⟨_, h3, h4⟩
      · rw [h4, bsome]
        unfold law6_BomMergeMatchesSpec_j2
        rw [if_pos rfl]
        unfold law6_BomMergeMatchesSpec_j5
        by_cases hd : 24 < d.length
        · rw [if_pos (by simp; omega)]
          rw [if_pos hd] at h3
          have e : law6_fault 200 10 (-3) = some ⟨10, -3⟩ := rfl
          rw [e, bsome]
          unfold law6_BomMergeMatchesSpec_j3
          rw [h3, bsome, bills_eq, bsome]
          rfl
        · rw [if_neg (by simp; omega)]
          rw [if_neg hd] at h3
          unfold law6_BomMergeMatchesSpec_j3
          rw [h3, bsome, bills_eq, bsome, if_pos rfl]
          show ((ref6_SameBom 200 d d).bind fun r13 => law6_BomMergeMatchesSpec_j4 200 r13) = _
          rw [sameBom_eq _ _ (by omega), bsome, decide_eq_true rfl]
          rfl
      · rw [h4, bsome]
        unfold law6_BomMergeMatchesSpec_j2
        rw [if_neg (by decide)]
        unfold law6_BomMergeMatchesSpec_j5
        rw [if_neg (by decide)]
        unfold law6_BomMergeMatchesSpec_j3
        rw [h3, bsome, bills_eq, bsome]
        rfl
    · have e : law6_fault 200 rb.Code (-2) = some ⟨rb.Code, -2⟩ := rfl
      rw [if_pos (by simpa using hrb), bomFault_eq b hb, b1, bsome, e, bsome]
      unfold law6_BomMergeMatchesSpec_j1
      rw [if_neg (by simpa using hrb)]
      unfold law6_BomMergeMatchesSpec_j2
      rw [if_neg (by decide)]
      unfold law6_BomMergeMatchesSpec_j5
      rw [if_neg (by decide)]
      unfold law6_BomMergeMatchesSpec_j3
      rw [h2 rfl hrb, bsome, bills_eq, bsome, if_pos rfl, if_pos (same_eq ⟨rb.Code, -2⟩)]
      rfl
  · rw [if_neg (by simpa using hra)]
    unfold law6_BomMergeMatchesSpec_j6
    rw [if_neg (by decide)]
    unfold law6_BomMergeMatchesSpec_j1
    rw [if_neg (by simpa using hra)]
    unfold law6_BomMergeMatchesSpec_j2
    rw [if_neg (by decide)]
    unfold law6_BomMergeMatchesSpec_j5
    rw [if_neg (by decide)]
    unfold law6_BomMergeMatchesSpec_j3
    rw [h1 hra, bsome, bills_eq, bsome, if_pos rfl, if_pos (same_eq ra)]
    rfl
theorem bill_same (l : List (List UInt8)) (t u : SFiles) : (∀ e ∈ bill l t, e.Digest = fsum u e.Path) ↔ bill l t = bill l u := by
  unfold bill
  constructor
  · intro h
    refine List.map_congr_left fun p hp => ?_
    rw [← h _ (List.mem_map.2 ⟨p, hp, rfl⟩)]
  · intro h e he
    rw [h] at he
    obtain ⟨p, _, rfl⟩ := List.mem_map.1 he
    rfl
theorem len_nil (w : List Int) : (decide ((w.length : Int) = 0)) = decide (w = []) := by cases w <;> simp; omega
theorem len_pos (w : List Int) : (decide (0 < (w.length : Int))) = decide (w ≠ []) := by cases w <;> simp
theorem bomMade_eq (l : List (List UInt8)) (t u : SFiles) (hf : ∀ f ∈ t.Files, f.Path.length < big) (hu : ∀ f ∈ u.Files, f.Path.length < big) : law6_BomMadeDescribesItsTree 200 l t u = some true := by
  obtain ⟨r, s, h1, h2, h4, h5, h7⟩ := make_eq l t hf
  obtain ⟨r', s', h1', h2', h4', h5', h7'⟩ := make_eq l u hu
  rw [h1] at h1'
  injection h1' with h1'
  subst h1'
  unfold law6_BomMadeDescribesItsTree
  have hbad : ∀ x : SCodeIndex, x.Code ≠ 0 → bom_Make 200 l t = some ([], x) → ((bom_Make 200 l t).bind fun r1 =>
      (law6_bills 200).bind fun r11 => if (!r11) = true then law6_BomMadeDescribesItsTree_j1 200 l t u r1 true else law6_BomMadeDescribesItsTree_j1 200 l t u r1 (decide (r1.2.Code ≠ 0))) = some true := by
    intro x hx h
    rw [h, bsome, bills_eq, bsome, if_neg (by decide), decide_eq_true (show ([], x).2.Code ≠ 0 from hx)]
    unfold law6_BomMadeDescribesItsTree_j1
    rw [if_pos rfl, bills_eq, bsome]
    rfl
  by_cases hr : r.Code = 0
  · have := h2.zero hr; subst this
    rw [if_neg (by simp)] at h7 h7'
    by_cases hs : s.Code = 0
    · have := h5.zero hs; subst this
      rw [if_neg (by simp)] at h7
      have hg := pgood_of l h1
      have hl := hg.len
      have ht := tgood_s hf h4
      obtain ⟨w, c1, c2⟩ := check_good (bill l t) t hf (bill_good t hg) ht
      have hw : w = [] := c2.2 ((bill_same l t t).2 rfl)
      subst hw
      obtain ⟨rr, ss, ww, d1, d2, d3, d4, d5, d6, d7, d8⟩ := check_eq (bill l t) u hu
      rw [bvalid_of (bill_good t hg)] at d1
      injection d1 with d1
      subst d1
      rw [h4'] at d4
      injection d4 with d4
      subst d4
      rw [if_neg (by simp)] at d7
      rw [h7, bsome, bills_eq, bsome, if_neg (by decide), decide_eq_false (by simp)]
      unfold law6_BomMadeDescribesItsTree_j1
      rw [if_neg (by decide), h7', d7]
      show ((bom_Check 200 (bill l t) t).bind fun r5 => _) = _
      rw [c1, bsome, bsome]
      rw [bsome, if_neg (by decide), if_neg (by decide)]
      by_cases hs' : s'.Code = 0
      · have := h5'.zero hs'; subst this
        obtain ⟨w1, w2, w3, w4⟩ := d8 rfl rfl
        rw [if_neg (by simp), if_neg (by simp)]
        show ((ref6_SameBom 200 (bill l t) (bill l u)).bind fun r10 => law6_BomMadeDescribesItsTree_j4 200 ((decide ((ww.length : Int) = 0)) == r10)) = _
        rw [sameBom_eq _ _ (by rw [bill_len]; omega), bsome, len_nil]
        unfold law6_BomMadeDescribesItsTree_j4
        have : (ww = []) = (bill l t = bill l u) := propext (w3.trans (bill_same l t u))
        simp only [this, beq_self_eq_true]
      · rw [if_pos hs', if_pos hs']
        show law6_BomMadeDescribesItsTree_j3 200 _ ([], s') ([], s') ((s'.Code == s'.Code && (s'.Index == s'.Index && true)) != true) = _
        rw [same_ne]
        unfold law6_BomMadeDescribesItsTree_j3
        rw [if_neg (by decide), if_pos (by simpa using hs')]
        rfl
    · rw [if_pos hs] at h7
      exact hbad s hs h7
  · rw [if_pos hr] at h7
    exact hbad r hr h7
end Go.Proofs.YtlkknmhhefjmjaaDoor
namespace Go.Proofs.YtlkknmhhefjmjaaDoor
open Go.PW Go
theorem con_symm {a b : List SPathDigest} : Con a b ↔ Con b a := ⟨fun h x hx y hy e => (h y hy x hx e.symm).symm, fun h x hx y hy e => (h y hy x hx e.symm).symm⟩
theorem merged_good {a b d : List SPathDigest} (ha : BGood a) (hb : BGood b) (hr : Rises Op.bytesLess SPathDigest.Path d) (hm : ∀ x, x ∈ d ↔ x ∈ a ∨ x ∈ b) (hl : d.length ≤ 24) : BGood d := by
  refine ⟨⟨by simpa using hl, ?_, List.pairwise_map.2 hr⟩, fun e he => ?_⟩
  · intro p hp
    obtain ⟨x, hx, rfl⟩ := List.mem_map.1 hp
    rcases (hm x).1 hx with h | h
    · exact ha.paths.valid _ (List.mem_map.2 ⟨x, h, rfl⟩)
    · exact hb.paths.valid _ (List.mem_map.2 ⟨x, h, rfl⟩)
  · rcases (hm e).1 he with h | h
    · exact ha.dig e h
    · exact hb.dig e h
theorem nil_good : BGood [] := ⟨⟨by simp, by simp, .nil⟩, by simp⟩
theorem check_some (a : List SPathDigest) (t : SFiles) (hf : ∀ f ∈ t.Files, f.Path.length < big) : ∃ w, bom_Check 200 a t = some w := by
  obtain ⟨r, s, w, _, _, _, _, _, _, h7, _⟩ := check_eq a t hf
  exact ⟨_, h7⟩
theorem check_val (a : List SPathDigest) (t : SFiles) (hf : ∀ f ∈ t.Files, f.Path.length < big) (ha : BGood a) : ∃ s, treepatch_Second 200 t (-2) = some s ∧ Fine s ∧
    (s.Code ≠ 0 → bom_Check 200 a t = some ([], s)) ∧ (s.Code = 0 → ∃ w : List Int, bom_Check 200 a t = some (w, ⟨0, 0⟩) ∧ (w = [] ↔ ∀ e ∈ a, e.Digest = fsum t e.Path)) := by
  obtain ⟨r, s, w, h1, h2, h3, h4, h5, h6, h7, h8⟩ := check_eq a t hf
  rw [bvalid_of ha] at h1
  injection h1 with h1
  subst h1
  rw [if_neg (by simp)] at h7
  refine ⟨s, h4, h5, fun h => by rw [if_pos h] at h7; exact h7, fun h => ?_⟩
  have := h5.zero h; subst this
  rw [if_neg (by simp)] at h7
  exact ⟨w, h7, (h8 rfl rfl).2.2.1⟩
theorem bomBoth_bad (a b : List SPathDigest) (t : SFiles) (hf : ∀ f ∈ t.Files, f.Path.length < big) (x : SCodeIndex) (hx : x.Code ≠ 0) : law6_BomMergedDescribesBoth_j1 200 a b t ([], false, x) false = some true := by
  obtain ⟨w1, h1⟩ := check_some a t hf
  obtain ⟨w2, h2⟩ := check_some b t hf
  obtain ⟨w3, h3⟩ := check_some [] t hf
  unfold law6_BomMergedDescribesBoth_j1
  rw [if_neg (by decide), h1, bsome, h2, bsome]
  show ((bom_Check 200 [] t).bind fun r6 => _) = _
  rw [h3, bsome, if_pos (by simpa using hx)]
  unfold law6_BomMergedDescribesBoth_j2
  rw [if_pos rfl, if_neg (by simpa using hx)]
  rfl
theorem bomBoth_head (a b : List SPathDigest) (t : SFiles) (d : List SPathDigest) (k : Bool) (x y : SCodeIndex) (h1 : bom_Merge 200 a b = some (d, k, x)) (h2 : bom_Merge 200 b a = some (d, k, y)) (hxy : x.Code = 0 ↔ y.Code = 0) (hd : d.length ≤ 48) :
    law6_BomMergedDescribesBoth 200 a b t = law6_BomMergedDescribesBoth_j1 200 a b t (d, k, x) false := by
  unfold law6_BomMergedDescribesBoth
  rw [h1, h2, bsome, bsome, bills_eq, bsome, if_neg (by decide)]
  have e : ((decide ((d, k, x).2.2.Code = 0)) != (decide ((d, k, y).2.2.Code = 0))) = false := by
    show ((decide (x.Code = 0)) != (decide (y.Code = 0))) = false
    by_cases h : x.Code = 0
    · simp [h, hxy.1 h]
    · have : ¬ y.Code = 0 := fun h' => h (hxy.2 h')
      simp [h, this]
  rw [e, if_neg (by decide), if_neg (by simp)]
  show ((ref6_SameBom 200 d d).bind fun r12 => law6_BomMergedDescribesBoth_j1 200 a b t (d, k, x) (!r12)) = _
  rw [sameBom_eq _ _ (by omega), bsome, decide_eq_true rfl]
  rfl
theorem bomBoth_eq (a b : List SPathDigest) (t : SFiles) (hf : ∀ f ∈ t.Files, f.Path.length < big) : law6_BomMergedDescribesBoth 200 a b t = some true := by
  obtain ⟨ra, rb, a1, b1, a2, b2, a3, b3, h1, h2⟩ := merge_all a b
  obtain ⟨rb', ra', b1', a1', _, _, _, _, h1', h2'⟩ := merge_all b a
  rw [a1] at a1'
  rw [b1] at b1'
  injection a1' with a1'
  injection b1' with b1'
  subst a1'; subst b1'
  by_cases hra : ra.Code = 0
  · by_cases hrb : rb.Code = 0
    · have := a2.zero hra; subst this
      have := b2.zero hrb; subst this
      have ga := a3 rfl
      have gb := b3 rfl
      rcases merge_eq a b a1 b1 ga gb with ⟨hc, d, m1, _, m3, m4, m5⟩ | ⟨hc, m1, _⟩
      · rcases merge_eq b a b1 a1 gb ga with ⟨_, d', n1, _, n3, n4, _⟩ | ⟨hn, _⟩
        · have : d' = d := rises_ext totalBytes n3 m3 fun x => by rw [n4, m4, or_comm]
          subst this
          by_cases hd : 24 < d'.length
          · rw [if_pos hd] at m1 n1
            rw [bomBoth_head a b t _ _ _ _ m1 n1 Iff.rfl (by simp)]
            exact bomBoth_bad a b t hf _ (by simp)
          · rw [if_neg hd] at m1 n1
            rw [bomBoth_head a b t _ _ _ _ m1 n1 Iff.rfl m5]
            have gd := merged_good ga gb m3 m4 (by omega)
            obtain ⟨s, s1, s2, c1, c2⟩ := check_val a t hf ga
            obtain ⟨s', s1', _, e1, e2⟩ := check_val b t hf gb
            obtain ⟨s'', s1'', _, g1, g2⟩ := check_val d' t hf gd
            rw [s1] at s1' s1''
            injection s1' with s1'
            injection s1'' with s1''
            subst s1'; subst s1''
            unfold law6_BomMergedDescribesBoth_j1
            rw [if_neg (by decide)]
            by_cases hs : s.Code = 0
            · obtain ⟨wa, c3, c4⟩ := c2 hs
              obtain ⟨wb, e3, e4⟩ := e2 hs
              obtain ⟨wd, g3, g4⟩ := g2 hs
              rw [c3, bsome, e3, bsome]
              show ((bom_Check 200 d' t).bind fun r6 => _) = _
              rw [g3, bsome]
              show (if decide ((wa.length : Int) = 0) = true then law6_BomMergedDescribesBoth_j5 200 ((decide ((wd.length : Int) = 0)) == (decide ((wb.length : Int) = 0)))
                else law6_BomMergedDescribesBoth_j5 200 ((decide ((wd.length : Int) = 0)) == false)) = some true
              rw [len_nil, len_nil, len_nil]
              have key : wd = [] ↔ wa = [] ∧ wb = [] := by
                rw [g4, c4, e4]
                constructor
                · exact fun h => ⟨fun e he => h e ((m4 e).2 (.inl he)), fun e he => h e ((m4 e).2 (.inr he))⟩
                · rintro ⟨h, h'⟩ e he
                  rcases (m4 e).1 he with he | he
                  · exact h e he
                  · exact h' e he
              unfold law6_BomMergedDescribesBoth_j5
              by_cases h3 : wa = []
              · by_cases h4 : wb = []
                · have h5 := key.2 ⟨h3, h4⟩
                  simp [h3, h4, h5]
                · have h5 : ¬ wd = [] := fun h => h4 (key.1 h).2
                  simp [h3, h4, h5]
              · have h5 : ¬ wd = [] := fun h => h3 (key.1 h).1
                simp [h3, h5]
            · rw [c1 hs, bsome, e1 hs, bsome]
              show ((bom_Check 200 d' t).bind fun r6 => _) = _
              rw [g1 hs, bsome, if_neg (by simp), if_pos (by simpa using hs)]
              rfl
        · exact absurd (con_symm.1 hc) hn
      · rcases merge_eq b a b1 a1 gb ga with ⟨hn, _⟩ | ⟨_, n1, _⟩
        · exact absurd (con_symm.1 hn) hc
        · rw [bomBoth_head a b t _ _ _ _ m1 n1 Iff.rfl (by simp)]
          obtain ⟨s, s1, s2, c1, c2⟩ := check_val a t hf ga
          obtain ⟨s', s1', _, e1, e2⟩ := check_val b t hf gb
          obtain ⟨s'', s1'', _, g1, g2⟩ := check_val [] t hf nil_good
          rw [s1] at s1' s1''
          injection s1' with s1'
          injection s1'' with s1''
          subst s1'; subst s1''
          unfold law6_BomMergedDescribesBoth_j1
          rw [if_neg (by decide)]
          by_cases hs : s.Code = 0
          · obtain ⟨wa, c3, c4⟩ := c2 hs
            obtain ⟨wb, e3, e4⟩ := e2 hs
            obtain ⟨wd, g3, g4⟩ := g2 hs
            rw [c3, bsome, e3, bsome]
            show ((bom_Check 200 [] t).bind fun r6 => _) = _
            rw [g3, bsome]
            show (if decide (0 < (wa.length : Int)) = true then some true else some (decide (0 < (wb.length : Int)))) = some true
            rw [len_pos, len_pos]
            have : ¬ (wa = [] ∧ wb = []) := by
              rintro ⟨h3, h4⟩
              refine hc fun x hx y hy e => ?_
              have k1 := (c4.1 h3) x hx
              have k2 := (e4.1 h4) y hy
              rw [e, ← k2] at k1
              cases x; cases y
              simp only at e k1
              rw [e, k1]
            by_cases h3 : wa = []
            · have h4 : ¬ wb = [] := fun h => this ⟨h3, h⟩
              simp [h3, h4]
            · simp [h3]
          · rw [c1 hs, bsome, e1 hs, bsome]
            show ((bom_Check 200 [] t).bind fun r6 => _) = _
            rw [g1 hs, bsome, if_neg (by simp), if_pos (by simpa using hs)]
            rfl
    · have e : (⟨rb.Code, -2⟩ : SCodeIndex).Code ≠ 0 := hrb
      rw [bomBoth_head a b t _ _ _ _ (h2 hra hrb) (h1' hrb) Iff.rfl (by simp)]
      exact bomBoth_bad a b t hf _ hrb
  · by_cases hrb : rb.Code = 0
    · rw [bomBoth_head a b t _ _ _ _ (h1 hra) (h2' hrb hra) Iff.rfl (by simp)]
      exact bomBoth_bad a b t hf _ hra
    · rw [bomBoth_head a b t _ _ _ _ (h1 hra) (h1' hrb) (by simp [hra, hrb]) (by simp)]
      exact bomBoth_bad a b t hf _ hra
def onlyF (l : List (List UInt8)) (fs : List SPathLines) : List SPathLines := fs.filter fun f => decide (f.Path ∈ l)
theorem onlyF_snoc (l : List (List UInt8)) (fs : List SPathLines) (i : Nat) (hi : i < fs.length) : onlyF l (fs.take (i + 1)) = if fs[i].Path ∈ l then onlyF l (fs.take i) ++ [fs[i]] else onlyF l (fs.take i) := by
  unfold onlyF
  rw [List.take_add_one, getElem?_lt hi, Option.toList_some, List.filter_append]
  by_cases h : fs[i].Path ∈ l <;> simp [h]
theorem restricted_l (t : SFiles) (l : List (List UInt8)) (hl : l.length ≤ 24) (ht : t.Files.length ≤ 24) : ∀ (m i : Nat), t.Files.length - i < m → i ≤ t.Files.length → ref6_Restricted_l1 200 t l m (onlyF l (t.Files.take i)) (i : Int) = some ⟨onlyF l t.Files⟩ := by
  intro m
  induction m with
  | zero => intro i h; omega
  | succ m ih =>
    intro i h hi
    rw [ref6_Restricted_l1]
    by_cases hlt : i < t.Files.length
    · unfold ref6_Restricted_j1
      have h2 := ih (i + 1) (by omega) (by omega)
      rw [onlyF_snoc l _ i hlt] at h2
      have hw : (onlyF l (t.Files.take i)).length ≤ 24 := by
        refine Nat.le_trans (List.length_filter_le _ _) ?_
        simp; omega
      rw [if_pos (lt_dec hlt), gidx_nat, getElem?_lt hlt, bsome, hasString_eq _ _ (by omega), bsome]
      by_cases hm : t.Files[i].Path ∈ l
      · rw [if_pos hm] at h2
        rw [if_pos (by simpa using hm), gapp_ok (by simp; omega), bsome, gadd_nat (by omega), bsome]
        exact h2
      · rw [if_neg hm] at h2
        rw [if_neg (by simpa using hm), gadd_nat (by omega), bsome]
        exact h2
    · rw [if_neg (nlt_dec hlt), List.take_of_length_le (by omega)]
theorem restricted_eq (t : SFiles) (l : List (List UInt8)) (hl : l.length ≤ 24) (ht : t.Files.length ≤ 24) : ref6_Restricted 200 t l = some ⟨onlyF l t.Files⟩ := by
  have := restricted_l t l hl ht 200 0 (by omega) (by omega)
  exact this
theorem getK_onlyF (l : List (List UInt8)) (p : List UInt8) (hp : p ∈ l) : ∀ fs : List SPathLines, getK SPathLines.Path p (onlyF l fs) = getK SPathLines.Path p fs
  | [] => rfl
  | f :: r => by
    have ih := getK_onlyF l p hp r
    unfold onlyF at ih ⊢
    rw [List.filter_cons]
    by_cases h : f.Path ∈ l
    · rw [if_pos (by simpa using h), getK, getK, ih]
    · have hne : ¬ f.Path = p := fun e => h (e ▸ hp)
      rw [if_neg (by simpa using h), getK, if_neg hne, ih]
theorem onlyF_good {t : SFiles} (l : List (List UInt8)) (h : TGood t) : TGood ⟨onlyF l t.Files⟩ := by
  have hs : (onlyF l t.Files).Sublist t.Files := List.filter_sublist
  exact ⟨Nat.le_trans hs.length_le h.len, ⟨h.ok.1.sublist hs, fun f hf => h.ok.2 f (hs.subset hf)⟩, List.pairwise_iff_getElem.1 (List.Pairwise.sublist hs h.rises)⟩
theorem bill_only (l : List (List UInt8)) (t : SFiles) : bill l ⟨onlyF l t.Files⟩ = bill l t := by
  unfold bill
  refine List.map_congr_left fun p hp => ?_
  unfold fsum fileOf
  rw [getK_onlyF l p hp]
theorem bomOther_eq (l : List (List UInt8)) (t : SFiles) (hf : ∀ f ∈ t.Files, f.Path.length < big) : law6_BomOtherFilesDoNotMatter 200 l t = some true := by
  obtain ⟨r, s, h1, h2, h4, h5, h7⟩ := make_eq l t hf
  have hbad : ∀ x : SCodeIndex, x.Code ≠ 0 → bom_Make 200 l t = some ([], x) → law6_BomOtherFilesDoNotMatter 200 l t = some true := by
    intro x hx h
    unfold law6_BomOtherFilesDoNotMatter
    rw [h, bsome, bills_eq, bsome, if_neg (by decide), decide_eq_true (show ([], x).2.Code ≠ 0 from hx)]
    unfold law6_BomOtherFilesDoNotMatter_j1
    rw [if_pos rfl, bills_eq, bsome]
    rfl
  by_cases hr : r.Code = 0
  · have := h2.zero hr; subst this
    rw [if_neg (by simp)] at h7
    by_cases hs : s.Code = 0
    · have := h5.zero hs; subst this
      rw [if_neg (by simp)] at h7
      have hg := pgood_of l h1
      have hl := hg.len
      have ht := tgood_s hf h4
      have hf' : ∀ f ∈ (⟨onlyF l t.Files⟩ : SFiles).Files, f.Path.length < big := fun f hm => hf f (List.mem_filter.1 hm).1
      obtain ⟨r', s', h1', h2', h4', h5', h7'⟩ := make_eq l ⟨onlyF l t.Files⟩ hf'
      rw [h1] at h1'
      injection h1' with h1'
      subst h1'
      rw [second_s hf' (onlyF_good l ht)] at h4'
      injection h4' with h4'
      subst h4'
      rw [if_neg (by simp), if_neg (by simp), bill_only] at h7'
      unfold law6_BomOtherFilesDoNotMatter
      rw [h7, bsome, bills_eq, bsome, if_neg (by decide), decide_eq_false (by simp)]
      unfold law6_BomOtherFilesDoNotMatter_j1
      rw [if_neg (by decide), restricted_eq t l hl ht.len, bsome, h7', bsome]
      show ((ref6_SameBom 200 (bill l t) (bill l t)).bind fun r8 => law6_BomOtherFilesDoNotMatter_j3 200 r8) = _
      rw [sameBom_eq _ _ (by rw [bill_len]; omega), bsome, decide_eq_true rfl]
      rfl
    · rw [if_pos hs] at h7
      exact hbad s hs h7
  · rw [if_pos hr] at h7
    exact hbad r hr h7
end Go.Proofs.YtlkknmhhefjmjaaDoor
