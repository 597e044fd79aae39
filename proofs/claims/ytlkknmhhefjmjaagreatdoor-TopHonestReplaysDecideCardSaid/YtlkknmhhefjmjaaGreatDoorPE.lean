/- The plain laws: digests. -/
import Derived.Test.YtlkknmhhefjmjaaGreatDoorPA
import Derived.Test.YtlkknmhhefjmjaaGreatDoorPwBytes
import Derived.KernelRfl
set_option linter.unusedVariables false
set_option linter.unusedSimpArgs false
namespace Go.Proofs.YtlkknmhhefjmjaaGreatDoor
open Go.PW Go
def Dg (a : Int) : Prop := 0 ≤ a ∧ a < 2305843009213693951
instance (a : Int) : Decidable (Dg a) := inferInstanceAs (Decidable (_ ∧ _))
def sumOf (s : List UInt8) : Int := s.foldl (fun h b => (h * 257 + (b.toNat : Int) + 1) % 2305843009213693951) 1
def sumPair (a b : Int) : Int := (a * 1000003 + b * 31 + 7) % 2305843009213693951
def sumList (l : List (List UInt8)) : Int := l.foldl (fun h s => sumPair h (sumOf s)) 2
theorem mod_dg (a : Int) : Dg (a % 2305843009213693951) := by unfold Dg; omega
theorem grem_nn {a : Int} (h : 0 ≤ a) : grem a 2305843009213693951 = some (a % 2305843009213693951) := by
 unfold grem
 rw [if_neg (by decide), Int.tmod_eq_emod_of_nonneg h]
theorem kand1 (b : Nat) (h : b < 9223372036854775808) : kand .i64 (b : Int) 1 = ((b % 2 : Nat) : Int) := by
 unfold kand bitsOf
 have e1 : (BitVec.ofInt (IntKind.bits .i64) (b : Int) &&& BitVec.ofInt (IntKind.bits .i64) 1).toNat = b % 2 := by
  show (BitVec.ofInt 64 (b : Int) &&& BitVec.ofInt 64 1).toNat = b % 2
  rw [BitVec.toNat_and, BitVec.ofInt_natCast, BitVec.toNat_ofNat, Nat.mod_eq_of_lt (by omega)]
  exact Nat.and_one_is_mod b
 rw [e1, IntKind.wrap_i64]
 omega
theorem kshr1 (b : Nat) : kshr .i64 (b : Int) 1 = ((b / 2 : Nat) : Int) := by
 unfold kshr
 have : (2 : Int) ^ min 1 (IntKind.bits .i64) = 2 := rfl
 rw [this, Int.fdiv_eq_ediv_of_nonneg _ (by decide)]
 omega
theorem mod_step (s a b : Int) : (s % 2305843009213693951 + (a % 2305843009213693951) * b) % 2305843009213693951 = (s + a * b) % 2305843009213693951 := by
 rw [Int.add_emod, Int.emod_emod, Int.mul_emod (a % 2305843009213693951) b, Int.emod_emod, ← Int.mul_emod, ← Int.add_emod]
theorem mod_step' (s a b : Int) : (s + (a % 2305843009213693951) * b) % 2305843009213693951 = (s + a * b) % 2305843009213693951 := by
 rw [Int.add_emod, Int.mul_emod (a % 2305843009213693951) b, Int.emod_emod, ← Int.mul_emod, ← Int.add_emod]
theorem mul_l : ∀ (m k b : Nat) (a s : Int), k < m → b < 2 ^ k → k ≤ 60 → Dg a → Dg s → digest_mul_l1 200 m a (b : Int) s = some ((s + a * b) % 2305843009213693951) := by
 intro m
 induction m with
 | zero => intro k b a s h; omega
 | succ m ih =>
  intro k b a s hk hb hk60 ha hs
  have hb63 : b < 9223372036854775808 := Nat.lt_of_lt_of_le hb (Nat.le_trans (Nat.pow_le_pow_right (by decide) hk60) (by decide))
  unfold Dg at ha hs
  rw [digest_mul_l1]
  by_cases h0 : b = 0
  ·subst h0
   rw [if_neg (by simp)]
   unfold digest_mul_j1
   rw [Int.emod_eq_of_lt (by simp; omega) (by simp; omega)]
   simp
  ·rw [if_pos (by simp; omega), kand1 b hb63]
   obtain ⟨k, rfl⟩ : ∃ j, k = j + 1 := ⟨k - 1, by
    cases k with
    | zero => simp at hb; omega
    | succ k => omega⟩
   have hb2 : b / 2 < 2 ^ k := by rw [Nat.pow_succ] at hb; omega
   have hda := mod_dg (2 * a)
   by_cases hbit : b % 2 = 1
   ·rw [if_pos (by simp [hbit]), gaddI (by omega), bsome, grem_nn (by omega), bsome]
    unfold digest_mul_j2
    rw [gmulI (by omega), bsome, grem_nn (by omega), bsome, kshr1, ih k (b / 2) _ _ (by omega) hb2 (by omega) hda (mod_dg _), mod_step]
    congr 2
    have : (b : Int) = 2 * ((b / 2 : Nat) : Int) + 1 := by omega
    rw [this, Int.mul_add, Int.mul_one, Int.add_assoc, Int.add_comm (a * _), ← Int.mul_assoc, Int.mul_comm a 2]
   ·rw [if_neg (by simp; omega)]
    unfold digest_mul_j2
    rw [gmulI (by omega), bsome, grem_nn (by omega), bsome, kshr1, ih k (b / 2) _ _ (by omega) hb2 (by omega) hda hs, mod_step']
    congr 2
    have : (b : Int) = 2 * ((b / 2 : Nat) : Int) := by omega
    rw [this, ← Int.mul_assoc, Int.mul_comm a 2]
theorem mul_eq (a : Int) (b : Nat) (hb : b < 2 ^ 60) (ha : Dg a) : digest_mul 200 a (b : Int) = some ((a * b) % 2305843009213693951) := by
 unfold digest_mul
 rw [mul_l 200 60 b a 0 (by omega) hb (by omega) ha (by unfold Dg; omega), Int.zero_add]
theorem next_eq (a c : Int) (b : Nat) (hb : b < 2 ^ 60) (ha : Dg a) (hc : Dg c) : digest_next 200 ⟨a, c⟩ (b : Int) = some ((a * b + c) % 2305843009213693951) := by
 unfold digest_next
 have h1 := mod_dg (a * b)
 rw [mul_eq a b hb ha, bsome]
 unfold Dg at h1 hc
 rw [gaddI (by simp only []; omega), bsome, grem_nn (by simp only []; omega), bsome]
 congr 1
 exact Int.emod_add_emod _ _ _
theorem wrap_u8 (b : UInt8) : IntKind.wrap .i64 (b.toNat : Int) = (b.toNat : Int) := by
 rw [IntKind.wrap_i64]
 have := b.toNat_lt
 omega
theorem bts_get (s : List UInt8) (i : Nat) (h : i < s.length) : (bts s)[i]? = some ((s[i].toNat : Nat) : Int) := by
 unfold bts
 rw [List.getElem?_map, getElem?_lt h]; rfl
theorem bts_len (s : List UInt8) : (bts s).length = s.length := by simp [bts]
theorem foldl_snoc {α β : Type} (f : β → α → β) (z : β) (l : List α) (i : Nat) (h : i < l.length) : (l.take (i + 1)).foldl f z = f ((l.take i).foldl f z) l[i] := by
 rw [List.take_add_one, getElem?_lt h, List.foldl_append]; rfl
theorem sumOf_dg (s : List UInt8) : Dg (sumOf s) := by
 unfold sumOf
 rcases List.eq_nil_or_concat s with rfl | ⟨l, x, rfl⟩
 ·unfold Dg; simp
 ·rw [List.concat_eq_append, List.foldl_append]; exact mod_dg _
theorem sumPair_dg (a b : Int) : Dg (sumPair a b) := mod_dg _
theorem sumList_dg (l : List (List UInt8)) : Dg (sumList l) := by
 unfold sumList
 rcases List.eq_nil_or_concat l with rfl | ⟨l, x, rfl⟩
 ·unfold Dg; simp
 ·rw [List.concat_eq_append, List.foldl_append]; exact sumPair_dg _ _
theorem of_l (s : List UInt8) (hl : s.length ≤ 100) : ∀ (m i : Nat), s.length - i < m → i ≤ s.length → digest_Of_l1 200 (bts s) m (sumOf (s.take i)) (i : Int) = some (sumOf s, ⟨0, 0⟩) := by
 intro m
 induction m with
 | zero => intro i h; omega
 | succ m ih =>
  intro i h hil
  rw [digest_Of_l1]
  by_cases hlt : i < s.length
  ·have hb := s[i].toNat_lt
   rw [if_pos (by rw [bts_len]; simp; omega), gidx_nat, bts_get s i hlt, bsome, wrap_u8, gaddI (by omega), bsome]
   have hd := sumOf_dg (s.take i)
   have hn := next_eq (sumOf (s.take i)) ((s[i].toNat : Int) + 1) 257 (by decide) hd (by unfold Dg; omega)
   rw [show ((257 : Nat) : Int) = 257 from rfl] at hn
   rw [hn, bsome, gadd_nat (by omega), bsome]
   have := ih (i + 1) (by omega) (by omega)
   have e1 : sumOf (s.take (i + 1)) = (sumOf (s.take i) * 257 + ((s[i].toNat : Int) + 1)) % 2305843009213693951 := by
    unfold sumOf
    rw [foldl_snoc _ _ _ _ hlt, Int.add_assoc]
   rw [e1] at this
   exact this
  ·rw [if_neg (by rw [bts_len]; simp; omega), List.take_of_length_le (by omega)]
theorem of_eq (s : List UInt8) (hl : s.length ≤ 100) : digest_Of 200 (bts s) = some (sumOf s, ⟨0, 0⟩) := by
 unfold digest_Of
 rw [if_neg (by rw [bts_len]; simp; omega)]
 exact of_l s hl 200 0 (by omega) (by omega)
theorem pair_eq (a b : Int) (ha : Dg a) (hb : Dg b) : digest_pair 200 a b = some (sumPair a b) := by
 unfold digest_pair
 have h1 := next_eq b 7 31 (by decide) hb (by unfold Dg; omega)
 rw [show ((31 : Nat) : Int) = 31 from rfl] at h1
 rw [h1, bsome]
 have h2 := next_eq a ((b * 31 + 7) % 2305843009213693951) 1000003 (by decide) ha (mod_dg _)
 rw [show ((1000003 : Nat) : Int) = 1000003 from rfl] at h2
 rw [h2, bsome]
 unfold sumPair
 congr 1
 rw [Int.add_emod_emod, Int.add_assoc]
def Ln (l : List (List UInt8)) : Prop := l.length ≤ 120 ∧ ∀ s ∈ l, s.length ≤ 80
theorem strs_l (l : List (List UInt8)) (hl : Ln l) : ∀ (m i : Nat), l.length - i < m → i ≤ l.length → digest_Strings_l1 200 l m (sumList (l.take i)) (i : Int) = some (sumList l, ⟨0, 0⟩) := by
 intro m
 induction m with
 | zero => intro i h; omega
 | succ m ih =>
  intro i h hil
  rw [digest_Strings_l1]
  have h120 := hl.1
  by_cases hlt : i < l.length
  ·have h80 := hl.2 _ (List.getElem_mem hlt)
   rw [if_pos (lt_dec hlt), gidx_nat, getElem?_lt hlt, bsome, of_eq _ (by omega), bsome, if_neg fault_none, pair_eq _ _ (sumList_dg _) (sumOf_dg _), bsome, gadd_nat (by omega), bsome]
   have := ih (i + 1) (by omega) (by omega)
   have e1 : sumList (l.take (i + 1)) = sumPair (sumList (l.take i)) (sumOf l[i]) := by
    unfold sumList
    rw [foldl_snoc _ _ _ _ hlt]
   rw [e1] at this
   exact this
  ·rw [if_neg (nlt_dec hlt), List.take_of_length_le (by omega)]
theorem strs_eq (l : List (List UInt8)) (hl : Ln l) : digest_Strings 200 l = some (sumList l, ⟨0, 0⟩) := by
 unfold digest_Strings
 have h120 := hl.1
 rw [if_neg (by simp; omega)]
 exact strs_l l hl 200 0 (by omega) (by omega)
end Go.Proofs.YtlkknmhhefjmjaaGreatDoor
namespace Go.Proofs.YtlkknmhhefjmjaaGreatDoor
open Go.PW Go
theorem linesV_80 (l : List (List UInt8)) (hl : l.length ≤ 120) : ∀ (m i : Nat), l.length - i < m → lines_Validate_l1 200 l m (i : Int) = some ⟨0, 0⟩ → ∀ s ∈ l.drop i, s.length ≤ 80 := by
 intro m
 induction m with
 | zero => intro i h; omega
 | succ m ih =>
  intro i h h0 s hs
  rw [lines_Validate_l1] at h0
  by_cases hlt : i < l.length
  ·rw [if_pos (lt_dec hlt), gidx_nat, getElem?_lt hlt, bsome] at h0
   by_cases h80 : 80 < l[i].length
   ·rw [if_pos (by simp; omega)] at h0
    have := congrArg SCodeIndex.Code (Option.some.inj h0)
    simp at this
   ·rw [if_neg (by simp; omega)] at h0
    unfold strings_IndexByte at h0
    rw [bsome] at h0
    split at h0
    ·have := congrArg SCodeIndex.Code (Option.some.inj h0)
     simp at this
    ·rw [gadd_nat (by omega), bsome] at h0
     rw [List.drop_eq_getElem_cons hlt] at hs
     rcases List.mem_cons.1 hs with rfl | hs
     ·omega
     ·exact ih (i + 1) (by omega) h0 s hs
  ·rw [List.drop_of_length_le (by omega)] at hs
   cases hs
theorem lines_ln {l : List (List UInt8)} (h : lines_Validate 200 l = some ⟨0, 0⟩) : Ln l := by
 have hl := lines_len h
 unfold lines_Validate at h
 rw [if_neg (by simp; omega)] at h
 exact ⟨hl, fun s hs => linesV_80 l hl 200 0 (by omega) h s (by simpa using hs)⟩
structure TGood (t : SFiles) : Prop where
 len : t.Files.length ≤ 24
 ok : TreeOk t.Files
 rise : Rise t.Files
theorem TGood.lns {t : SFiles} (h : TGood t) {f : SPathLines} (hf : f ∈ t.Files) : Ln f.Lines := lines_ln (h.ok.2 f hf).2
theorem tgood_of (t : SFiles) (hf : ∀ f ∈ t.Files, f.Path.length < big) (h : treepatch_Validate 200 t = some ⟨0, 0⟩) : TGood t := by
 unfold treepatch_Validate at h
 by_cases hl : 24 < t.Files.length
 ·rw [if_pos (by simp; omega)] at h
  have := congrArg SCodeIndex.Code (Option.some.inj h)
  simp at this
 ·rw [if_neg (by simp; omega)] at h
  have hr : Rise t.Files := rise_of fun i hi => treeV_rise t (by omega) hf 200 0 (by omega) h i hi (by omega)
  have hF := tree_facts t (by omega) hf 200 0 (by omega) h
  refine ⟨by omega, ⟨?_, ?_⟩, hr⟩
  ·rw [List.pairwise_iff_getElem]
   intro i j hi hj hij
   refine ⟨hr i j hi hj hij, (hF j hj (by omega)).2.2 _ ?_⟩
   rw [List.mem_take_iff_getElem]
   exact ⟨i, by omega, rfl⟩
  ·intro f hm
   obtain ⟨j, hj, rfl⟩ := List.getElem_of_mem hm
   exact ⟨(hF j hj (by omega)).1, (hF j hj (by omega)).2.1⟩
theorem valid_of (t : SFiles) (hf : ∀ f ∈ t.Files, f.Path.length < big) (h : TGood t) : treepatch_Validate 200 t = some ⟨0, 0⟩ := by
 unfold treepatch_Validate
 have := h.len
 rw [if_neg (by simp; omega)]
 exact treeV_of t.Files h.len hf h.ok 200 0 (by omega)
theorem treeAt_eq (t : SFiles) (hf : ∀ f ∈ t.Files, f.Path.length < big) (k : Int) : ref6_TreeAt 200 t k = treepatch_Second 200 t k := by
 unfold ref6_TreeAt treepatch_Second ref6_TreeAt_j1
 rw [tree_eq t hf]
 obtain ⟨r, h1, h2⟩ := treeV_ok t hf
 rw [h1, bsome, bsome]
 rcases h2 with rfl | h2
 ·rw [if_neg (by simp), if_neg fault_none]
 ·rw [if_pos (by simpa using h2), if_pos (fault_ne h2)]
theorem second_cases (t : SFiles) (hf : ∀ f ∈ t.Files, f.Path.length < big) (k : Int) : (TGood t ∧ treepatch_Second 200 t k = some ⟨0, 0⟩) ∨ ∃ c, c ≠ 0 ∧ ¬ TGood t ∧ treepatch_Second 200 t k = some ⟨c, k⟩ := by
 unfold treepatch_Second
 obtain ⟨r, h1, h2⟩ := treeV_ok t hf
 rcases h2 with rfl | h2
 ·exact .inl ⟨tgood_of t hf h1, by rw [h1, bsome, if_neg fault_none]⟩
 ·refine .inr ⟨r.Code, h2, fun hg => ?_, by rw [h1, bsome, if_pos (fault_ne h2)]⟩
  rw [valid_of t hf hg] at h1
  have := congrArg SCodeIndex.Code (Option.some.inj h1)
  exact h2 this.symm
def fileOf (t : SFiles) (p : List UInt8) : Option (List (List UInt8)) := (getK SPathLines.Path p t.Files).map (·.Lines)
theorem TGood.rises {t : SFiles} (h : TGood t) : Rises Op.bytesLess SPathLines.Path t.Files := h.ok.1.imp fun hab => hab.1
theorem find_good (t : SFiles) (h : TGood t) (p : List UInt8) : ∃ (k : Nat) (b : Bool), treepatch_Find 200 t.Files p = some ((k : Int), b) ∧ (b = (fileOf t p).isSome) ∧ (b = true → ∃ hk : k < t.Files.length, fileOf t p = some (t.Files[k]).Lines) := by
 obtain ⟨k, b, h1, h2, h3⟩ := find_spec t.Files p h.len h.rise
 cases b with
 | true =>
  obtain ⟨hk, hp⟩ := h2 rfl
  have hg := getK_of_mem totalBytes h.rises (List.getElem_mem hk)
  rw [hp] at hg
  have : fileOf t p = some (t.Files[k]).Lines := by unfold fileOf; rw [hg]; rfl
  exact ⟨k, true, h1, by rw [this]; rfl, fun _ => ⟨hk, this⟩⟩
 | false =>
  have : getK SPathLines.Path p t.Files = none := getK_none.2 (h3 rfl)
  exact ⟨k, false, h1, by unfold fileOf; rw [this]; rfl, fun h => by cases h⟩
theorem fileOf_ln {t : SFiles} (h : TGood t) {p : List UInt8} {l : List (List UInt8)} (hl : fileOf t p = some l) : Ln l := by
 unfold fileOf at hl
 obtain ⟨f, h1, rfl⟩ := Option.map_eq_some_iff.1 hl
 exact h.lns (getK_mem h1).1
def fsum (t : SFiles) (p : List UInt8) : Int := match fileOf t p with
 | some l => sumList l
 | none => -1
theorem describe_eq (t : SFiles) (h : TGood t) (p : List UInt8) : bom_describe 200 t p = some (fsum t p) := by
 unfold bom_describe fsum
 obtain ⟨k, b, h1, h2, h3⟩ := find_good t h p
 rw [h1, bsome]
 cases b with
 | true =>
  obtain ⟨hk, h4⟩ := h3 rfl
  rw [if_neg (by simp), gidx_nat, getElem?_lt hk, bsome, strs_eq _ (fileOf_ln h h4), bsome, h4]
 | false =>
  rw [if_pos (by simp)]
  cases h5 : fileOf t p with
  | none => rfl
  | some l => rw [h5] at h2; cases h2
end Go.Proofs.YtlkknmhhefjmjaaGreatDoor
namespace Go.Proofs.YtlkknmhhefjmjaaGreatDoor
open Go.PW Go
theorem pathsF_l (l : List (List UInt8)) (hl : l.length ≤ 24) : ∀ (m i : Nat), l.length - i < m → ∃ r, ref6_PathsFault_l1 200 l m (i : Int) = some r ∧ Fine r := by
 intro m
 induction m with
 | zero => intro i h; omega
 | succ m ih =>
  intro i h
  rw [ref6_PathsFault_l1]
  unfold ref6_PathsFault_j1 ref6_fault
  by_cases hlt : i < l.length
  ·rw [if_pos (lt_dec hlt), gidx_nat, getElem?_lt hlt, bsome, pathValid_eq, bsome]
   by_cases hv : libValidPath l[i] = true
   ·rw [if_neg (by simp [hv])]
    by_cases h0 : 0 < i
    ·rw [if_pos (by simp; omega), gsubI (by omega), bsome, show (i : Int) - 1 = ((i - 1 : Nat) : Int) by omega, gidx_nat, getElem?_lt (show i - 1 < l.length by omega), bsome]
     split
     ·exact ⟨_, rfl, .inr (by simp)⟩
     ·rw [gadd_nat (by omega), bsome]; exact ih (i + 1) (by omega)
    ·rw [if_neg (by simp; omega), if_neg (by simp), gadd_nat (by omega), bsome]; exact ih (i + 1) (by omega)
   ·rw [if_pos (by simp [hv]), bsome]; exact ⟨_, rfl, .inr (by simp)⟩
  ·rw [if_neg (nlt_dec hlt)]; exact ⟨_, rfl, .none⟩
theorem pathsF (l : List (List UInt8)) : ∃ r, ref6_PathsFault 200 l = some r ∧ Fine r ∧ (r = ⟨0, 0⟩ → l.length ≤ 24) := by
 unfold ref6_PathsFault ref6_fault
 by_cases h : 24 < l.length
 ·rw [if_pos (by simp; omega), bsome]
  exact ⟨_, rfl, .inr (by simp), fun h => by cases h⟩
 ·rw [if_neg (by simp; omega)]
  obtain ⟨r, h1, h2⟩ := pathsF_l l (by omega) 200 0 (by omega)
  exact ⟨r, h1, h2, fun _ => by omega⟩
structure PGood (l : List (List UInt8)) : Prop where
 len : l.length ≤ 24
 valid : ∀ p ∈ l, libValidPath p = true
 up : l.Pairwise fun x y => Op.bytesLess x y = true
def bill (l : List (List UInt8)) (t : SFiles) : List SPathDigest := l.map fun p => ⟨p, fsum t p⟩
theorem make_l1 (l : List (List UInt8)) (t : SFiles) (hl : l.length ≤ 24) (ht : TGood t) : ∀ (m i : Nat), l.length - i < m → i ≤ l.length → bom_Make_l1 200 l t m (bill (l.take i) t) (i : Int) = some (bill l t, ⟨0, 0⟩) := by
 intro m
 induction m with
 | zero => intro i h; omega
 | succ m ih =>
  intro i h hil
  rw [bom_Make_l1]
  by_cases hlt : i < l.length
  ·rw [if_pos (lt_dec hlt), gidx_nat, getElem?_lt hlt, bsome, describe_eq t ht, bsome, gapp_ok (by simp [bill]; omega), bsome, gadd_nat (by omega), bsome]
   have := ih (i + 1) (by omega) (by omega)
   rw [List.take_add_one, getElem?_lt hlt] at this
   simp only [bill, List.map_append, Option.toList, List.map_cons, List.map_nil] at this
   exact this
  ·rw [if_neg (nlt_dec hlt), List.take_of_length_le (by omega)]
theorem make_l2 (l : List (List UInt8)) (t : SFiles) (hl : l.length ≤ 24) : ∀ (m i : Nat), bom_Make_l2 200 l t m (i : Int) = (ref6_PathsFault_l1 200 l m (i : Int)).bind fun r => bom_Make_j1 200 l t r.Code r.Index := by
 intro m
 induction m with
 | zero => intro i; rw [bom_Make_l2, ref6_PathsFault_l1]; rfl
 | succ m ih =>
  intro i
  rw [bom_Make_l2, ref6_PathsFault_l1]
  unfold ref6_PathsFault_j1 ref6_fault bom_Make_j2 bom_Make_j3 bom_Make_j4 bom_Make_j5 bom_Make_j3 treepatch_ValidPath
  by_cases hlt : i < l.length
  ·rw [if_pos (lt_dec hlt), if_pos (lt_dec hlt), gidx_nat, getElem?_lt hlt]
   simp only [bsome, pathValid_eq]
   by_cases hv : libValidPath l[i] = true
   ·have hv' : (!libValidPath l[i]) = false := by simp [hv]
    simp only [hv', Bool.false_eq_true, if_false]
    by_cases h0 : 0 < i
    ·have h0' : decide (0 < (i : Int)) = true := by simp; omega
     have hs : gsub (i : Int) 1 = some ((i - 1 : Nat) : Int) := by rw [gsubI (by omega)]; congr 1; omega
     simp only [h0', eq_self, if_true, hs, bsome, gidx_nat, getElem?_lt (show i - 1 < l.length by omega)]
     split
     ·rfl
     ·rw [gadd_nat (by omega), bsome, bsome]; exact ih (i + 1)
    ·have h0' : decide (0 < (i : Int)) = false := by simp; omega
     simp only [h0', Bool.false_eq_true, if_false, gadd_nat (show i < 1000000 by omega), bsome]; exact ih (i + 1)
   ·have hv' : (!libValidPath l[i]) = true := by simp [hv]
    simp only [hv', eq_self, if_true, bsome]
  ·rw [if_neg (nlt_dec hlt), if_neg (nlt_dec hlt), bsome]
theorem make_eq (l : List (List UInt8)) (t : SFiles) (hf : ∀ f ∈ t.Files, f.Path.length < big) : ∃ r s, ref6_PathsFault 200 l = some r ∧ Fine r ∧ treepatch_Second 200 t (-2) = some s ∧ Fine s ∧
  bom_Make 200 l t = some (if r.Code ≠ 0 then ([], r) else if s.Code ≠ 0 then ([], s) else (bill l t, ⟨0, 0⟩)) := by
 obtain ⟨r, h1, h2, h3⟩ := pathsF l
 have hs : ∃ s, treepatch_Second 200 t (-2) = some s ∧ Fine s ∧ (s = ⟨0, 0⟩ → TGood t) := by
  rcases second_cases t hf (-2) with ⟨hg, h⟩ | ⟨c, hc, _, h⟩
  ·exact ⟨_, h, .none, fun _ => hg⟩
  ·exact ⟨_, h, .inr hc, fun e => absurd (congrArg SCodeIndex.Code e) hc⟩
 obtain ⟨s, h4, h5, h6⟩ := hs
 refine ⟨r, s, h1, h2, h4, h5, ?_⟩
 have hj : bom_Make 200 l t = bom_Make_j1 200 l t r.Code r.Index := by
  unfold bom_Make
  unfold ref6_PathsFault ref6_fault at h1
  by_cases h : 24 < l.length
  ·rw [if_pos (by simp; omega), bsome] at h1
   injection h1 with h1
   subst h1
   rw [if_pos (by simp; omega)]
  ·rw [if_neg (by simp; omega)] at h1
   rw [if_neg (by simp; omega)]
   have := make_l2 l t (by omega) 200 0
   rw [show ((0 : Nat) : Int) = 0 from rfl, h1, bsome] at this
   exact this
 rw [hj]
 unfold bom_Make_j1
 rcases h2 with rfl | h2
 ·rw [if_neg (by decide), h4, bsome]
  rcases h5 with rfl | h5
  ·rw [if_neg fault_none, if_neg (by simp), if_neg (by simp)]
   have := make_l1 l t (h3 rfl) (h6 rfl) 200 0 (by have := h3 rfl; omega) (by omega)
   exact this
  ·rw [if_pos (fault_ne h5), if_neg (by simp), if_pos h5]
 ·rw [if_pos (by simp [h2]), if_pos h2]
def digOk (e : SPathDigest) : Prop := e.Digest = -1 ∨ Dg e.Digest
structure BGood (a : List SPathDigest) : Prop where
 paths : PGood (a.map (·.Path))
 dig : ∀ e ∈ a, digOk e
end Go.Proofs.YtlkknmhhefjmjaaGreatDoor
namespace Go.Proofs.YtlkknmhhefjmjaaGreatDoor
open Go.PW Go
theorem ints_l (l : List Int) (hl : l.length < 100000) : ∀ (m i : Nat), l.length - i < m → ref5_Ints_l1 200 l l m (i : Int) = some true := by
 intro m
 induction m with
 | zero => intro i h; omega
 | succ m ih =>
  intro i h
  rw [ref5_Ints_l1]
  by_cases hlt : i < l.length
  ·rw [if_pos (lt_dec hlt), gidx_nat, getElem?_lt hlt]
   simp only [bsome]
   rw [if_neg (by simp), gadd_nat (by omega), bsome]
   exact ih (i + 1) (by omega)
  ·rw [if_neg (nlt_dec hlt)]
theorem ints_self (l : List Int) (hl : l.length < 200) : ref5_Ints 200 l l = some true := by
 unfold ref5_Ints
 rw [if_neg (by simp)]
 exact ints_l l (by omega) 200 0 (by omega)
end Go.Proofs.YtlkknmhhefjmjaaGreatDoor
namespace Go.Proofs.YtlkknmhhefjmjaaGreatDoor
open Go.PW Go
def dd : List SPathDigest → List SPathDigest
 | [] => []
 | [x] => [x]
 | x :: y :: r => if x = y then dd (y :: r) else x :: dd (y :: r)
end Go.Proofs.YtlkknmhhefjmjaaGreatDoor
namespace Go.Proofs.YtlkknmhhefjmjaaGreatDoor
open Go.PW Go
theorem BGood.rises {a : List SPathDigest} (h : BGood a) : Rises Op.bytesLess SPathDigest.Path a := List.pairwise_map.1 h.paths.up
theorem BGood.len {a : List SPathDigest} (h : BGood a) : a.length ≤ 24 := by have := h.paths.len; simpa using this
structure MInv (a b w : List SPathDigest) (i k : Nat) : Prop where
 rise : Rises Op.bytesLess SPathDigest.Path w
 belowA : ∀ x ∈ w, ∀ y ∈ a.drop i, Op.bytesLess x.Path y.Path = true
 belowB : ∀ x ∈ w, ∀ y ∈ b.drop k, Op.bytesLess x.Path y.Path = true
 mem : ∀ x, x ∈ w ↔ x ∈ a.take i ∨ x ∈ b.take k
 con : ∀ x ∈ a.take i, ∀ y ∈ b.take k, x.Path = y.Path → x = y
 len : w.length ≤ i + k
end Go.Proofs.YtlkknmhhefjmjaaGreatDoor
namespace Go.Proofs.YtlkknmhhefjmjaaGreatDoor
open Go.PW Go
theorem Fine.zero {r : SCodeIndex} (h : Fine r) (hc : r.Code = 0) : r = ⟨0, 0⟩ := h.resolve_right fun h => h hc
theorem second_s {t : SFiles} (hf : ∀ f ∈ t.Files, f.Path.length < big) {k : Int} (h : TGood t) : treepatch_Second 200 t k = some ⟨0, 0⟩ := by
 rcases second_cases t hf k with ⟨_, h1⟩ | ⟨c, hc, h2, _⟩
 ·exact h1
 ·exact absurd h h2
theorem pathsOf_l (l : List (List UInt8)) (h : PGood l) : ∀ (m i : Nat), l.length - i < m → ref6_PathsFault_l1 200 l m (i : Int) = some ⟨0, 0⟩ := by
 have hl := h.len
 intro m
 induction m with
 | zero => intro i h; omega
 | succ m ih =>
  intro i hm
  rw [ref6_PathsFault_l1]
  by_cases hlt : i < l.length
  ·unfold ref6_PathsFault_j1
   have hv := h.valid _ (List.getElem_mem hlt)
   simp only [lt_dec hlt, if_true, gidx_nat, getElem?_lt hlt, bsome, pathValid_eq, hv, Bool.not_true, Bool.false_eq_true, if_false]
   by_cases h0 : 0 < i
   ·have h0' : decide (0 < (i : Int)) = true := by simp; omega
    have g1 : gsub (i : Int) 1 = some ((i - 1 : Nat) : Int) := by rw [gsubI (by omega)]; congr 1; omega
    have hp := (List.pairwise_iff_getElem.1 h.up) (i - 1) i (by omega) hlt (by omega)
    have hc : (Op.bytesLess l[i] (l[i - 1]'(by omega)) || l[i] == (l[i - 1]'(by omega))) = false := by
     rw [totalBytes.asymm hp, Bool.false_or]
     have := totalBytes.ne hp
     simpa using fun e => this e.symm
    simp only [h0', eq_self, if_true, g1, bsome, gidx_nat, getElem?_lt (show i - 1 < l.length by omega), hc, Bool.false_eq_true, if_false, gadd_nat (show i < 1000000 by omega)]
    exact ih (i + 1) (by omega)
   ·have h0' : decide (0 < (i : Int)) = false := by simp; omega
    simp only [h0', Bool.false_eq_true, if_false, gadd_nat (show i < 1000000 by omega), bsome]
    exact ih (i + 1) (by omega)
  ·rw [if_neg (nlt_dec hlt)]
theorem pathsOf {l : List (List UInt8)} (h : PGood l) : ref6_PathsFault 200 l = some ⟨0, 0⟩ := by
 unfold ref6_PathsFault
 have := h.len
 rw [if_neg (by simp; omega)]
 exact pathsOf_l l h 200 0 (by omega)
end Go.Proofs.YtlkknmhhefjmjaaGreatDoor
namespace Go.Proofs.YtlkknmhhefjmjaaGreatDoor
open Go.PW Go
end Go.Proofs.YtlkknmhhefjmjaaGreatDoor
namespace Go.Proofs.YtlkknmhhefjmjaaGreatDoor
open Go.PW Go
def ltI (a b : Int) : Bool := decide (a < b)
structure CGood (c : List SKeyLines) : Prop where
 len : c.length ≤ 16
 rise : Rises ltI SKeyLines.Key c
 keys : ∀ e ∈ c, Dg e.Key
 lines : ∀ e ∈ c, lines_Validate 200 e.Lines = some ⟨0, 0⟩
end Go.Proofs.YtlkknmhhefjmjaaGreatDoor
namespace Go.Proofs.YtlkknmhhefjmjaaGreatDoor
open Go.PW Go
def at' (c : List SKeyLines) (x : Int) : List (List UInt8) := ((getK SKeyLines.Key x c).map (·.Lines)).getD []
def has (c : List SKeyLines) (x : Int) : Bool := (getK SKeyLines.Key x c).isSome
theorem ln_clone {l : List (List UInt8)} (h : Ln l) : slices_Clone_string 200 l = some l := clone_eq l (by have := h.1; unfold big; omega)
end Go.Proofs.YtlkknmhhefjmjaaGreatDoor
namespace Go.Proofs.YtlkknmhhefjmjaaGreatDoor
open Go.PW Go
end Go.Proofs.YtlkknmhhefjmjaaGreatDoor
namespace Go.Proofs.YtlkknmhhefjmjaaGreatDoor
open Go.PW Go
theorem vp60 {p : List UInt8} (h : libValidPath p = true) : p.length ≤ 60 := by
 unfold libValidPath at h
 have := (Bool.and_eq_true_iff.1 h).1
 simpa using this
theorem in60_l (a : SInputsOpsOutput) (hl : a.Inputs.length ≤ 8) : ∀ (m i : Nat), a.Inputs.length - i < m → sandbox_Validate_l1 200 a m (i : Int) = some ⟨0, 0⟩ → (∀ p ∈ a.Inputs.drop i, p.length ≤ 60) ∧ a.Output.length ≤ 60 := by
 intro m
 induction m with
 | zero => intro i h; omega
 | succ m ih =>
  intro i h h0
  rw [sandbox_Validate_l1] at h0
  unfold treepatch_ValidPath at h0
  by_cases hi : i < a.Inputs.length
  ·rw [if_pos (lt_dec hi), gidx_nat, getElem?_lt hi, bsome, bsome] at h0
   by_cases hv : libValidPath a.Inputs[i] = true
   ·have tail : ∀ b : Bool, sandbox_Validate_j2 200 (i : Int) (sandbox_Validate_l1 200 a m) b = some ⟨0, 0⟩ → (∀ p ∈ a.Inputs.drop i, p.length ≤ 60) ∧ a.Output.length ≤ 60 := by
     intro b hb
     unfold sandbox_Validate_j2 at hb
     cases b with
     | true =>
      rw [if_pos rfl] at hb
      have := congrArg SCodeIndex.Code (Option.some.inj hb)
      simp at this
     | false =>
      rw [if_neg (by simp), gadd_nat (by omega), bsome] at hb
      obtain ⟨h1, h2⟩ := ih (i + 1) (by omega) hb
      refine ⟨fun p hp => ?_, h2⟩
      rw [List.drop_eq_getElem_cons hi] at hp
      rcases List.mem_cons.1 hp with rfl | hp
      ·exact vp60 hv
      ·exact h1 p hp
    rw [if_neg (by simp [hv])] at h0
    by_cases hp : 0 < i
    ·have e1 : ((i : Int) - 1) = ((i - 1 : Nat) : Int) := by omega
     rw [if_pos (by simp; omega), gsubI (by omega), bsome, e1, gidx_nat, getElem?_lt (by omega), bsome] at h0
     exact tail _ h0
    ·rw [if_neg (by simp; omega)] at h0
     exact tail _ h0
   ·rw [if_pos (by simp [hv])] at h0
    have := congrArg SCodeIndex.Code (Option.some.inj h0)
    simp at this
  ·rw [if_neg (nlt_dec hi), bsome] at h0
   rw [List.drop_of_length_le (by omega)]
   by_cases hv : libValidPath a.Output = true
   ·exact ⟨by simp, vp60 hv⟩
   ·rw [if_pos (by simp [hv])] at h0
    have := congrArg SCodeIndex.Code (Option.some.inj h0)
    simp at this
structure VGood (a : SInputsOpsOutput) : Prop where
 ins : a.Inputs.length ≤ 8
 ops : a.Ops.length ≤ 16
 in60 : ∀ p ∈ a.Inputs, p.length ≤ 60
 out60 : a.Output.length ≤ 60
 text : ∀ o ∈ a.Ops, o.Text.length ≤ 80
 kind : ∀ o ∈ a.Ops, Dg o.Kind
theorem vgood_of (a : SInputsOpsOutput) (h : sandbox_Validate 200 a = some ⟨0, 0⟩) : VGood a := by
 have hk := kinds_ok a h
 obtain ⟨r, h1, h2, h3⟩ := validate_ok a
 have e : (⟨0, 0⟩ : SCodeIndex) = r := Option.some.inj (h.symm.trans h1)
 obtain ⟨hi, ho⟩ := h3 e.symm
 have d1 : decide ((8 : Int) < (a.Inputs.length : Int)) = false := by simp; omega
 have d2 : decide ((16 : Int) < (a.Ops.length : Int)) = false := by simp; omega
 unfold sandbox_Validate sandbox_Validate_j1 at h
 simp only [d1, d2, Bool.false_eq_true, ↓reduceIte] at h
 obtain ⟨h6, h7⟩ := in60_l a hi 200 0 (by omega) h
 have h4 := valid_l1 a hi 200 0 (by omega) h
 have h5 := kinds_l2 a ho 200 0 (by omega) h4
 refine ⟨hi, ho, fun p hp => h6 p (by simpa using hp), h7, fun o hm => ?_, fun o hm => ?_⟩
 ·have h8 := h5 o (by simpa using hm)
  have hpath : (treepatch_ValidPath 200 o.Text).bind (fun r2 => if (!r2) = true then some 12 else sandbox_checkOp_j1 200) = some 0 → o.Text.length ≤ 80 := by
   intro h9
   unfold treepatch_ValidPath at h9
   rw [bsome] at h9
   by_cases hv : libValidPath o.Text = true
   ·have := vp60 hv; omega
   ·rw [if_pos (by simp [hv])] at h9
    cases h9
  have hnil : (if (decide (o.Text ≠ ([] : List UInt8))) = true then some 5 else sandbox_checkOp_j1 200) = some (0 : Int) → o.Text.length ≤ 80 := by
   intro h9
   by_cases hv : o.Text = []
   ·rw [hv]; simp
   ·rw [if_pos (by simpa using hv)] at h9
    cases h9
  unfold sandbox_checkOp sandbox_checkOp_j2 sandbox_checkOp_j3 at h8
  rcases hk o hm with k | k | k | k | k
  ·simp only [k, decide_true, if_true] at h8
   exact hpath h8
  ·simp only [k] at h8
   exact hpath h8
  ·simp only [k] at h8
   have h9 : ((lines_Validate 200 [o.Text]).bind fun r3 => some r3.Code) = some 0 := h8
   obtain ⟨q, q1, q2⟩ := linesV [o.Text]
   rw [q1, bsome] at h9
   rcases q2 with rfl | q2
   ·exact (lines_ln q1).2 _ (by simp)
   ·exact absurd (Option.some.inj h9) q2
  ·simp only [k] at h8
   exact hnil h8
  ·simp only [k] at h8
   exact hnil h8
 ·unfold Dg
  rcases hk o hm with k | k | k | k | k <;> rw [k] <;> omega
structure AGood (a : SInputsOpsOutput) (t : SFiles) : Prop where
 act : VGood a
 valid : sandbox_Validate 200 a = some ⟨0, 0⟩
 tree : TGood t
theorem args_cases (a : SInputsOpsOutput) (t : SFiles) (hf : ∀ f ∈ t.Files, f.Path.length ≤ reachBytes) : ∃ r, sandbox_Arguments 200 a t = some r ∧ Fine r ∧ (r = ⟨0, 0⟩ → AGood a t) := by
 obtain ⟨r, h1, h2, h3⟩ := arguments_ok a t hf
 refine ⟨r, h1, h2, fun h => ?_⟩
 subst h
 have hf' : ∀ f ∈ t.Files, f.Path.length < big := fun f hm => Nat.lt_of_le_of_lt (hf f hm) (by decide)
 obtain ⟨hv, _, _, hl⟩ := h3 rfl
 have hT := treeOk_of a t hf' hv h1
 exact ⟨vgood_of a hv, hv, ⟨hl, hT, (args_rise a t hf' hv h1).2⟩⟩
def inSum (t : SFiles) (p : List UInt8) : Int := match fileOf t p with
 | some l => sumList l
 | none => 0
def key1 (k : Int) (l : List (List UInt8)) (t : SFiles) : Int := l.foldl (fun k p => sumPair k (inSum t p)) k
def key2 (k : Int) (l : List SKindText) : Int := l.foldl (fun k o => sumPair k (sumPair o.Kind (sumOf o.Text))) k
def keyOf (a : SInputsOpsOutput) (t : SFiles) : Int := sumPair (key2 (key1 (sumList a.Inputs) a.Inputs t) a.Ops) (sumOf a.Output)
theorem VGood.insLn {a : SInputsOpsOutput} (h : VGood a) : Ln a.Inputs := ⟨by have := h.ins; omega, fun s hs => by have := h.in60 s hs; omega⟩
end Go.Proofs.YtlkknmhhefjmjaaGreatDoor
namespace Go.Proofs.YtlkknmhhefjmjaaGreatDoor
open Go.PW Go
def LnOk (s : List UInt8) : Prop := s.length ≤ 80 ∧ ¬ 0 ≤ libIndexByte s 10
theorem lval_l (l : List (List UInt8)) (hl : l.length ≤ 120) : ∀ (m i : Nat), l.length - i < m → (lines_Validate_l1 200 l m (i : Int) = some ⟨0, 0⟩ ↔ ∀ s ∈ l.drop i, LnOk s) := by
 intro m
 induction m with
 | zero => intro i h; omega
 | succ m ih =>
  intro i h
  rw [lines_Validate_l1]
  by_cases hlt : i < l.length
  ·rw [if_pos (lt_dec hlt), gidx_nat, getElem?_lt hlt, bsome, List.drop_eq_getElem_cons hlt]
   have bad : ∀ c : Int, c ≠ 0 → ¬ LnOk l[i] → ((some (⟨c, (i : Int)⟩ : SCodeIndex) = some ⟨0, 0⟩) ↔ ∀ s ∈ l[i] :: l.drop (i + 1), LnOk s) :=
    fun c hc hn => ⟨fun h => absurd (congrArg SCodeIndex.Code (Option.some.inj h)) hc, fun h => absurd (h _ List.mem_cons_self) hn⟩
   by_cases h80 : 80 < l[i].length
   ·rw [if_pos (by simp; omega)]
    exact bad 2 (by decide) fun h => by have := h.1; omega
   ·rw [if_neg (by simp; omega)]
    unfold strings_IndexByte
    rw [bsome]
    by_cases h10 : 0 ≤ libIndexByte l[i] 10
    ·rw [if_pos (by simpa using h10)]
     exact bad 5 (by decide) fun h => h.2 h10
    ·rw [if_neg (by simpa using h10), gadd_nat (by omega), bsome, ih (i + 1) (by omega)]
     exact ⟨fun h s hs => (List.mem_cons.1 hs).elim (fun e => e ▸ ⟨by omega, h10⟩) (h s), fun h s hs => h s (List.mem_cons_of_mem _ hs)⟩
  ·rw [if_neg (nlt_dec hlt), List.drop_of_length_le (by omega)]
   simp
theorem lval_iff (l : List (List UInt8)) : lines_Validate 200 l = some ⟨0, 0⟩ ↔ l.length ≤ 120 ∧ ∀ s ∈ l, LnOk s := by
 constructor
 ·intro h
  have hl := lines_len h
  unfold lines_Validate at h
  rw [if_neg (by simp; omega)] at h
  have := (lval_l l hl 200 0 (by omega)).1 h
  exact ⟨hl, fun s hs => this s (by simpa using hs)⟩
 ·rintro ⟨hl, h⟩
  unfold lines_Validate
  rw [if_neg (by simp; omega)]
  exact (lval_l l hl 200 0 (by omega)).2 fun s hs => h s (by simpa using hs)
theorem rev_k (n : Nat) (x3 : Int) (lp : List (List UInt8) → Int → Option (List (List UInt8) × SCodeIndex)) (N : Nat) (hN : N ≤ 120) (G : List UInt8 → Prop)
  (R : Option (List (List UInt8) × SCodeIndex) → Prop) (hR : ∀ w, w.length = N → (∀ s ∈ w, G s) → R (sandbox_Run_j1 n x3 lp w 0)) :
  ∀ (m i j : Nat) (w : List (List UInt8)), w.length = N → (∀ s ∈ w, G s) → j ≤ N → j - i < m → i ≤ N → R (sandbox_Run_l2 n x3 lp m w (i : Int) ((j : Int) - 1)) := by
 intro m
 induction m with
 | zero => intro i j w _ _ _ h; omega
 | succ m ih =>
  intro i j w hw hG hj h hi
  rw [sandbox_Run_l2]
  unfold sandbox_Run_j7
  by_cases hij : i + 1 < j
  ·have e1 : ((j : Int) - 1) = ((j - 1 : Nat) : Int) := by omega
   rw [if_pos (by simp; omega), e1, gidx_nat, getElem?_lt (show j - 1 < w.length by omega), bsome, gidx_nat, getElem?_lt (show i < w.length by omega), bsome, gset_nat, gidx_nat,
    getElem?_lt (show j - 1 < (w.set i w[j - 1]).length by simp; omega), bsome, gadd_nat (by omega), bsome, gsubI (by omega), bsome, gset_nat]
   have hG' : ∀ s ∈ (w.set i w[j - 1]).set (j - 1) w[i], G s := by
    intro s hs
    rcases List.mem_or_eq_of_mem_set hs with hs | rfl
    ·rcases List.mem_or_eq_of_mem_set hs with hs | rfl
     ·exact hG s hs
     ·exact hG _ (List.getElem_mem _)
    ·exact hG _ (List.getElem_mem _)
   have := ih (i + 1) (j - 1) ((w.set i w[j - 1]).set (j - 1) w[i]) (by simp; omega) hG' (by omega) (by omega) (by omega)
   exact this
  ·rw [if_neg (by simp; omega)]
   exact hR _ hw hG
theorem unique_k (l : List (List UInt8)) (hl : l.length ≤ 120) (G : List UInt8 → Prop) (hG : ∀ s ∈ l, G s) : ∀ (m i : Nat) (w : List (List UInt8)), l.length - i < m → w.length ≤ i → i ≤ l.length → (∀ s ∈ w, G s) → ∃ r, sandbox_unique_l1 200 l m w (i : Int) = some r ∧ r.length ≤ l.length ∧ ∀ s ∈ r, G s := by
 intro m
 induction m with
 | zero => intro i w h; omega
 | succ m ih =>
  intro i w h hw hil hGw
  rw [sandbox_unique_l1]
  unfold sandbox_unique_j1
  by_cases hi : i < l.length
  ·rw [if_pos (lt_dec hi), gidx_nat, getElem?_lt hi, bsome, contains_eq w l[i] (by omega), bsome]
   split
   ·rw [gapp_ok (by simp; omega), bsome, gadd_nat (by omega), bsome]
    refine ih (i + 1) _ (by omega) (by simp; omega) (by omega) fun s hs => ?_
    rcases List.mem_append.1 hs with hs | hs
    ·exact hGw s hs
    ·rw [List.mem_singleton.1 hs]; exact hG _ (List.getElem_mem hi)
   ·rw [gadd_nat (by omega), bsome]
    exact ih (i + 1) _ (by omega) (by omega) (by omega) hGw
  ·rw [if_neg (nlt_dec hi)]
   exact ⟨_, rfl, by omega, hGw⟩
def RunV (r : List (List UInt8) × SCodeIndex) : Prop := (r.2.Code ≠ 0 ∧ r.1 = []) ∨ (r.2 = ⟨0, 0⟩ ∧ r.1.length ≤ 120 ∧ ∀ s ∈ r.1, LnOk s)
theorem runv_l (a : SInputsOpsOutput) (t : SFiles) (hi : a.Inputs.length ≤ 8) (ho : a.Ops.length ≤ 16) (ht : t.Files.length ≤ 24) (hf : ∀ f ∈ t.Files, f.Lines.length ≤ 120 ∧ ∀ s ∈ f.Lines, LnOk s) (hk3 : ∀ o ∈ a.Ops, o.Kind = 3 → LnOk o.Text) :
  ∀ (m i : Nat) (w : List (List UInt8)), a.Ops.length - i < m → w.length ≤ 120 → (∀ s ∈ w, LnOk s) → ∃ r, sandbox_Run_l1 200 a t m w (i : Int) = some r ∧ RunV r := by
 intro m
 induction m with
 | zero => intro i w h; omega
 | succ m ih =>
  intro i w h hw hG
  rw [sandbox_Run_l1]
  by_cases hi2 : i < a.Ops.length
  ·rw [if_pos (lt_dec hi2), gidx_nat, getElem?_lt hi2, bsome]
   obtain ⟨k, b, h1, h2⟩ := find_ok t.Files a.Ops[i].Text ht
   rw [h1, bsome, contains_eq _ _ (by omega), bsome]
   have fin : ∀ (w' : List (List UInt8)) (c : Int), (c = 0 → w'.length ≤ 120 ∧ ∀ s ∈ w', LnOk s) → ∃ r, sandbox_Run_j1 200 (i : Int) (sandbox_Run_l1 200 a t m) w' c = some r ∧ RunV r := by
    intro w' c hc
    unfold sandbox_Run_j1
    by_cases h0 : c = 0
    ·rw [if_neg (by simp [h0]), gadd_nat (by omega), bsome]
     exact ih (i + 1) w' (by omega) (hc h0).1 (hc h0).2
    ·rw [if_pos (by simp [h0]), gsubI (by omega), bsome]
     exact ⟨_, rfl, .inl ⟨h0, rfl⟩⟩
   have step : ∀ den : Bool, ∃ r, sandbox_Run_j2 200 t w (i : Int) (sandbox_Run_l1 200 a t m) a.Ops[i] ((k : Int), b) den = some r ∧ RunV r := by
    intro den
    unfold sandbox_Run_j2 sandbox_Run_j3 sandbox_Run_j4 sandbox_Run_j5 sandbox_Run_j6
    cases den with
    | true => rw [if_pos rfl]; exact fin _ _ (fun h => by omega)
    | false =>
     rw [if_neg (by simp)]
     have one : ∀ x : List UInt8, LnOk x → ∃ r, ((gadd (w.length : Int) (([x] : List (List UInt8)).length : Int)).bind fun x14 => if (decide (120 < x14)) = true then sandbox_Run_j1 200 (i : Int) (sandbox_Run_l1 200 a t m) [] 10 else (gapp 16 w [x]).bind fun w15 => sandbox_Run_j1 200 (i : Int) (sandbox_Run_l1 200 a t m) w15 0) = some r ∧ RunV r := by
      intro x hx
      rw [gaddI (by simp; omega), bsome]
      split
      ·exact fin _ _ (fun h => by omega)
      ·rename_i hc
       simp at hc
       rw [gapp_ok (by simp; omega), bsome]
       refine fin _ _ (fun _ => ⟨by simp; omega, fun s hs => ?_⟩)
       rcases List.mem_append.1 hs with hs | hs
       ·exact hG s hs
       ·rw [List.mem_singleton.1 hs]; exact hx
     by_cases k1 : a.Ops[i].Kind = 1
     ·rw [if_pos (by simp [k1])]
      cases b with
      | false => rw [if_pos (by simp)]; exact fin _ _ (fun h => by omega)
      | true =>
       rw [if_neg (by simp)]
       have hk := h2 rfl
       rw [gidx_nat, getElem?_lt hk, bsome]
       obtain ⟨hb, hbl⟩ := hf _ (List.getElem_mem hk)
       rw [gaddI (by omega), bsome]
       split
       ·exact fin _ _ (fun h => by omega)
       ·rename_i hc
        simp at hc
        rw [gapp_ok (by omega), bsome]
        refine fin _ _ (fun _ => ⟨by simp; omega, fun s hs => ?_⟩)
        rcases List.mem_append.1 hs with hs | hs
        ·exact hG s hs
        ·exact hbl s hs
     ·rw [if_neg (by simp [k1])]
      by_cases k2 : a.Ops[i].Kind = 2
      ·rw [if_pos (by simp [k2])]
       split
       ·exact one _ (by unfold LnOk; decide)
       ·exact one _ (by unfold LnOk; decide)
      ·rw [if_neg (by simp [k2])]
       by_cases k3 : a.Ops[i].Kind = 3
       ·rw [if_pos (by simp [k3])]; exact one _ (hk3 _ (List.getElem_mem hi2) k3)
       ·rw [if_neg (by simp [k3])]
        by_cases k4 : a.Ops[i].Kind = 4
        ·rw [if_pos (by simp [k4]), gsubI (by omega), bsome]
         exact rev_k 200 (i : Int) (sandbox_Run_l1 200 a t m) w.length hw LnOk (fun o => ∃ r, o = some r ∧ RunV r)
          (fun w' hq hg => fin w' 0 (fun _ => ⟨by omega, hg⟩)) 200 0 w.length w rfl hG (by omega) (by omega) (by omega)
        ·rw [if_neg (by simp [k4])]
         obtain ⟨r, h3, h4, h5⟩ := unique_k w hw LnOk hG 200 0 [] (by omega) (by simp) (by omega) (by simp)
         have h3' : sandbox_unique 200 w = some r := h3
         rw [h3', bsome]
         exact fin _ _ (fun _ => ⟨by omega, h5⟩)
   split
   ·exact step _
   ·split
    ·exact step _
    ·exact step _
  ·rw [if_neg (nlt_dec hi2)]
   exact ⟨_, rfl, .inr ⟨rfl, hw, hG⟩⟩
theorem text_ok (a : SInputsOpsOutput) (h : sandbox_Validate 200 a = some ⟨0, 0⟩) : ∀ o ∈ a.Ops, o.Kind = 3 → LnOk o.Text := by
 obtain ⟨r, h1, h2, h3⟩ := validate_ok a
 have e : (⟨0, 0⟩ : SCodeIndex) = r := Option.some.inj (h.symm.trans h1)
 obtain ⟨hi, ho⟩ := h3 e.symm
 have d1 : decide ((8 : Int) < (a.Inputs.length : Int)) = false := by simp; omega
 have d2 : decide ((16 : Int) < (a.Ops.length : Int)) = false := by simp; omega
 unfold sandbox_Validate sandbox_Validate_j1 at h
 simp only [d1, d2, Bool.false_eq_true, ↓reduceIte] at h
 have h4 := valid_l1 a hi 200 0 (by omega) h
 have h5 := kinds_l2 a ho 200 0 (by omega) h4
 intro o hm k
 have h8 := h5 o (by simpa using hm)
 unfold sandbox_checkOp sandbox_checkOp_j2 sandbox_checkOp_j3 at h8
 simp only [k] at h8
 have h9 : ((lines_Validate 200 [o.Text]).bind fun r3 => some r3.Code) = some 0 := h8
 obtain ⟨q, q1, q2⟩ := linesV [o.Text]
 rw [q1, bsome] at h9
 rcases q2 with rfl | q2
 ·exact ((lval_iff _).1 q1).2 _ (by simp)
 ·exact absurd (Option.some.inj h9) q2
theorem run_valid (a : SInputsOpsOutput) (t : SFiles) (hg : AGood a t) (h : sandbox_Arguments 200 a t = some ⟨0, 0⟩) : ∃ r, sandbox_Run 200 a t = some r ∧ ((r.2.Code ≠ 0 ∧ r.1 = []) ∨ (r.2 = ⟨0, 0⟩ ∧ lines_Validate 200 r.1 = some ⟨0, 0⟩)) := by
 have hf : ∀ f ∈ t.Files, f.Lines.length ≤ 120 ∧ ∀ s ∈ f.Lines, LnOk s := fun f hf => (lval_iff _).1 (hg.tree.ok.2 f hf).2
 obtain ⟨r, h1, h2⟩ := runv_l a t hg.act.ins hg.act.ops hg.tree.len hf (text_ok a hg.valid) 200 0 [] (by have := hg.act.ops; omega) (by simp) (by simp)
 unfold sandbox_Run
 rw [h, bsome, if_neg fault_none]
 refine ⟨r, h1, ?_⟩
 rcases h2 with h2 | ⟨h2, h3⟩
 ·exact .inl h2
 ·exact .inr ⟨h2, (lval_iff _).2 h3⟩
end Go.Proofs.YtlkknmhhefjmjaaGreatDoor
namespace Go.Proofs.YtlkknmhhefjmjaaGreatDoor
open Go.PW Go
structure HInv (a : SInputsOpsOutput) (t : SFiles) (c : List SKeyLines) : Prop where
 good : CGood c
 hit : has c (keyOf a t) = true → sandbox_Run 200 a t = some (at' c (keyOf a t), ⟨0, 0⟩)
end Go.Proofs.YtlkknmhhefjmjaaGreatDoor
namespace Go.Proofs.YtlkknmhhefjmjaaGreatDoor
open Go.PW Go
end Go.Proofs.YtlkknmhhefjmjaaGreatDoor
namespace Go.Proofs.YtlkknmhhefjmjaaGreatDoor
open Go.PW Go
theorem getK_pos {α κ : Type} [DecidableEq κ] {lt : κ → κ → Bool} {key : α → κ} (T : TotalLt lt) {c : List α} (hr : Rises lt key c) (x : κ) (k : Nat) (hlo : ∀ (p : Nat) (hp : p < c.length), p < k → lt (key c[p]) x = true) (hhi : ∀ (hk : k < c.length), lt (key c[k]) x = false) :
  getK key x c = if h : k < c.length then (if key c[k] = x then some c[k] else none) else none := by
 have other : (∀ (hk : k < c.length), key c[k] ≠ x) → getK key x c = none := by
  intro hne
  refine getK_none.2 fun y hy he => ?_
  obtain ⟨p, hp, rfl⟩ := List.getElem_of_mem hy
  rcases Nat.lt_trichotomy p k with h | h | h
  ·have := hlo p hp h; rw [he, T.irrefl] at this; cases this
  ·subst h; exact hne hp he
  ·have h1 := (List.pairwise_iff_getElem.1 hr) k p (by omega) hp h
   rw [he, hhi (by omega)] at h1
   cases h1
 split
 ·rename_i h
  split
  ·rename_i he
   have := getK_of_mem T hr (List.getElem_mem h)
   rw [he] at this
   exact this
  ·rename_i he
   exact other fun _ => he
 ·rename_i h
  exact other fun hk => absurd hk h
theorem tfind_l (fs : List SPathLines) (x : List UInt8) (hl : fs.length ≤ 40) (hr : Rises Op.bytesLess SPathLines.Path fs) : ∀ (m i j : Nat), i ≤ j → j ≤ fs.length → j - i < m → (∀ (p : Nat) (hp : p < fs.length), p < i → Op.bytesLess fs[p].Path x = true) → (∀ (p : Nat) (hp : p < fs.length), j ≤ p → Op.bytesLess fs[p].Path x = false) →
  ∃ (k : Nat), k ≤ fs.length ∧ treepatch_Find_l1 200 fs x m (i : Int) (j : Int) = some ((k : Int), (getK SPathLines.Path x fs).isSome) ∧ (∀ (p : Nat) (hp : p < fs.length), p < k → Op.bytesLess fs[p].Path x = true) ∧ (∀ (hk : k < fs.length), Op.bytesLess fs[k].Path x = false) := by
 have hpair := List.pairwise_iff_getElem.1 hr
 intro m
 induction m with
 | zero => intro i j _ _ h; omega
 | succ m ih =>
  intro i j hij hj h hlo hhi
  rw [treepatch_Find_l1]
  by_cases hlt : i < j
  ·have hmid : (i + j) / 2 < fs.length := by omega
   rw [if_pos (lt_dec hlt), gaddI (by omega), bsome]
   have e1 : (i : Int) + (j : Int) = ((i + j : Nat) : Int) := by omega
   rw [e1, half _ (by omega), gidx_nat, getElem?_lt hmid, bsome]
   unfold strings_Compare treepatch_Find_j5 libCompare
   rw [bsome, half _ (by omega)]
   by_cases hc : Lib.compareBytes fs[(i + j) / 2].Path x < 0
   ·rw [if_pos (by simpa using hc), gadd_nat (by omega), bsome]
    refine ih ((i + j) / 2 + 1) j (by omega) hj (by omega) ?_ hhi
    intro p hp hpl
    have hm := (bytes_cmp_lt _ _).1 hc
    by_cases he : p = (i + j) / 2
    ·subst he; exact hm
    ·exact bytes_trans (hpair p _ hp hmid (by omega)) hm
   ·rw [if_neg (by simpa using hc)]
    refine ih i ((i + j) / 2) (by omega) (by omega) (by omega) hlo ?_
    intro p hp hpl
    have hm : Op.bytesLess fs[(i + j) / 2].Path x = false := by
     cases hb : Op.bytesLess fs[(i + j) / 2].Path x with
     | false => rfl
     | true => exact absurd ((bytes_cmp_lt _ _).2 hb) hc
    by_cases he : p = (i + j) / 2
    ·subst he; exact hm
    ·cases hb : Op.bytesLess fs[p].Path x with
     | false => rfl
     | true =>
      have := bytes_trans (hpair _ p hmid hp (by omega)) hb
      rw [hm] at this; cases this
  ·have hie : i = j := by omega
   subst hie
   rw [if_neg (nlt_dec hlt)]
   have hw := getK_pos totalBytes hr x i hlo (fun hk => hhi i hk (Nat.le_refl _))
   unfold treepatch_Find_j2 treepatch_Find_j4 treepatch_Find_j3 treepatch_Find_j1 strings_Compare libCompare
   by_cases hil : i < fs.length
   ·rw [dif_pos hil] at hw
    rw [if_pos (lt_dec hil), gidx_nat, getElem?_lt hil, bsome, bsome]
    refine ⟨i, by omega, ?_, hlo, fun _ => hhi i hil (Nat.le_refl _)⟩
    rw [hw]
    by_cases he : fs[i].Path = x
    ·rw [if_pos he, decide_eq_true ((bytes_cmp_eq0 _ _).2 he)]; rfl
    ·rw [if_neg he, decide_eq_false (fun h => he ((bytes_cmp_eq0 _ _).1 h))]; rfl
   ·rw [dif_neg hil] at hw
    rw [if_neg (nlt_dec hil)]
    refine ⟨i, by omega, ?_, hlo, fun hk => absurd hk hil⟩
    rw [hw]; rfl
theorem tfind (fs : List SPathLines) (x : List UInt8) (hl : fs.length ≤ 40) (hr : Rises Op.bytesLess SPathLines.Path fs) : ∃ (k : Nat), k ≤ fs.length ∧ treepatch_Find 200 fs x = some ((k : Int), (getK SPathLines.Path x fs).isSome) ∧ (∀ (p : Nat) (hp : p < fs.length), p < k → Op.bytesLess fs[p].Path x = true) ∧ (∀ (hk : k < fs.length), Op.bytesLess fs[k].Path x = false) :=
 tfind_l fs x hl hr 200 0 fs.length (by omega) (by omega) (by omega) (fun p _ h => by omega) (fun p hp h => by omega)
def putF (fs : List SPathLines) (p : List UInt8) (l : List (List UInt8)) : List SPathLines := putK Op.bytesLess SPathLines.Path ⟨p, l⟩ fs
theorem tput {β : Type} (fs : List SPathLines) (p : List UInt8) (l : List (List UInt8)) (hl : fs.length ≤ 40) (hr : Rises Op.bytesLess SPathLines.Path fs) (hln : Ln l) (K : List SPathLines → Option β) :
  ((treepatch_Find 200 fs p).bind fun r => if (!r.2) = true then (gins 40 fs r.1 (⟨p, ([] : List (List UInt8))⟩ : SPathLines)).bind fun w => (slices_Clone_string 200 l).bind fun c => (gidx w r.1).bind fun e => K (gset w r.1 (⟨e.Path, c⟩ : SPathLines))
   else (slices_Clone_string 200 l).bind fun c => (gidx fs r.1).bind fun e => K (gset fs r.1 (⟨e.Path, c⟩ : SPathLines))) = K (putF fs p l) := by
 obtain ⟨k, hk, h1, h2, h3⟩ := tfind fs p hl hr
 have hw := getK_pos totalBytes hr p k h2 h3
 have hput : putF fs p l = fs.take k ++ (⟨p, l⟩ : SPathLines) :: fs.drop (if ∃ hi : k < fs.length, fs[k].Path = p then k + 1 else k) :=
  putK_at (lt := Op.bytesLess) (key := SPathLines.Path) (⟨p, l⟩ : SPathLines) k fs hk (fun i hi hik => h2 i hi hik) (fun hi => h3 hi)
 rw [h1, bsome]
 by_cases hex : ∃ hi : k < fs.length, fs[k].Path = p
 ·obtain ⟨hl1, he⟩ := hex
  rw [dif_pos hl1, if_pos he] at hw
  rw [if_pos ⟨hl1, he⟩] at hput
  have hh : (getK SPathLines.Path p fs).isSome = true := by rw [hw]; rfl
  simp only [hh, Bool.not_true, Bool.false_eq_true, if_false, ln_clone hln, bsome, gidx_nat, getElem?_lt hl1]
  rw [gset_nat, hput, he, List.set_eq_take_append_cons_drop, if_pos hl1]
 ·have hw' : getK SPathLines.Path p fs = none := by
   rw [hw]
   split
   ·rename_i h; rw [if_neg fun e => hex ⟨h, e⟩]
   ·rfl
  have hh : (getK SPathLines.Path p fs).isSome = false := by rw [hw']; rfl
  rw [if_neg hex] at hput
  have hg : gins 40 fs (k : Int) (⟨p, []⟩ : SPathLines) = some (fs.take k ++ [(⟨p, []⟩ : SPathLines)] ++ fs.drop k) := by
   unfold gins
   rw [if_pos ⟨by omega, by omega, by unfold big; omega, by unfold big; omega⟩, Int.toNat_natCast]
  have hkl : (fs.take k).length = k := by rw [List.length_take]; omega
  have hg2 : (fs.take k ++ [(⟨p, []⟩ : SPathLines)] ++ fs.drop k)[k]? = some ⟨p, []⟩ := by
   rw [List.append_assoc, List.getElem?_append_right (by omega), hkl, Nat.sub_self]; rfl
  simp only [hh, Bool.not_false, eq_self, if_true, hg, bsome, ln_clone hln, gidx_nat, hg2]
  rw [gset_nat, hput]
  refine congrArg K ?_
  rw [List.append_assoc, List.set_append_right _ _ (by omega), hkl, Nat.sub_self]
  rfl
theorem putF_len {fs : List SPathLines} (hr : Rises Op.bytesLess SPathLines.Path fs) (p : List UInt8) (l : List (List UInt8)) : (putF fs p l).length ≤ fs.length + 1 := by
 unfold putF
 rw [putK_len totalBytes hr]
 split <;> omega
theorem tgood_put {fs : List SPathLines} (h : TGood ⟨fs⟩) {p : List UInt8} {l : List (List UInt8)} (hp : libValidPath p = true) (hl : lines_Validate 200 l = some ⟨0, 0⟩) (hc : ∀ f ∈ fs, ¬ Rel f.Path p) (h24 : fs.length < 24) : TGood ⟨putF fs p l⟩ := by
 have hr : Rises Op.bytesLess SPathLines.Path fs := h.rises
 have hr2 : Rises Op.bytesLess SPathLines.Path (putF fs p l) := putK_rises totalBytes hr
 have hm : ∀ f, f ∈ putF fs p l ↔ f = ⟨p, l⟩ ∨ (f ∈ fs ∧ f.Path ≠ p) := fun f => putK_mem totalBytes hr
 have hrel : ∀ f ∈ putF fs p l, ∀ g ∈ putF fs p l, f.Path ≠ g.Path → ¬ Rel f.Path g.Path := by
  intro f hf g hg hne
  rcases (hm f).1 hf with rfl | hf <;> rcases (hm g).1 hg with rfl | hg
  ·exact absurd rfl hne
  ·exact fun hh => hc g hg.1 (Rel.symm.1 hh)
  ·exact hc f hf.1
  ·have hpw := h.ok.1
   obtain ⟨i, hi, rfl⟩ := List.getElem_of_mem hf.1
   obtain ⟨j, hj, rfl⟩ := List.getElem_of_mem hg.1
   rcases Nat.lt_trichotomy i j with hij | hij | hij
   ·exact ((List.pairwise_iff_getElem.1 hpw) i j hi hj hij).2
   ·subst hij; exact absurd rfl hne
   ·exact fun hh => ((List.pairwise_iff_getElem.1 hpw) j i hj hi hij).2 (Rel.symm.1 hh)
 refine ⟨?_, ⟨?_, fun f hf => ?_⟩, List.pairwise_iff_getElem.1 hr2⟩
 ·have := putF_len hr p l
  show (putF fs p l).length ≤ 24
  omega
 ·refine List.pairwise_iff_getElem.2 fun i j hi hj hij => ?_
  have hlt := (List.pairwise_iff_getElem.1 hr2) i j hi hj hij
  exact ⟨hlt, hrel _ (List.getElem_mem hi) _ (List.getElem_mem hj) (totalBytes.ne hlt)⟩
 ·rcases (hm f).1 hf with rfl | hf
  ·exact ⟨hp, hl⟩
  ·exact h.ok.2 f hf.1
end Go.Proofs.YtlkknmhhefjmjaaGreatDoor
namespace Go.Proofs.YtlkknmhhefjmjaaGreatDoor
open Go.PW Go
theorem tgood_path {t : SFiles} (h : TGood t) : ∀ f ∈ t.Files, f.Path.length ≤ 60 := fun f hf => vp60 (h.ok.2 f hf).1
theorem tgood_big {t : SFiles} (h : TGood t) : ∀ f ∈ t.Files, f.Path.length < big := fun f hf => by have := tgood_path h f hf; unfold big; omega
theorem clash_tree {fs : List SPathLines} (h : TGood ⟨fs⟩) (p : List UInt8) (hp : p.length ≤ 60) : treepatch_Clash 200 fs p (-1) = some (decide (∃ f ∈ fs, Rel f.Path p)) := by
 have hl : fs.length ≤ 24 := h.len
 have := clash_eq fs p (by omega) (by unfold big; omega) (tgood_big h) 200 0 (by omega)
 rw [List.drop_zero] at this
 exact this
theorem args_of {a : SInputsOpsOutput} {t : SFiles} (ha : sandbox_Validate 200 a = some ⟨0, 0⟩) (ht : TGood t) : sandbox_Arguments 200 a t = some ⟨0, 0⟩ ∧ AGood a t := by
 refine ⟨?_, ⟨vgood_of a ha, ha, ht⟩⟩
 unfold sandbox_Arguments
 rw [ha, bsome, if_neg fault_none, second_s (tgood_big ht) ht, bsome]
theorem out_valid {a : SInputsOpsOutput} (h : sandbox_Validate 200 a = some ⟨0, 0⟩) : libValidPath a.Output = true := by
 obtain ⟨r, h1, h2, h3⟩ := validate_ok a
 have e : (⟨0, 0⟩ : SCodeIndex) = r := Option.some.inj (h.symm.trans h1)
 obtain ⟨hi, ho⟩ := h3 e.symm
 have d1 : decide ((8 : Int) < (a.Inputs.length : Int)) = false := by simp; omega
 have d2 : decide ((16 : Int) < (a.Ops.length : Int)) = false := by simp; omega
 unfold sandbox_Validate sandbox_Validate_j1 at h
 simp only [d1, d2, Bool.false_eq_true, ↓reduceIte] at h
 have key : ∀ (m i : Nat), a.Inputs.length - i < m → sandbox_Validate_l1 200 a m (i : Int) = some ⟨0, 0⟩ → libValidPath a.Output = true := by
  intro m
  induction m with
  | zero => intro i h; omega
  | succ m ih =>
   intro i h h0
   rw [sandbox_Validate_l1] at h0
   unfold treepatch_ValidPath at h0
   by_cases hi : i < a.Inputs.length
   ·rw [if_pos (lt_dec hi), gidx_nat, getElem?_lt hi, bsome, bsome] at h0
    have tail : ∀ b : Bool, sandbox_Validate_j2 200 (i : Int) (sandbox_Validate_l1 200 a m) b = some ⟨0, 0⟩ → libValidPath a.Output = true := by
     intro b hb
     unfold sandbox_Validate_j2 at hb
     cases b with
     | true =>
      rw [if_pos rfl] at hb
      have := congrArg SCodeIndex.Code (Option.some.inj hb)
      simp at this
     | false =>
      rw [if_neg (by simp), gadd_nat (by omega), bsome] at hb
      exact ih (i + 1) (by omega) hb
    by_cases hv : libValidPath a.Inputs[i] = true
    ·rw [if_neg (by simp [hv])] at h0
     by_cases hp : 0 < i
     ·have e1 : ((i : Int) - 1) = ((i - 1 : Nat) : Int) := by omega
      rw [if_pos (by simp; omega), gsubI (by omega), bsome, e1, gidx_nat, getElem?_lt (by omega), bsome] at h0
      exact tail _ h0
     ·rw [if_neg (by simp; omega)] at h0
      exact tail _ h0
    ·rw [if_pos (by simp [hv])] at h0
     have := congrArg SCodeIndex.Code (Option.some.inj h0)
     simp at this
   ·rw [if_neg (nlt_dec hi), bsome] at h0
    by_cases hv : libValidPath a.Output = true
    ·exact hv
    ·rw [if_pos (by simp [hv])] at h0
     have := congrArg SCodeIndex.Code (Option.some.inj h0)
     simp at this
 exact key 200 0 (by omega) h
def runR (a : SInputsOpsOutput) (t : SFiles) : List (List UInt8) × SCodeIndex := (sandbox_Run 200 a t).getD ([], ⟨1, 0⟩)
theorem runR_eq {a : SInputsOpsOutput} {t : SFiles} (ha : sandbox_Validate 200 a = some ⟨0, 0⟩) (ht : TGood t) : sandbox_Run 200 a t = some (runR a t) ∧ ((runR a t).2.Code ≠ 0 ∧ (runR a t).1 = [] ∨ (runR a t).2 = ⟨0, 0⟩ ∧ lines_Validate 200 (runR a t).1 = some ⟨0, 0⟩) := by
 obtain ⟨h1, h2⟩ := args_of ha ht
 obtain ⟨r, h3, h4⟩ := run_valid a t h2 h1
 unfold runR
 rw [h3]
 exact ⟨rfl, h4⟩
def execR : List SInputsOpsOutput → Nat → List SPathLines → List SPathLines → List SPathLines × SCodeIndex
 | [], _, _, out => (out, ⟨0, 0⟩)
 | a :: r, i, all, out =>
  if ∃ f ∈ all, Rel f.Path a.Output then ([], ⟨7, i⟩) else if 24 ≤ all.length then ([], ⟨10, i⟩)
  else if (runR a ⟨all⟩).2.Code ≠ 0 then ([], ⟨(runR a ⟨all⟩).2.Code, i⟩)
  else execR r (i + 1) (putF all a.Output (runR a ⟨all⟩).1) (putF out a.Output (runR a ⟨all⟩).1)
theorem exec_l (acts : List SInputsOpsOutput) (hl : acts.length ≤ 8) (hv : ∀ a ∈ acts, sandbox_Validate 200 a = some ⟨0, 0⟩) : ∀ (m i : Nat) (all out : List SPathLines), acts.length - i < m → i ≤ acts.length → TGood ⟨all⟩ → Rises Op.bytesLess SPathLines.Path out → out.length ≤ i →
  release_execute_l1 200 acts m all out (i : Int) = some (⟨(execR (acts.drop i) i all out).1⟩, (execR (acts.drop i) i all out).2) := by
 intro m
 induction m with
 | zero => intro i all out h; omega
 | succ m ih =>
  intro i all out h hi ht ho hol
  rw [release_execute_l1]
  by_cases hlt : i < acts.length
  ·have ha := hv _ (List.getElem_mem hlt)
   have hp := out_valid ha
   have h60 := vp60 hp
   rw [if_pos (lt_dec hlt), gidx_nat, getElem?_lt hlt, bsome, clash_tree ht _ h60, bsome, List.drop_eq_getElem_cons hlt, execR]
   by_cases hc : ∃ f ∈ all, Rel f.Path acts[i].Output
   ·rw [if_pos (by simpa using hc), if_pos hc]
   ·rw [if_neg (by simpa using hc), if_neg hc]
    by_cases h24 : 24 ≤ all.length
    ·rw [if_pos (by simp; omega), if_pos h24]
    ·rw [if_neg (by simp; omega), if_neg h24]
     obtain ⟨h1, h2⟩ := runR_eq ha ht
     rw [h1, bsome]
     rcases h2 with ⟨h2, h3⟩ | ⟨h2, h3⟩
     ·rw [if_pos (fault_ne h2), if_pos h2]
     ·have h4 : (runR acts[i] ⟨all⟩).2.Code = 0 := by rw [h2]
      have hnf : ¬ (((runR acts[i] ⟨all⟩).2.Code == 0 && ((runR acts[i] ⟨all⟩).2.Index == 0 && true)) != true) = true := by rw [h2]; exact fault_none
      rw [if_neg hnf, if_neg (fun h => h h4)]
      have hln := lines_ln h3
      have hr : Rises Op.bytesLess SPathLines.Path all := ht.rises
      have e1 := tput all acts[i].Output (runR acts[i] ⟨all⟩).1 (by omega) hr hln (fun w => release_execute_j2 200 out (i : Int) (release_execute_l1 200 acts m) acts[i] (runR acts[i] ⟨all⟩) w)
      have e2 := tput out acts[i].Output (runR acts[i] ⟨all⟩).1 (by omega) ho hln (fun w => release_execute_j3 200 (i : Int) (release_execute_l1 200 acts m) (putF all acts[i].Output (runR acts[i] ⟨all⟩).1) w)
      have e3 : release_execute_j2 200 out (i : Int) (release_execute_l1 200 acts m) acts[i] (runR acts[i] ⟨all⟩) (putF all acts[i].Output (runR acts[i] ⟨all⟩).1) = _ := e2
      refine (e1.trans e3).trans ?_
      unfold release_execute_j3
      rw [gadd_nat (by omega), bsome]
      have hol2 := putF_len ho acts[i].Output (runR acts[i] ⟨all⟩).1
      exact ih (i + 1) _ _ (by omega) (by omega) (tgood_put ht hp h3 (fun f hf hh => hc ⟨f, hf, hh⟩) (by omega)) (putK_rises totalBytes ho) (by omega)
  ·rw [if_neg (nlt_dec hlt), List.drop_of_length_le (by omega)]
   rfl
theorem exec_copy (acts : List SInputsOpsOutput) (t : SFiles) (ht : TGood t) : ∀ (m i : Nat), t.Files.length - i < m → i ≤ t.Files.length → release_execute_l2 200 acts t m (t.Files.take i) (i : Int) = release_execute_j1 200 acts t.Files := by
 have hl := ht.len
 intro m
 induction m with
 | zero => intro i h; omega
 | succ m ih =>
  intro i h hi
  rw [release_execute_l2]
  by_cases hlt : i < t.Files.length
  ·rw [if_pos (lt_dec hlt), gidx_nat, getElem?_lt hlt, bsome, ln_clone (ht.lns (List.getElem_mem hlt)), bsome, gapp_ok (by simp; omega), bsome, gadd_nat (by omega), bsome]
   have := ih (i + 1) (by omega) (by omega)
   rw [List.take_add_one, getElem?_lt hlt] at this
   exact this
  ·rw [if_neg (nlt_dec hlt), List.take_of_length_le (by omega)]
theorem exec_eq (acts : List SInputsOpsOutput) (t : SFiles) (hl : acts.length ≤ 8) (hv : ∀ a ∈ acts, sandbox_Validate 200 a = some ⟨0, 0⟩) (ht : TGood t) : release_execute 200 acts t = some (⟨(execR acts 0 t.Files []).1⟩, (execR acts 0 t.Files []).2) := by
 have h1 := exec_copy acts t ht 200 0 (by have := ht.len; omega) (by omega)
 have h2 := exec_l acts hl hv 200 0 t.Files [] (by omega) (by omega) ht .nil (by simp)
 exact h1.trans h2
end Go.Proofs.YtlkknmhhefjmjaaGreatDoor
namespace Go.Proofs.YtlkknmhhefjmjaaGreatDoor
open Go.PW Go
end Go.Proofs.YtlkknmhhefjmjaaGreatDoor
namespace Go.Proofs.YtlkknmhhefjmjaaGreatDoor
open Go.PW Go
theorem sorted_len (w : List (List UInt8)) : (sortedS w).length = w.length := by simp [sortedS]
theorem sorted_mem (w : List (List UInt8)) (x : List UInt8) : x ∈ sortedS w ↔ x ∈ w := by simp [sortedS]
theorem less_lt (a b : List UInt8) : Op.bytesLess a b = true ↔ a < b := by
 induction a generalizing b with
 | nil => cases b <;> simp [Op.bytesLess]
 | cons x a ih =>
  cases b with
  | nil => simp [Op.bytesLess]
  | cons y b => simp [Op.bytesLess, List.cons_lt_cons_iff, ih]
theorem le_less (a b : List UInt8) : a ≤ b ↔ Op.bytesLess b a = false := by
 rw [← List.not_lt, ← less_lt]; simp
def Up (l : List (List UInt8)) : Prop := l.Pairwise fun x y => Op.bytesLess x y = true
theorem up_eq {l m : List (List UInt8)} (hl : Up l) (hm : Up m) (h : ∀ x, x ∈ l ↔ x ∈ m) : l = m := by
 induction l generalizing m with
 | nil =>
  cases m with
  | nil => rfl
  | cons y m => exact absurd ((h y).2 List.mem_cons_self) (by simp)
 | cons x l ih =>
  cases m with
  | nil => exact absurd ((h x).1 List.mem_cons_self) (by simp)
  | cons y m =>
   have h1 := List.pairwise_cons.1 hl
   have h2 := List.pairwise_cons.1 hm
   have hxy : x = y := by
    rcases List.mem_cons.1 ((h x).1 List.mem_cons_self) with e | hx
    ·exact e
    ·rcases List.mem_cons.1 ((h y).2 List.mem_cons_self) with e | hy
     ·exact e.symm
     ·have := less_trans (h2.1 x hx) (h1.1 y hy)
      rw [less_irrefl] at this; cases this
   subst hxy
   congr 1
   refine ih h1.2 h2.2 fun z => ?_
   constructor
   ·intro hz
    rcases List.mem_cons.1 ((h z).1 (List.mem_cons_of_mem _ hz)) with rfl | h3
    ·have := h1.1 z hz; rw [less_irrefl] at this; cases this
    ·exact h3
   ·intro hz
    rcases List.mem_cons.1 ((h z).2 (List.mem_cons_of_mem _ hz)) with rfl | h3
    ·have := h2.1 z hz; rw [less_irrefl] at this; cases this
    ·exact h3
theorem sorted_up (w : List (List UInt8)) (i j : Nat) (hi : i < (sortedS w).length) (hj : j < (sortedS w).length) (h : i < j) (hne : (sortedS w)[i] ≠ (sortedS w)[j]) : Op.bytesLess (sortedS w)[i] (sortedS w)[j] = true := by
 have hp : (sortedS w).Pairwise fun x y => decide (x ≤ y) = true := by
  unfold sortedS
  refine List.pairwise_mergeSort ?_ ?_ w
  ·intro a b c h1 h2
   simp only [decide_eq_true_eq] at h1 h2 ⊢
   exact List.le_trans h1 h2
  ·intro a b
   simp only [Bool.or_eq_true, decide_eq_true_eq]
   exact List.le_total a b
 have h1 := List.pairwise_iff_getElem.1 hp i j hi hj h
 simp only [decide_eq_true_eq] at h1
 have h2 := (le_less _ _).1 h1
 have h3 : ((sortedS w)[j] == (sortedS w)[i]) = false := by simp; exact fun e => hne e.symm
 exact less_total (by rw [h2, h3]; rfl)
theorem compact_l3 (w2 : List (List UInt8)) (hN : w2.length ≤ 64) (b : Nat) (hb : b < w2.length) (hb1 : 1 ≤ b) : ∀ (m : Nat) (w : List (List UInt8)) (p q : Nat), w2.length - q < m → w.length = w2.length → p ≤ b + q - 1 → 1 ≤ p → 1 ≤ q → b + q ≤ w2.length → w.drop (b + q - 1) = (sortedS w2).drop (b + q - 1) →
  Up (w.take p) → (∀ x, x ∈ w.take p ↔ x ∈ (sortedS w2).take (b + q)) → (w.take p).getLast? = (sortedS w2)[b + q - 1]? →
  ∃ r, release_sources_l4 200 w2 (b : Int) m w (p : Int) (q : Int) = some r ∧ Up r ∧ ∀ x, x ∈ r ↔ x ∈ sortedS w2 := by
 intro m
 induction m with
 | zero => intro w p q h; omega
 | succ m ih =>
  intro w p q h hw hp hp1 hq hbq hd hup hmem hlast
  have hS : (sortedS w2).length = w2.length := sorted_len w2
  rw [release_sources_l4]
  unfold release_sources_j3 release_sources_j2
  have e0 : ((sortedS w2).length : Int) = ((w.length : Nat) : Int) := by rw [hS, hw]
  rw [e0, gcut_nat (by omega) (Nat.le_refl _), bsome, List.take_length]
  have el : (w.drop b).length = w.length - b := by simp
  by_cases hlt : q < w.length - b
  ·rw [if_pos (by rw [el]; simp; omega), gidx_nat, List.getElem?_drop, getElem?_lt (show b + q < w.length by omega), bsome]
   have e1 : (b : Int) + (q : Int) = ((b + q : Nat) : Int) := by omega
   have e2 : (q : Int) - 1 = ((q - 1 : Nat) : Int) := by omega
   have e3 : (b : Int) + ((q - 1 : Nat) : Int) = ((b + (q - 1) : Nat) : Int) := by omega
   rw [e1, gidx_nat, getElem?_lt (show b + q < w.length by omega), bsome, gsubI (by omega), bsome, e2, gidx_nat, List.getElem?_drop, getElem?_lt (show b + (q - 1) < w.length by omega), bsome,
    e3, gidx_nat, getElem?_lt (show b + (q - 1) < w.length by omega), bsome, gadd_nat (show q < 1000000 by omega), bsome]
   have at_ : ∀ k, b + q - 1 ≤ k → w[k]? = (sortedS w2)[k]? := by
    intro k hk
    have : (w.drop (b + q - 1))[k - (b + q - 1)]? = ((sortedS w2).drop (b + q - 1))[k - (b + q - 1)]? := by rw [hd]
    rw [List.getElem?_drop, List.getElem?_drop] at this
    have e : b + q - 1 + (k - (b + q - 1)) = k := by omega
    rw [e] at this; exact this
   have a1 : w[b + q]'(by omega) = (sortedS w2)[b + q]'(by omega) := by
    have := at_ (b + q) (by omega)
    rw [getElem?_lt (show b + q < w.length by omega), getElem?_lt (show b + q < (sortedS w2).length by omega)] at this
    exact Option.some.inj this
   have a2 : w[b + (q - 1)]'(by omega) = (sortedS w2)[b + q - 1]'(by omega) := by
    have := at_ (b + (q - 1)) (by omega)
    have e : b + (q - 1) = b + q - 1 := by omega
    rw [getElem?_lt (show b + (q - 1) < w.length by omega), getElem?_lt (show b + (q - 1) < (sortedS w2).length by omega)] at this
    have h2 := Option.some.inj this
    rw [h2]; congr 1
   have htS : (sortedS w2).take (b + (q + 1)) = (sortedS w2).take (b + q) ++ [(sortedS w2)[b + q]'(by omega)] := by
    have e : b + (q + 1) = (b + q) + 1 := by omega
    rw [e, List.take_add_one, getElem?_lt (show b + q < (sortedS w2).length by omega)]; rfl
   have hdn : ∀ v : List (List UInt8), v.drop (b + q - 1) = (sortedS w2).drop (b + q - 1) → v.drop (b + (q + 1) - 1) = (sortedS w2).drop (b + (q + 1) - 1) := by
    intro v hv
    have e : b + (q + 1) - 1 = (b + q - 1) + 1 := by omega
    rw [e, ← List.drop_drop, ← List.drop_drop, hv]
   by_cases hne : w[b + q]'(by omega) = w[b + (q - 1)]'(by omega)
   ·rw [if_neg (by simp [hne])]
    have hlast2 : (sortedS w2)[b + (q + 1) - 1]? = (sortedS w2)[b + q - 1]? := by
     have e : b + (q + 1) - 1 = b + q := by omega
     rw [e, getElem?_lt (show b + q < (sortedS w2).length by omega), getElem?_lt (show b + q - 1 < (sortedS w2).length by omega), ← a1, ← a2, hne]
    refine ih w p (q + 1) (by omega) hw (by omega) hp1 (by omega) (by omega) (hdn w hd) hup ?_ (hlast.trans hlast2.symm)
    intro x
    rw [htS, hmem x]
    simp only [List.mem_append, List.mem_singleton]
    constructor
    ·exact .inl
    ·rintro (h1 | rfl)
     ·exact h1
     ·rw [← a1, hne, a2]
      rw [List.mem_take_iff_getElem]
      exact ⟨b + q - 1, by omega, rfl⟩
   ·rw [if_pos (by simp [hne]), gidx_nat, getElem?_lt (show p < w.length by omega), bsome, gadd_nat (by omega), bsome, gset_nat]
    have hsplit : (w.set p (w[b + q]'(by omega))).take (p + 1) = w.take p ++ [w[b + q]'(by omega)] := by
     rw [List.take_add_one, List.take_set_of_le (Nat.le_refl _), List.getElem?_set_self (by omega)]
     rfl
    have hlss : Op.bytesLess ((sortedS w2)[b + q - 1]'(by omega)) ((sortedS w2)[b + q]'(by omega)) = true := sorted_up w2 _ _ (by omega) (by omega) (by omega) (by rw [← a1, ← a2]; exact fun e => hne e.symm)
    refine ih _ (p + 1) (q + 1) (by omega) (by simp; omega) (by omega) (by omega) (by omega) (by omega) ?_ ?_ ?_ ?_
    ·rw [List.drop_set_of_lt (by omega)]
     exact hdn w hd
    ·rw [hsplit]
     unfold Up
     rw [List.pairwise_append]
     refine ⟨hup, by simp, ?_⟩
     intro x hx y hy
     simp at hy; subst hy
     rw [a1]
     -- x is at most the last one
     rw [getElem?_lt (show b + q - 1 < (sortedS w2).length by omega)] at hlast
     obtain ⟨ys, hys⟩ := List.getLast?_eq_some_iff.1 hlast
     rw [hys] at hx hup
     rcases List.mem_append.1 hx with hx | hx
     ·have := (List.pairwise_append.1 hup).2.2 x hx _ (List.mem_singleton.2 rfl)
      exact less_trans this hlss
     ·simp at hx; subst hx; exact hlss
    ·intro x
     rw [hsplit, htS]
     simp only [List.mem_append, List.mem_singleton, hmem x, a1]
    ·rw [hsplit, List.getLast?_append]
     have e : b + (q + 1) - 1 = b + q := by omega
     rw [e, getElem?_lt (show b + q < (sortedS w2).length by omega), ← a1]
     rfl
  ·rw [if_neg (by rw [el]; simp; omega), gcut_nat (by omega) (Nat.le_refl _), bsome]
   have e4 : ((p : Int)).toNat = p := by omega
   have e5 : ((w.length : Nat) : Int).toNat = w.length := by omega
   rw [e4, e5, gcut_take (by unfold gclear; simp; omega), bsome]
   have : (gclear w p w.length ([] : List UInt8)).take p = w.take p := by
    unfold gclear
    rw [List.append_assoc, List.take_append_of_le_length (by simp; omega), List.take_take, Nat.min_self]
   rw [this]
   refine ⟨_, rfl, hup, fun x => ?_⟩
   rw [hmem x, List.take_of_length_le (by omega)]
theorem compact_l2 (w2 : List (List UInt8)) (hN : w2.length ≤ 64) : ∀ (m i : Nat), w2.length - i < m → 1 ≤ i → i ≤ w2.length → Up ((sortedS w2).take i) →
  ∃ r, release_sources_l3 200 w2 m (i : Int) = some r ∧ Up r ∧ ∀ x, x ∈ r ↔ x ∈ sortedS w2 := by
 intro m
 induction m with
 | zero => intro i h; omega
 | succ m ih =>
  intro i h h1 hil hup
  rw [release_sources_l3]
  unfold release_sources_j2
  have hl := sorted_len w2
  by_cases hi : i < (sortedS w2).length
  ·have e2 : (i : Int) - 1 = ((i - 1 : Nat) : Int) := by omega
   have htk : (sortedS w2).take (i + 1) = (sortedS w2).take i ++ [(sortedS w2)[i]] := by rw [List.take_add_one, getElem?_lt hi]; rfl
   have hlast : ((sortedS w2).take i).getLast? = (sortedS w2)[i - 1]? := by
    rw [List.getLast?_eq_getElem?, List.length_take, Nat.min_eq_left (by omega), List.getElem?_take_of_lt (by omega)]
   rw [if_pos (lt_dec hi), gidx_nat, getElem?_lt hi, bsome, gsubI (by omega), bsome, e2, gidx_nat, getElem?_lt (show i - 1 < (sortedS w2).length by omega), bsome]
   by_cases he : (sortedS w2)[i] = (sortedS w2)[i - 1]'(by omega)
   ·rw [if_pos (by simp [he]), gcut_nat (by omega) (Nat.le_refl _), bsome]
    refine compact_l3 w2 hN i (by omega) h1 200 (sortedS w2) i 1 (by omega) hl (by omega) h1 (by omega) (by omega) rfl hup ?_ ?_
    ·intro x
     rw [htk]
     simp only [List.mem_append, List.mem_singleton]
     constructor
     ·exact .inl
     ·rintro (h2 | rfl)
      ·exact h2
      ·rw [he, List.mem_take_iff_getElem]
       exact ⟨i - 1, by omega, rfl⟩
    ·have e : i + 1 - 1 = i := by omega
     rw [e, hlast, getElem?_lt hi, getElem?_lt (show i - 1 < (sortedS w2).length by omega), he]
   ·rw [if_neg (by simp [he]), gadd_nat (by omega), bsome]
    refine ih (i + 1) (by omega) (by omega) (by omega) ?_
    rw [htk]
    unfold Up
    rw [List.pairwise_append]
    refine ⟨hup, by simp, ?_⟩
    intro x hx y hy
    simp at hy; subst hy
    have hlss : Op.bytesLess ((sortedS w2)[i - 1]'(by omega)) (sortedS w2)[i] = true := sorted_up w2 _ _ (by omega) hi (by omega) (fun e => he e.symm)
    rw [getElem?_lt (show i - 1 < (sortedS w2).length by omega)] at hlast
    obtain ⟨ys, hys⟩ := List.getLast?_eq_some_iff.1 hlast
    rw [hys] at hx hup
    rcases List.mem_append.1 hx with hx | hx
    ·have := (List.pairwise_append.1 hup).2.2 x hx _ (List.mem_singleton.2 rfl)
     exact less_trans this hlss
    ·simp at hx; subst hx; exact hlss
  ·rw [if_neg (nlt_dec hi)]
   refine ⟨_, rfl, ?_, fun x => Iff.rfl⟩
   rwa [List.take_of_length_le (by omega)] at hup
theorem ins_l2 (a0 w1 : List (List UInt8)) (hw : w1.length ≤ 64) (k : Nat) (hk : k < a0.length) (hk2 : k < 1000) (hup : Up w1) : ∀ (m j : Nat), w1.length - j < m → j ≤ w1.length → (∀ y ∈ w1.take j, Op.bytesLess y a0[k] = true) →
  ∃ w', Up w' ∧ (∀ y, y ∈ w' ↔ y ∈ w1 ∨ y = a0[k]) ∧ w'.length ≤ w1.length + 1 ∧ ∀ lp, ref6_Sorted_l2 200 a0 w1 (k : Int) lp m (j : Int) = lp w' ((k + 1 : Nat) : Int) := by
 intro m
 induction m with
 | zero => intro j h; omega
 | succ m ih =>
  intro j h hj hlo
  have ins : (∀ (hjl : j < w1.length), Op.bytesLess w1[j] a0[k] = false) → ∃ w', Up w' ∧ (∀ y, y ∈ w' ↔ y ∈ w1 ∨ y = a0[k]) ∧ w'.length ≤ w1.length + 1 ∧ ∀ lp, ref6_Sorted_j2 200 a0 w1 (k : Int) lp (j : Int) = lp w' ((k + 1 : Nat) : Int) := by
   intro hge
   by_cases heq : ∃ hjl : j < w1.length, w1[j] = a0[k]
   ·obtain ⟨hjl, he⟩ := heq
    refine ⟨w1, hup, fun y => ?_, by omega, fun lp => ?_⟩
    ·constructor
     ·exact .inl
     ·rintro (h | rfl)
      ·exact h
      ·rw [← he]; exact List.getElem_mem hjl
    ·unfold ref6_Sorted_j2 ref6_Sorted_j3 ref6_Sorted_j1
     rw [if_pos (lt_dec hjl), gidx_nat, getElem?_lt hjl, bsome, gidx_nat, getElem?_lt hk, bsome, if_pos (by simp [he]), gadd_nat (by omega), bsome]
   ·refine ⟨w1.take j ++ [a0[k]] ++ w1.drop j, ?_, fun y => ?_, by simp; omega, fun lp => ?_⟩
    ·unfold Up at hup ⊢
     have hsplit : (w1.take j ++ w1.drop j).Pairwise fun x y => Op.bytesLess x y = true := by rw [List.take_append_drop]; exact hup
     have hpp := List.pairwise_append.1 hsplit
     have hgt : ∀ y ∈ w1.drop j, Op.bytesLess a0[k] y = true := by
      intro y hy
      by_cases hjl : j < w1.length
      ·have h1 : Op.bytesLess a0[k] w1[j] = true := by
        have hne : ¬ w1[j] = a0[k] := fun e => heq ⟨hjl, e⟩
        exact less_total (by rw [hge hjl]; simp [hne])
       rw [List.drop_eq_getElem_cons hjl] at hy hpp
       rcases List.mem_cons.1 hy with rfl | hy
       ·exact h1
       ·exact less_trans h1 ((List.pairwise_cons.1 hpp.2.1).1 y hy)
      ·rw [List.drop_eq_nil_of_le (by omega)] at hy; cases hy
     rw [List.append_assoc, List.pairwise_append]
     refine ⟨hpp.1, ?_, ?_⟩
     ·rw [List.singleton_append, List.pairwise_cons]
      exact ⟨hgt, hpp.2.1⟩
     ·intro x hx y hy
      rcases List.mem_append.1 hy with hy | hy
      ·rw [List.mem_singleton] at hy; subst hy; exact hlo x hx
      ·exact hpp.2.2 x hx y hy
    ·simp only [List.mem_append, List.mem_singleton]
     have : y ∈ w1 ↔ y ∈ w1.take j ∨ y ∈ w1.drop j := by rw [← List.mem_append, List.take_append_drop]
     rw [this]
     constructor
     ·rintro ((h | h) | h)
      ·exact .inl (.inl h)
      ·exact .inr h
      ·exact .inl (.inr h)
     ·rintro ((h | h) | h)
      ·exact .inl (.inl h)
      ·exact .inr h
      ·exact .inl (.inr h)
    ·have tail : ref6_Sorted_j3 200 a0 w1 (k : Int) lp (j : Int) false = lp (w1.take j ++ [a0[k]] ++ w1.drop j) ((k + 1 : Nat) : Int) := by
      unfold ref6_Sorted_j3 ref6_Sorted_j1
      rw [if_neg (by simp), gcut_take hj, bsome, gapp_ok (by simp; omega), bsome, List.nil_append, gidx_nat, getElem?_lt hk, bsome, gapp_ok (by simp; omega), bsome, gcut_drop hj, bsome, gapp_ok (by simp; omega), bsome, gadd_nat (by omega), bsome]
     unfold ref6_Sorted_j2
     by_cases hjl : j < w1.length
     ·have hne : ¬ w1[j] = a0[k] := fun e => heq ⟨hjl, e⟩
      rw [if_pos (lt_dec hjl), gidx_nat, getElem?_lt hjl, bsome, gidx_nat, getElem?_lt hk, bsome]
      simp only [hne, decide_false]
      exact tail
     ·rw [if_neg (nlt_dec hjl)]
      exact tail
  by_cases hjl : j < w1.length
  ·by_cases hl : Op.bytesLess w1[j] a0[k] = true
   ·obtain ⟨w', h1, h2, h3, h4⟩ := ih (j + 1) (by omega) (by omega) (by
     intro y hy
     rw [List.take_add_one, getElem?_lt hjl] at hy
     rcases List.mem_append.1 hy with hy | hy
     ·exact hlo y hy
     ·simp at hy; subst hy; exact hl)
    refine ⟨w', h1, h2, h3, fun lp => ?_⟩
    rw [ref6_Sorted_l2, if_pos (lt_dec hjl), gidx_nat, getElem?_lt hjl, bsome, gidx_nat, getElem?_lt hk, bsome]
    unfold ref6_Sorted_j4
    rw [if_pos hl, gadd_nat (by omega), bsome]
    exact h4 lp
   ·obtain ⟨w', h1, h2, h3, h4⟩ := ins (fun _ => by simpa using hl)
    refine ⟨w', h1, h2, h3, fun lp => ?_⟩
    rw [ref6_Sorted_l2, if_pos (lt_dec hjl), gidx_nat, getElem?_lt hjl, bsome, gidx_nat, getElem?_lt hk, bsome]
    unfold ref6_Sorted_j4
    rw [if_neg hl]
    exact h4 lp
  ·obtain ⟨w', h1, h2, h3, h4⟩ := ins (fun h => absurd h hjl)
   refine ⟨w', h1, h2, h3, fun lp => ?_⟩
   rw [ref6_Sorted_l2, if_neg (nlt_dec hjl)]
   unfold ref6_Sorted_j4
   rw [if_neg (by simp)]
   exact h4 lp
theorem sorted_l1 (a0 : List (List UInt8)) (hl : a0.length ≤ 64) : ∀ (m i : Nat) (w : List (List UInt8)), a0.length - i < m → i ≤ a0.length → w.length ≤ i → Up w → (∀ y, y ∈ w ↔ y ∈ a0.take i) → ∃ r, ref6_Sorted_l1 200 a0 m w (i : Int) = some r ∧ Up r ∧ ∀ y, y ∈ r ↔ y ∈ a0 := by
 intro m
 induction m with
 | zero => intro i w h; omega
 | succ m ih =>
  intro i w h hil hw hup hmem
  rw [ref6_Sorted_l1]
  by_cases hi : i < a0.length
  ·obtain ⟨w', h1, h2, h3, h4⟩ := ins_l2 a0 w (by omega) i hi (by omega) hup 200 0 (by omega) (by omega) (by simp)
   have h4' := h4 (ref6_Sorted_l1 200 a0 m)
   rw [if_pos (lt_dec hi), show ref6_Sorted_l2 200 a0 w (i : Int) (ref6_Sorted_l1 200 a0 m) 200 0 = ref6_Sorted_l1 200 a0 m w' ((i + 1 : Nat) : Int) from h4']
   refine ih (i + 1) w' (by omega) (by omega) (by omega) h1 fun y => ?_
   have htk : a0.take (i + 1) = a0.take i ++ [a0[i]] := by rw [List.take_add_one, getElem?_lt hi]; rfl
   rw [h2 y, hmem y, htk, List.mem_append, List.mem_singleton]
  ·rw [if_neg (nlt_dec hi)]
   refine ⟨_, rfl, hup, fun y => ?_⟩
   rw [hmem y, List.take_of_length_le (by omega)]
theorem sorted_eq (l : List (List UInt8)) (hl : l.length ≤ 64) : ∃ r, ref6_Sorted 200 l = some r ∧ Up r ∧ ∀ y, y ∈ r ↔ y ∈ l :=
 sorted_l1 l hl 200 0 [] (by omega) (by omega) (by simp) .nil (by simp)
def srcs : List SInputsOpsOutput → List (List UInt8) → List (List UInt8)
 | [], _ => []
 | a :: r, made => a.Inputs.filter (fun p => decide (p ∉ made)) ++ srcs r (made ++ [a.Output])
theorem filter_take_snoc (l : List (List UInt8)) (q : List UInt8 → Bool) (i : Nat) (hi : i < l.length) : (l.take (i + 1)).filter q = if q l[i] = true then (l.take i).filter q ++ [l[i]] else (l.take i).filter q := by
 rw [List.take_add_one, getElem?_lt hi, Option.toList_some, List.filter_append]
 cases h : q l[i] <;> simp [h]
theorem src_l2 (made w0 : List (List UInt8)) (x3 : Int) (lp : List (List UInt8) → List (List UInt8) → Int → Option (List (List UInt8))) (e : SInputsOpsOutput) (he : e.Inputs.length ≤ 8) (hm : made.length ≤ 8) (hw : w0.length ≤ 64) (hx : 0 ≤ x3 ∧ x3 < 100) : ∀ (m i : Nat), e.Inputs.length - i < m → i ≤ e.Inputs.length →
  release_sources_l2 200 made x3 lp e m (w0 ++ (e.Inputs.take i).filter fun p => decide (p ∉ made)) (i : Int) = lp (w0 ++ e.Inputs.filter fun p => decide (p ∉ made)) (made ++ [e.Output]) (x3 + 1) := by
 intro m
 induction m with
 | zero => intro i h; omega
 | succ m ih =>
  intro i h hi
  rw [release_sources_l2]
  have hfl : ((e.Inputs.take i).filter fun p => decide (p ∉ made)).length ≤ 8 := Nat.le_trans (List.length_filter_le _ _) (by rw [List.length_take]; omega)
  by_cases hlt : i < e.Inputs.length
  ·have h2 := ih (i + 1) (by omega) (by omega)
   rw [filter_take_snoc _ _ _ hlt] at h2
   unfold release_sources_j1
   rw [if_pos (lt_dec hlt), gidx_nat, getElem?_lt hlt, bsome, contains_eq _ _ (by omega), bsome]
   by_cases hc : e.Inputs[i] ∈ made
   ·rw [if_neg (by simpa using hc)] at h2
    rw [if_neg (by simpa using hc), gadd_nat (by omega), bsome]
    exact h2
   ·rw [if_pos (by simpa using hc)] at h2
    rw [if_pos (by simpa using hc), gapp_ok (by simp only [List.length_append, List.length_singleton]; omega), bsome, gadd_nat (by omega), bsome, List.append_assoc]
    exact h2
  ·rw [if_neg (nlt_dec hlt), gapp_ok (by simp; omega), bsome, gaddI (by omega), bsome, List.take_of_length_le (by omega)]
theorem src_end (w : List (List UInt8)) (hw : w.length ≤ 64) : ∃ r, (if (decide (((sortedS w).length : Int) < 2)) = true then release_sources_j2 200 (sortedS w) else release_sources_l3 200 w 200 1) = some r ∧ Up r ∧ ∀ x, x ∈ r ↔ x ∈ w := by
 have hl := sorted_len w
 by_cases h2 : (sortedS w).length < 2
 ·rw [if_pos (by simp; omega)]
  refine ⟨_, rfl, ?_, fun x => sorted_mem w x⟩
  match hm : sortedS w with
  | [] => exact .nil
  | [x] => exact List.pairwise_singleton _ _
  | x :: y :: r => exfalso; rw [hm] at h2; simp only [List.length_cons] at h2; omega
 ·rw [if_neg (by simp; omega)]
  have hup : Up ((sortedS w).take 1) := by
   match hm : sortedS w with
   | [] => exact .nil
   | x :: r => exact List.pairwise_singleton _ _
  obtain ⟨r, h3, h4, h5⟩ := compact_l2 w hw 200 1 (by omega) (by omega) (by omega) hup
  exact ⟨r, h3, h4, fun x => (h5 x).trans (sorted_mem w x)⟩
theorem src_l1 (acts : List SInputsOpsOutput) (hl : acts.length ≤ 8) (hv : ∀ a ∈ acts, a.Inputs.length ≤ 8) : ∀ (m i : Nat) (w made : List (List UInt8)), acts.length - i < m → i ≤ acts.length → made.length ≤ i → w.length ≤ 8 * i →
  ∃ r, release_sources_l1 200 acts m w made (i : Int) = some r ∧ Up r ∧ ∀ x, x ∈ r ↔ x ∈ w ++ srcs (acts.drop i) made := by
 intro m
 induction m with
 | zero => intro i w made h; omega
 | succ m ih =>
  intro i w made h hi hmade hw
  rw [release_sources_l1]
  by_cases hlt : i < acts.length
  ·have ha := hv _ (List.getElem_mem hlt)
   have h2 := src_l2 made w (i : Int) (release_sources_l1 200 acts m) acts[i] ha (by omega) (by omega) (by omega) 200 0 (by omega) (by omega)
   rw [List.take_zero, List.filter_nil, List.append_nil] at h2
   rw [show ((0 : Nat) : Int) = 0 from rfl] at h2
   rw [if_pos (lt_dec hlt), gidx_nat, getElem?_lt hlt, bsome, h2]
   have hfl := List.length_filter_le (fun p => decide (p ∉ made)) acts[i].Inputs
   obtain ⟨r, h3, h4, h5⟩ := ih (i + 1) (w ++ acts[i].Inputs.filter fun p => decide (p ∉ made)) (made ++ [acts[i].Output]) (by omega) (by omega) (by simp; omega) (by rw [List.length_append]; omega)
   refine ⟨r, h3, h4, fun x => ?_⟩
   rw [h5, List.drop_eq_getElem_cons hlt, srcs, List.append_assoc]
  ·obtain ⟨r, h3, h4, h5⟩ := src_end w (by omega)
   rw [if_neg (nlt_dec hlt)]
   refine ⟨r, h3, h4, fun x => ?_⟩
   rw [h5, List.drop_of_length_le (by omega), srcs, List.append_nil]
theorem sources_eq (acts : List SInputsOpsOutput) (hl : acts.length ≤ 8) (hv : ∀ a ∈ acts, a.Inputs.length ≤ 8) : ∃ r, release_sources 200 acts = some r ∧ Up r ∧ ∀ x, x ∈ r ↔ x ∈ srcs acts [] := by
 obtain ⟨r, h1, h2, h3⟩ := src_l1 acts hl hv 200 0 [] [] (by omega) (by omega) (by simp) (by simp)
 exact ⟨r, h1, h2, fun x => by rw [h3]; simp⟩
end Go.Proofs.YtlkknmhhefjmjaaGreatDoor
namespace Go.Proofs.YtlkknmhhefjmjaaGreatDoor
open Go.PW Go
theorem rsrc_l3 (acts : List SInputsOpsOutput) (i k : Nat) (hi : i < acts.length) (hl : acts.length ≤ 8) (hk : k < acts[i].Inputs.length) (hk8 : k ≤ 8) (w3 : List (List UInt8)) (hw : w3.length ≤ 64) (lp2 : List (List UInt8) → Int → Option (List (List UInt8))) : ∀ (m j : Nat) (b : Bool), i - j < m → j ≤ i →
  ref6_Sources_l3 200 acts (i : Int) w3 (k : Int) lp2 acts[i] m b (j : Int) = if b = true ∨ ∃ a ∈ (acts.take i).drop j, a.Output = acts[i].Inputs[k] then lp2 w3 ((k + 1 : Nat) : Int) else lp2 (w3 ++ [acts[i].Inputs[k]]) ((k + 1 : Nat) : Int) := by
 intro m
 induction m with
 | zero => intro j b h; omega
 | succ m ih =>
  intro j b h hj
  rw [ref6_Sources_l3]
  by_cases hlt : j < i
  ·have hjl : j < acts.length := by omega
   have hlen : j < (acts.take i).length := by rw [List.length_take]; omega
   have hd : (acts.take i).drop j = acts[j] :: (acts.take i).drop (j + 1) := by
    rw [List.drop_eq_getElem_cons hlen]
    congr 1
    exact List.getElem_take
   unfold ref6_Sources_j2
   rw [if_pos (lt_dec hlt)]
   cases b with
   | true =>
    rw [if_pos rfl, gadd_nat (by omega), bsome, ih (j + 1) true (by omega) (by omega), if_pos (.inl rfl), if_pos (.inl rfl)]
   | false =>
    rw [if_neg (by decide), gidx_nat, getElem?_lt hjl, bsome, gidx_nat, getElem?_lt hk, bsome, gadd_nat (by omega), bsome, ih (j + 1) _ (by omega) (by omega)]
    have hiff : (decide (acts[j].Output = acts[i].Inputs[k]) = true ∨ ∃ a ∈ (acts.take i).drop (j + 1), a.Output = acts[i].Inputs[k]) ↔ (false = true ∨ ∃ a ∈ (acts.take i).drop j, a.Output = acts[i].Inputs[k]) := by
     rw [hd]
     constructor
     ·rintro (h | ⟨a, ha, he⟩)
      ·exact .inr ⟨_, List.mem_cons_self, of_decide_eq_true h⟩
      ·exact .inr ⟨a, List.mem_cons_of_mem _ ha, he⟩
     ·rintro (h | ⟨a, ha, he⟩)
      ·cases h
      ·rcases List.mem_cons.1 ha with rfl | ha
       ·exact .inl (decide_eq_true he)
       ·exact .inr ⟨a, ha, he⟩
    simp only [hiff]
  ·have hno : ¬ ∃ a ∈ (acts.take i).drop j, a.Output = acts[i].Inputs[k] := by
    rw [List.drop_of_length_le (by rw [List.length_take]; omega)]
    rintro ⟨a, ha, _⟩
    cases ha
   unfold ref6_Sources_j1
   rw [if_neg (nlt_dec hlt)]
   cases b with
   | true => rw [if_neg (by decide), if_pos (.inl rfl), gadd_nat (by omega), bsome]
   | false =>
    rw [if_pos (by decide), gidx_nat, getElem?_lt hk, bsome, gapp_ok (by simp; omega), bsome, gadd_nat (by omega), bsome, if_neg (fun h => h.elim (fun h => by cases h) hno)]
theorem rsrc_l2 (acts : List SInputsOpsOutput) (i : Nat) (hi : i < acts.length) (hl : acts.length ≤ 8) (h8 : acts[i].Inputs.length ≤ 8) (w0 : List (List UInt8)) (hw : w0.length ≤ 56) (lp : List (List UInt8) → Int → Option (List (List UInt8))) : ∀ (m k : Nat), acts[i].Inputs.length - k < m → k ≤ acts[i].Inputs.length →
  ref6_Sources_l2 200 acts (i : Int) lp m (w0 ++ (acts[i].Inputs.take k).filter fun p => decide (p ∉ (acts.take i).map (·.Output))) (k : Int) = lp (w0 ++ acts[i].Inputs.filter fun p => decide (p ∉ (acts.take i).map (·.Output))) ((i + 1 : Nat) : Int) := by
 intro m
 induction m with
 | zero => intro k h; omega
 | succ m ih =>
  intro k h hk
  rw [ref6_Sources_l2, gidx_nat, getElem?_lt hi, bsome]
  have hfl : ((acts[i].Inputs.take k).filter fun p => decide (p ∉ (acts.take i).map (·.Output))).length ≤ 8 := Nat.le_trans (List.length_filter_le _ _) (by rw [List.length_take]; omega)
  by_cases hlt : k < acts[i].Inputs.length
  ·have h3 := rsrc_l3 acts i k hi hl hlt (by omega) (w0 ++ (acts[i].Inputs.take k).filter fun p => decide (p ∉ (acts.take i).map (·.Output))) (by rw [List.length_append]; omega) (ref6_Sources_l2 200 acts (i : Int) lp m) 200 0 false (by omega) (by omega)
   rw [show ((0 : Nat) : Int) = 0 from rfl, List.drop_zero] at h3
   have h2 := ih (k + 1) (by omega) (by omega)
   rw [filter_take_snoc _ _ _ hlt] at h2
   rw [if_pos (lt_dec hlt), h3]
   by_cases hc : acts[i].Inputs[k] ∈ (acts.take i).map (·.Output)
   ·rw [if_neg (by simpa using hc)] at h2
    obtain ⟨a, ha, hae⟩ := List.mem_map.1 hc
    rw [if_pos (.inr ⟨a, ha, hae⟩)]
    exact h2
   ·rw [if_pos (by simpa using hc)] at h2
    rw [if_neg (by
     rintro (h | ⟨a, ha, hae⟩)
     ·cases h
     ·exact hc (List.mem_map.2 ⟨a, ha, hae⟩)), List.append_assoc]
    exact h2
  ·have e : acts[i].Inputs.take k = acts[i].Inputs := List.take_of_length_le (by omega)
   rw [if_neg (nlt_dec hlt), gadd_nat (by omega), bsome, e]
theorem rsrc_l1 (acts : List SInputsOpsOutput) (hl : acts.length ≤ 8) (hv : ∀ a ∈ acts, a.Inputs.length ≤ 8) : ∀ (m i : Nat) (w : List (List UInt8)), acts.length - i < m → i ≤ acts.length → w.length ≤ 8 * i →
  ∃ r, ref6_Sources_l1 200 acts m w (i : Int) = some r ∧ Up r ∧ ∀ x, x ∈ r ↔ x ∈ w ++ srcs (acts.drop i) ((acts.take i).map (·.Output)) := by
 intro m
 induction m with
 | zero => intro i w h; omega
 | succ m ih =>
  intro i w h hi hw
  rw [ref6_Sources_l1]
  by_cases hlt : i < acts.length
  ·have ha := hv _ (List.getElem_mem hlt)
   have h2 := rsrc_l2 acts i hlt hl ha w (by omega) (ref6_Sources_l1 200 acts m) 200 0 (by omega) (by omega)
   rw [List.take_zero, List.filter_nil, List.append_nil] at h2
   rw [show ((0 : Nat) : Int) = 0 from rfl] at h2
   rw [if_pos (lt_dec hlt), h2]
   have hfl := List.length_filter_le (fun p => decide (p ∉ (acts.take i).map (·.Output))) acts[i].Inputs
   obtain ⟨r, h3, h4, h5⟩ := ih (i + 1) (w ++ acts[i].Inputs.filter fun p => decide (p ∉ (acts.take i).map (·.Output))) (by omega) (by omega) (by rw [List.length_append]; omega)
   refine ⟨r, h3, h4, fun x => ?_⟩
   have e : (acts.take (i + 1)).map (·.Output) = (acts.take i).map (·.Output) ++ [acts[i].Output] := by
    rw [List.take_add_one, getElem?_lt hlt, Option.toList_some, List.map_append]; rfl
   rw [h5, List.drop_eq_getElem_cons hlt, srcs, List.append_assoc, e]
  ·obtain ⟨r, h3, h4, h5⟩ := sorted_eq w (by omega)
   rw [if_neg (nlt_dec hlt), h3, bsome]
   refine ⟨r, rfl, h4, fun x => ?_⟩
   rw [h5, List.drop_of_length_le (by omega), srcs, List.append_nil]
theorem sources_both (acts : List SInputsOpsOutput) (hl : acts.length ≤ 8) (hv : ∀ a ∈ acts, a.Inputs.length ≤ 8) : ∃ r, release_sources 200 acts = some r ∧ ref6_Sources 200 acts = some r ∧ Up r ∧ ∀ x, x ∈ r ↔ x ∈ srcs acts [] := by
 obtain ⟨r, h1, h2, h3⟩ := sources_eq acts hl hv
 obtain ⟨s, h4, h5, h6⟩ := rsrc_l1 acts hl hv 200 0 [] (by omega) (by omega) (by simp)
 have : s = r := up_eq h5 h2 fun x => by rw [h6, h3]; simp
 subst this
 exact ⟨s, h1, h4, h2, h3⟩
theorem actFault_l (acts : List SInputsOpsOutput) (hl : acts.length ≤ 8) : ∀ (m i : Nat), acts.length - i < m → ∃ r, release_checkActions_l1 200 acts m (i : Int) = some r ∧ ref6_ActionsFault_l1 200 acts m (i : Int) = some r ∧ Fine r ∧ (r = ⟨0, 0⟩ ↔ ∀ a ∈ acts.drop i, sandbox_Validate 200 a = some ⟨0, 0⟩) := by
 intro m
 induction m with
 | zero => intro i h; omega
 | succ m ih =>
  intro i h
  rw [release_checkActions_l1, ref6_ActionsFault_l1]
  by_cases hlt : i < acts.length
  ·obtain ⟨q, q1, q2, _⟩ := validate_ok acts[i]
   rw [if_pos (lt_dec hlt), if_pos (lt_dec hlt), gidx_nat, getElem?_lt hlt, bsome, bsome, action_eq, q1, bsome, bsome]
   have hd : acts.drop i = acts[i] :: acts.drop (i + 1) := List.drop_eq_getElem_cons hlt
   rcases q2 with rfl | q2
   ·obtain ⟨r, r1, r2, r3, r4⟩ := ih (i + 1) (by omega)
    rw [if_neg fault_none, if_neg (by decide), gadd_nat (by omega), bsome, bsome]
    refine ⟨r, r1, r2, r3, r4.trans ?_⟩
    rw [hd]
    exact ⟨fun h a ha => (List.mem_cons.1 ha).elim (fun e => e ▸ q1) (h a), fun h a ha => h a (List.mem_cons_of_mem _ ha)⟩
   ·rw [if_pos (fault_ne q2), if_pos (by simpa using q2)]
    refine ⟨_, rfl, rfl, .inr q2, fun h => absurd (congrArg SCodeIndex.Code h) q2, fun h => ?_⟩
    have := h acts[i] (by rw [hd]; exact List.mem_cons_self)
    rw [q1] at this
    exact absurd (congrArg SCodeIndex.Code (Option.some.inj this)) q2
  ·rw [if_neg (nlt_dec hlt), if_neg (nlt_dec hlt), List.drop_of_length_le (by omega)]
   exact ⟨_, rfl, rfl, .none, ⟨fun _ a ha => (by cases ha), fun _ => rfl⟩⟩
theorem actFault_eq (acts : List SInputsOpsOutput) : ∃ r, release_checkActions 200 acts = some r ∧ ref6_ActionsFault 200 acts = some r ∧ Fine r ∧ (r = ⟨0, 0⟩ ↔ acts.length ≤ 8 ∧ ∀ a ∈ acts, sandbox_Validate 200 a = some ⟨0, 0⟩) := by
 unfold release_checkActions ref6_ActionsFault
 by_cases hl : 8 < acts.length
 ·rw [if_pos (by simp; omega), if_pos (by simp; omega)]
  exact ⟨_, rfl, rfl, .inr (by simp), fun h => (by cases h), fun h => by omega⟩
 ·rw [if_neg (by simp; omega), if_neg (by simp; omega)]
  obtain ⟨r, r1, r2, r3, r4⟩ := actFault_l acts (by omega) 200 0 (by omega)
  refine ⟨r, r1, r2, r3, r4.trans ⟨fun h => ⟨by omega, fun a ha => h a (by simpa using ha)⟩, fun h a ha => h.2 a (by simpa using ha)⟩⟩
end Go.Proofs.YtlkknmhhefjmjaaGreatDoor
namespace Go.Proofs.YtlkknmhhefjmjaaGreatDoor
open Go.PW Go
def empP : SActionsMaterialsOutput := ⟨[], [], ⟨[]⟩⟩
theorem ops_clone {l : List SKindText} (h : l.length ≤ 16) : slices_Clone_api_SandboxOp_api_SandboxOp 200 l = some l := by
 unfold slices_Clone_api_SandboxOp_api_SandboxOp
 rw [gapp_ok (by simp; omega), bsome, List.nil_append]
theorem rclone_l (acts : List SInputsOpsOutput) (hl : acts.length ≤ 8) (hv : ∀ a ∈ acts, VGood a) : ∀ (m i : Nat), acts.length - i < m → i ≤ acts.length → release_clone_l1 200 acts m (acts.take i) (i : Int) = some acts := by
 intro m
 induction m with
 | zero => intro i h; omega
 | succ m ih =>
  intro i h hi
  rw [release_clone_l1]
  by_cases hlt : i < acts.length
  ·have ha := hv _ (List.getElem_mem hlt)
   rw [if_pos (lt_dec hlt), gidx_nat, getElem?_lt hlt, bsome, ln_clone ha.insLn, bsome, ops_clone ha.ops, bsome, gapp_ok (by simp; omega), bsome, gadd_nat (by omega), bsome]
   have := ih (i + 1) (by omega) (by omega)
   rw [List.take_add_one, getElem?_lt hlt] at this
   exact this
  ·rw [if_neg (nlt_dec hlt), List.take_of_length_le (by omega)]
theorem rclone_eq (acts : List SInputsOpsOutput) (hl : acts.length ≤ 8) (hv : ∀ a ∈ acts, VGood a) : release_clone 200 acts = some acts := rclone_l acts hl hv 200 0 (by omega) (by omega)
theorem srcs_mem : ∀ (l : List SInputsOpsOutput) (made : List (List UInt8)) (p : List UInt8), p ∈ srcs l made → ∃ a ∈ l, p ∈ a.Inputs
 | [], _, p, h => by simp [srcs] at h
 | a :: r, made, p, h => by
  rw [srcs] at h
  rcases List.mem_append.1 h with h | h
  ·exact ⟨a, by simp, (List.mem_filter.1 h).1⟩
  ·obtain ⟨b, hb, hp⟩ := srcs_mem r _ p h
   exact ⟨b, by simp [hb], hp⟩
theorem in_valid {a : SInputsOpsOutput} (h : sandbox_Validate 200 a = some ⟨0, 0⟩) : ∀ p ∈ a.Inputs, libValidPath p = true := by
 obtain ⟨r, h1, h2, h3⟩ := validate_ok a
 have e : (⟨0, 0⟩ : SCodeIndex) = r := Option.some.inj (h.symm.trans h1)
 obtain ⟨hi, ho⟩ := h3 e.symm
 have d1 : decide ((8 : Int) < (a.Inputs.length : Int)) = false := by simp; omega
 have d2 : decide ((16 : Int) < (a.Ops.length : Int)) = false := by simp; omega
 unfold sandbox_Validate sandbox_Validate_j1 at h
 simp only [d1, d2, Bool.false_eq_true, ↓reduceIte] at h
 have key : ∀ (m i : Nat), a.Inputs.length - i < m → sandbox_Validate_l1 200 a m (i : Int) = some ⟨0, 0⟩ → ∀ p ∈ a.Inputs.drop i, libValidPath p = true := by
  intro m
  induction m with
  | zero => intro i h; omega
  | succ m ih =>
   intro i h h0
   rw [sandbox_Validate_l1] at h0
   unfold treepatch_ValidPath at h0
   by_cases hi : i < a.Inputs.length
   ·rw [if_pos (lt_dec hi), gidx_nat, getElem?_lt hi, bsome, bsome] at h0
    by_cases hv : libValidPath a.Inputs[i] = true
    ·have tail : ∀ b : Bool, sandbox_Validate_j2 200 (i : Int) (sandbox_Validate_l1 200 a m) b = some ⟨0, 0⟩ → ∀ p ∈ a.Inputs.drop i, libValidPath p = true := by
      intro b hb p hp
      unfold sandbox_Validate_j2 at hb
      cases b with
      | true =>
       rw [if_pos rfl] at hb
       have := congrArg SCodeIndex.Code (Option.some.inj hb)
       simp at this
      | false =>
       rw [if_neg (by simp), gadd_nat (by omega), bsome] at hb
       rw [List.drop_eq_getElem_cons hi] at hp
       rcases List.mem_cons.1 hp with rfl | hp
       ·exact hv
       ·exact ih (i + 1) (by omega) hb p hp
     rw [if_neg (by simp [hv])] at h0
     by_cases hp : 0 < i
     ·have e1 : ((i : Int) - 1) = ((i - 1 : Nat) : Int) := by omega
      rw [if_pos (by simp; omega), gsubI (by omega), bsome, e1, gidx_nat, getElem?_lt (by omega), bsome] at h0
      exact tail _ h0
     ·rw [if_neg (by simp; omega)] at h0
      exact tail _ h0
    ·rw [if_pos (by simp [hv])] at h0
     have := congrArg SCodeIndex.Code (Option.some.inj h0)
     simp at this
   ·rw [List.drop_of_length_le (by omega)]
    intro p hp
    cases hp
 exact fun p hp => key 200 0 (by omega) h p (by simpa using hp)
theorem rmake_eq (acts : List SInputsOpsOutput) (t : SFiles) (hf : ∀ f ∈ t.Files, f.Path.length < big) :
  (∃ r, r.Code ≠ 0 ∧ release_Make 200 acts t = some (empP, r) ∧ ref6_MakeFault 200 acts t = some r) ∨
  (∃ s, ref6_MakeFault 200 acts t = some ⟨0, 0⟩ ∧ acts.length ≤ 8 ∧ (∀ a ∈ acts, sandbox_Validate 200 a = some ⟨0, 0⟩) ∧ TGood t ∧ ref6_Sources 200 acts = some s ∧ PGood s ∧ (∀ x, x ∈ s ↔ x ∈ srcs acts []) ∧
   release_Make 200 acts t = some (if (execR acts 0 t.Files []).2.Code ≠ 0 then (empP, (execR acts 0 t.Files []).2) else (⟨acts, bill s t, ⟨(execR acts 0 t.Files []).1⟩⟩, ⟨0, 0⟩))) := by
 obtain ⟨r, r1, r2, r3, r4⟩ := actFault_eq acts
 unfold release_Make ref6_MakeFault
 rw [r1, r2, bsome, bsome]
 by_cases hr : r.Code = 0
 ·have := r3.resolve_right (fun h => h hr); subst this
  obtain ⟨hl, hv⟩ := r4.1 rfl
  rw [if_neg fault_none, if_pos (by simp), treeAt_eq t hf]
  have hs : ∃ s, treepatch_Second 200 t (-2) = some s ∧ Fine s ∧ (s = ⟨0, 0⟩ → TGood t) := by
   rcases second_cases t hf (-2) with ⟨hg, h⟩ | ⟨c, hc, _, h⟩
   ·exact ⟨_, h, .none, fun _ => hg⟩
   ·exact ⟨_, h, .inr hc, fun e => absurd (congrArg SCodeIndex.Code e) hc⟩
  obtain ⟨s, s1, s2, s3⟩ := hs
  rw [s1, bsome, bsome]
  unfold ref6_MakeFault_j1 ref6_MakeFault_j3 ref6_MakeFault_j2
  by_cases hsc : s.Code = 0
  ·have := s2.resolve_right (fun h => h hsc); subst this
   have ht := s3 rfl
   have hV : ∀ a ∈ acts, VGood a := fun a ha => vgood_of a (hv a ha)
   obtain ⟨q, q1, q2, q3, q4⟩ := sources_both acts hl fun a ha => (hV a ha).ins
   rw [if_neg fault_none, if_pos (by simp), q1, q2, bsome, bsome]
   by_cases h24 : 24 < q.length
   ·rw [if_pos (by simp; omega), decide_eq_true (show (24 : Int) < (q.length : Int) by omega), if_pos rfl]
    exact .inl ⟨⟨10, -3⟩, by simp, rfl, rfl⟩
   ·rw [if_neg (by simp; omega), decide_eq_false (show ¬ (24 : Int) < (q.length : Int) by omega), if_neg (by decide)]
    have hpg : PGood q := by
     refine ⟨by omega, fun p hp => ?_, q3⟩
     obtain ⟨a, ha, hpa⟩ := srcs_mem acts [] p ((q4 p).1 hp)
     exact in_valid (hv a ha) p hpa
    refine .inr ⟨q, rfl, hl, hv, ht, rfl, hpg, q4, ?_⟩
    rw [exec_eq acts t hl hv ht, bsome]
    by_cases he : (execR acts 0 t.Files []).2.Code = 0
    ·have hfe : (execR acts 0 t.Files []).2 = ⟨0, 0⟩ ∨ (execR acts 0 t.Files []).2.Code ≠ 0 := by
      have key : ∀ (l : List SInputsOpsOutput) (i : Nat) (all out : List SPathLines), (execR l i all out).2 = ⟨0, 0⟩ ∨ (execR l i all out).2.Code ≠ 0 := by
       intro l
       induction l with
       | nil => intro i all out; exact .inl rfl
       | cons a l ih =>
        intro i all out
        rw [execR]
        split
        ·exact .inr (by simp)
        ·split
         ·exact .inr (by simp)
         ·split
          ·rename_i h; exact .inr h
          ·exact ih _ _ _
      exact key _ _ _ _
     have he0 := hfe.resolve_right fun h => h he
     have hnf : ¬ (((execR acts 0 t.Files []).2.Code == 0 && ((execR acts 0 t.Files []).2.Index == 0 && true)) != true) = true := by rw [he0]; exact fault_none
     obtain ⟨r', s', p1, _, p4, _, p7⟩ := make_eq q t hf
     rw [pathsOf hpg] at p1
     rw [s1] at p4
     injection p1 with p1
     injection p4 with p4
     subst p1; subst p4
     rw [if_neg (by simp), if_neg (by simp)] at p7
     rw [if_neg hnf, p7, bsome, rclone_eq acts hl hV, bsome, if_neg (by simpa using he)]
    ·rw [if_pos (fault_ne he), if_pos he]
     rfl
  ·rw [if_pos (fault_ne hsc), if_neg (by simpa using hsc), if_neg (by decide)]
   exact .inl ⟨s, hsc, rfl, rfl⟩
 ·rw [if_pos (fault_ne hr), if_neg (by simpa using hr)]
  unfold ref6_MakeFault_j1 ref6_MakeFault_j3 ref6_MakeFault_j2
  rw [if_neg (by simpa using hr), if_neg (by decide)]
  exact .inl ⟨r, hr, rfl, rfl⟩
end Go.Proofs.YtlkknmhhefjmjaaGreatDoor
namespace Go.Proofs.YtlkknmhhefjmjaaGreatDoor
open Go.PW Go
end Go.Proofs.YtlkknmhhefjmjaaGreatDoor
namespace Go.Proofs.YtlkknmhhefjmjaaGreatDoor
open Go.PW Go
end Go.Proofs.YtlkknmhhefjmjaaGreatDoor
namespace Go.Proofs.YtlkknmhhefjmjaaGreatDoor
open Go.PW Go
end Go.Proofs.YtlkknmhhefjmjaaGreatDoor
namespace Go.Proofs.YtlkknmhhefjmjaaGreatDoor
open Go.PW Go
theorem rises_sub {sub all : List SPathLines} (hs : Rises Op.bytesLess SPathLines.Path sub) (ha : Rises Op.bytesLess SPathLines.Path all) (h : ∀ f ∈ sub, f ∈ all) : sub.Sublist all := by
 have e : sub = all.filter fun f => decide (f ∈ sub) := rises_ext totalBytes hs (List.Pairwise.sublist List.filter_sublist ha) fun x => by
  simp only [List.mem_filter, decide_eq_true_eq]
  exact ⟨fun hx => ⟨h x hx, hx⟩, And.right⟩
 exact e ▸ List.filter_sublist
theorem tgood_sub {sub all : List SPathLines} (h : TGood ⟨all⟩) (hs : sub.Sublist all) : TGood ⟨sub⟩ :=
 ⟨Nat.le_trans hs.length_le h.len, ⟨h.ok.1.sublist hs, fun f hf => h.ok.2 f (hs.subset hf)⟩, List.pairwise_iff_getElem.1 (List.Pairwise.sublist hs h.rises)⟩
theorem tgood_nil : TGood ⟨[]⟩ := ⟨by simp, ⟨.nil, by simp⟩, fun i j hi => by simp at hi⟩
theorem exec_tgood : ∀ (l : List SInputsOpsOutput) (_ : ∀ a ∈ l, sandbox_Validate 200 a = some ⟨0, 0⟩) (i : Nat) (all out : List SPathLines), TGood ⟨all⟩ → Rises Op.bytesLess SPathLines.Path out → (∀ f ∈ out, f ∈ all) → TGood ⟨(execR l i all out).1⟩
 | [], _, _, _, _, hA, hr, hs => tgood_sub hA (rises_sub hr hA.rises hs)
 | a :: l, hv, i, all, out, hA, hr, hs => by
  have ha := hv a (by simp)
  rw [execR]
  split
  ·exact tgood_nil
  ·rename_i hc
   split
   ·exact tgood_nil
   ·rename_i h24
    split
    ·exact tgood_nil
    ·rename_i hz
     obtain ⟨_, h2⟩ := runR_eq ha hA
     rcases h2 with ⟨h2, _⟩ | ⟨_, h3⟩
     ·exact absurd h2 hz
     ·refine exec_tgood l (fun b hb => hv b (by simp [hb])) _ _ _ (tgood_put hA (out_valid ha) h3 (fun f hf h => hc ⟨f, hf, h⟩) (by omega)) (putK_rises totalBytes hr) fun f hf => ?_
      rcases (putK_mem totalBytes hr).1 hf with rfl | hf
      ·exact (putK_mem totalBytes hA.rises).2 (.inl rfl)
      ·exact (putK_mem totalBytes hA.rises).2 (.inr ⟨hs f hf.1, hf.2⟩)
end Go.Proofs.YtlkknmhhefjmjaaGreatDoor
namespace Go.Proofs.YtlkknmhhefjmjaaGreatDoor
open Go.PW Go
structure Made (acts : List SInputsOpsOutput) (t : SFiles) (s : List (List UInt8)) (o : List SPathLines) : Prop where
 len : acts.length ≤ 8
 val : ∀ a ∈ acts, sandbox_Validate 200 a = some ⟨0, 0⟩
 tree : TGood t
 src : ref6_Sources 200 acts = some s
 pg : PGood s
 mem : ∀ x, x ∈ s ↔ x ∈ srcs acts []
 run : execR acts 0 t.Files [] = (o, ⟨0, 0⟩)
 make : release_Make 200 acts t = some (⟨acts, bill s t, ⟨o⟩⟩, ⟨0, 0⟩)
theorem Made.out {acts : List SInputsOpsOutput} {t : SFiles} {s : List (List UInt8)} {o : List SPathLines} (h : Made acts t s o) : TGood ⟨o⟩ := by
 have := exec_tgood acts h.val 0 t.Files [] h.tree .nil (by simp)
 rw [h.run] at this
 exact this
end Go.Proofs.YtlkknmhhefjmjaaGreatDoor
namespace Go.Proofs.YtlkknmhhefjmjaaGreatDoor
open Go.PW Go
end Go.Proofs.YtlkknmhhefjmjaaGreatDoor
namespace Go.Proofs.YtlkknmhhefjmjaaGreatDoor
open Go.PW Go
def kA : SInputsOpsOutput := ⟨[[97]], [⟨1, [97]⟩], [98]⟩
def kF : SFiles := ⟨[⟨[97], [[120]]⟩]⟩
def kP : SActionsMaterialsOutput := ⟨[kA], bill [[97]] kF, ⟨[⟨[98], [[120]]⟩]⟩⟩
theorem kMake : release_Make 200 [kA] kF = some (kP, ⟨0, 0⟩) := by
 have hf : ∀ f ∈ kF.Files, f.Path.length < big := by
  intro f h
  have : f = ⟨[97], [[120]]⟩ := List.mem_singleton.1 h
  rw [this]
  decide
 have h1 : ref6_MakeFault 200 [kA] kF = some ⟨0, 0⟩ := by kernel_rfl
 have h2 : ref6_Sources 200 [kA] = some [[97]] := by kernel_rfl
 rcases rmake_eq [kA] kF hf with ⟨r, hr, _, h3⟩ | ⟨s, _, _, _, _, h4, _, _, h5⟩
 ·rw [h1] at h3
  exact absurd (congrArg SCodeIndex.Code (Option.some.inj h3)).symm hr
 ·rw [h2] at h4
  have hs : [[97]] = s := Option.some.inj h4
  subst hs
  refine h5.trans ?_
  show _ = some ((kP, ⟨0, 0⟩) : SActionsMaterialsOutput × SCodeIndex)
  kernel_rfl
theorem kern_eq : top_kernBuilds 200 = some true := by
 unfold top_kernBuilds
 have e1 : top_kernAction 200 = some kA := rfl
 have e2 : top_kernFiles 200 = some kF := rfl
 have e3 : ∃ l, sandbox_Run 200 kA kF = some (l, ⟨0, 0⟩) ∧ ref6_Strings 200 l [[120]] = some true := ⟨[[120]], by kernel_rfl, by kernel_rfl⟩
 obtain ⟨l, e3, e4⟩ := e3
 have e5 : bom_Make 200 [[97]] kF = some (bill [[97]] kF, ⟨0, 0⟩) := by kernel_rfl
 have e6 : (actioncache_Key 200 kA kF).map (fun r => decide (r.2.Code = 0) && decide (r.1 ≠ 0)) = some true := by kernel_rfl
 rw [e1, e2, bsome, bsome, e3, bsome, bsome, bsome, kMake, bsome, bsome, e5, bsome, bsome, bsome]
 cases hk : actioncache_Key 200 kA kF with
 | none => rw [hk] at e6; simp at e6
 | some r =>
  rw [hk] at e6
  simp only [Option.map_some, Option.some.injEq, Bool.and_eq_true, decide_eq_true_eq] at e6
  rw [bsome, if_pos (by rfl), if_pos (by rfl), if_pos (by rfl), if_pos (by simpa using e6.1), e4, bsome, if_pos rfl, if_pos (by rfl), if_pos (by rfl)]
  unfold top_kernBuilds_j1
  rw [decide_eq_true e6.2]
end Go.Proofs.YtlkknmhhefjmjaaGreatDoor
namespace Go.Proofs.YtlkknmhhefjmjaaGreatDoor
open Go.PW Go
end Go.Proofs.YtlkknmhhefjmjaaGreatDoor
namespace Go.Proofs.YtlkknmhhefjmjaaGreatDoor
open Go.PW Go
abbrev Evt := SKindWorkerJobValue
theorem fill_l (k : Nat) (hk : k ≤ 100) (x : Int) (w1 : List Int) (hw : w1.length = k) : ∀ (m i : Nat), k - i < m → i ≤ k → workers_fill_l1 200 x w1 m (List.replicate i x ++ List.replicate (k - i) 0) (i : Int) = some (List.replicate k x) := by
 intro m
 induction m with
 | zero => intro i h; omega
 | succ m ih =>
  intro i h hi
  rw [workers_fill_l1]
  by_cases hlt : i < k
  ·have hl : i < (List.replicate i x ++ List.replicate (k - i) (0 : Int)).length := by simp; omega
   rw [if_pos (by rw [hw]; exact lt_dec hlt), gidx_nat, getElem?_lt hl, bsome, gadd_nat (by omega), bsome, gset_nat]
   have e : (List.replicate i x ++ List.replicate (k - i) (0 : Int)).set i x = List.replicate (i + 1) x ++ List.replicate (k - (i + 1)) 0 := by
    refine List.ext_getElem (by simp; omega) fun j h1 h2 => ?_
    simp only [List.length_set, List.length_append, List.length_replicate] at h1
    rw [List.getElem_set]
    by_cases hij : i = j
    ·subst hij
     rw [if_pos rfl, List.getElem_append_left (by simp)]
     simp
    ·rw [if_neg hij]
     by_cases hj : j < i
     ·rw [List.getElem_append_left (by simpa using hj), List.getElem_append_left (by simp; omega)]
      simp
     ·rw [List.getElem_append_right (by simp; omega), List.getElem_append_right (by simp; omega)]
      simp
   rw [e]
   exact ih (i + 1) (by omega) (by omega)
  ·rw [if_neg (by rw [hw]; exact nlt_dec hlt)]
   have : i = k := by omega
   subst this
   simp
theorem fill_eq (k : Nat) (hk : k ≤ 100) (x : Int) : workers_fill 200 (k : Int) x = some (List.replicate k x) := by
 unfold workers_fill gmake
 rw [if_pos ⟨by omega, by unfold big; simp; omega⟩, bsome]
 have := fill_l k hk x (List.replicate ((k : Int)).toNat 0) (by simp) 200 0 (by omega) (by omega)
 simp only [List.replicate_zero, List.nil_append, Nat.sub_zero] at this
 exact this
def cnt (l : List Int) (v : Int) : Nat := (l.filter fun x => decide (x = v)).length
theorem cnt_cons (x : Int) (l : List Int) (v : Int) : cnt (x :: l) v = (if x = v then 1 else 0) + cnt l v := by
 unfold cnt
 rw [List.filter_cons]
 by_cases h : x = v <;> simp [h] <;> omega
theorem cnt_le (l : List Int) (v : Int) : cnt l v ≤ l.length := List.length_filter_le _ _
theorem l3_eq (need : Int) (w9 : List Int) (z10 : List (List Int)) (w11 : List Int) (x12 : Int) (lp2) (e : Evt) (e20 : Int) (q26 q29 : List Int) (hq : q29.length ≤ 100) : ∀ (m c i : Nat), q29.length - i < m → c ≤ i → i ≤ q29.length →
  workers_play_l3 200 need w9 z10 w11 x12 lp2 e e20 q26 q29 m (c : Int) (i : Int) = if need ≤ ((c + cnt (q29.drop i) e.Value : Nat) : Int) then (gidx w11 e20).bind fun e38 => workers_play_j7 200 w9 z10 w11 x12 lp2 e e20 q26 (decide (e38 < 0)) else workers_play_j7 200 w9 z10 w11 x12 lp2 e e20 q26 false := by
 intro m
 induction m with
 | zero => intro c i h; omega
 | succ m ih =>
  intro c i h hc hi
  rw [workers_play_l3]
  unfold workers_play_j6
  by_cases hlt : i < q29.length
  ·have hd : cnt (q29.drop i) e.Value = (if q29[i] = e.Value then 1 else 0) + cnt (q29.drop (i + 1)) e.Value := by
    rw [List.drop_eq_getElem_cons hlt, cnt_cons]
   rw [if_pos (lt_dec hlt), gidx_nat, getElem?_lt hlt, bsome]
   by_cases hv : q29[i] = e.Value
   ·rw [if_pos (by simpa using hv), gadd_nat (by omega), bsome, gadd_nat (by omega), bsome, ih (c + 1) (i + 1) (by omega) (by omega) (by omega), hd, if_pos hv, show c + 1 + cnt (q29.drop (i + 1)) e.Value = c + (1 + cnt (q29.drop (i + 1)) e.Value) by omega]
   ·rw [if_neg (by simpa using hv), gadd_nat (by omega), bsome, ih c (i + 1) (by omega) (by omega) (by omega), hd, if_neg hv, Nat.zero_add]
  ·rw [if_neg (nlt_dec hlt), List.drop_of_length_le (by omega)]
   have e0 : cnt [] e.Value = 0 := rfl
   rw [e0, Nat.add_zero]
   by_cases hn : need ≤ (c : Int)
   ·rw [if_pos (by simpa using hn), if_pos hn]
   ·rw [if_neg (by simpa using hn), if_neg hn]
def evs : List Int → Nat → List Evt
 | [], _ => []
 | v :: r, i => ⟨1, i, 0, 0⟩ :: ⟨2, i, 0, v⟩ :: evs r (i + 1)
theorem evs_len : ∀ (l : List Int) (i : Nat), (evs l i).length = 2 * l.length
 | [], _ => rfl
 | v :: r, i => by simp [evs, evs_len r (i + 1)]; omega
theorem evs_snoc : ∀ (l : List Int) (v : Int) (i : Nat), evs (l ++ [v]) i = evs l i ++ [⟨1, ((i + l.length : Nat) : Int), 0, 0⟩] ++ [⟨2, ((i + l.length : Nat) : Int), 0, v⟩]
 | [], v, i => by simp [evs]
 | x :: r, v, i => by
  rw [List.cons_append, evs, evs_snoc r v (i + 1), evs]
  simp only [List.cons_append, List.length_cons, List.cons.injEq, true_and]
  rw [show i + 1 + r.length = i + (r.length + 1) by omega]
theorem evs_at : ∀ (l : List Int) (i k : Nat) (h : k < l.length), (evs l i)[2 * k]? = some ⟨1, ((i + k : Nat) : Int), 0, 0⟩ ∧ (evs l i)[2 * k + 1]? = some ⟨2, ((i + k : Nat) : Int), 0, l[k]⟩
 | v :: r, i, 0, _ => ⟨rfl, rfl⟩
 | v :: r, i, k + 1, h => by
  have := evs_at r (i + 1) k (by simpa using h)
  rw [evs, show 2 * (k + 1) = 2 * k + 2 by omega, show 2 * k + 2 + 1 = (2 * k + 1) + 2 by omega]
  simp only [List.getElem?_cons_succ, List.getElem_cons_succ]
  rw [show i + (k + 1) = i + 1 + k by omega]
  exact this
def accV (need : Int) (vs : List Int) : Nat → Int
 | 0 => -1
 | k + 1 => if accV need vs k < 0 ∧ need ≤ (cnt (vs.take (k + 1)) (vs.getD k 0) : Nat) then vs.getD k 0 else accV need vs k
def Rk (vs : List Int) (k : Nat) : List Int := vs.take k ++ List.replicate (vs.length - k) (-1)
theorem Rk_len (vs : List Int) (k : Nat) (h : k ≤ vs.length) : (Rk vs k).length = vs.length := by simp [Rk]; omega
theorem Rk_set (vs : List Int) (k : Nat) (h : k < vs.length) : (Rk vs k).set k vs[k] = Rk vs (k + 1) := by
 unfold Rk
 refine List.ext_getElem (by simp; omega) fun j h1 h2 => ?_
 rw [List.getElem_set]
 by_cases hij : k = j
 ·subst hij
  rw [if_pos rfl, List.getElem_append_left (by simp; omega), List.getElem_take]
 ·rw [if_neg hij]
  by_cases hj : j < k
  ·rw [List.getElem_append_left (by simp; omega), List.getElem_append_left (by simp; omega), List.getElem_take, List.getElem_take]
  ·rw [List.getElem_append_right (by simp; omega), List.getElem_append_right (by simp; omega)]
   simp
theorem Rk_at (vs : List Int) (k : Nat) (h : k < vs.length) : (Rk vs k)[k]? = some (-1) := by
 unfold Rk
 rw [List.getElem?_append_right (by rw [List.length_take]; omega), List.getElem?_replicate, if_pos (by rw [List.length_take]; omega)]
theorem Rk_cnt (vs : List Int) (k : Nat) (v : Int) (hv : 0 ≤ v) : cnt (Rk vs k) v = cnt (vs.take k) v := by
 unfold cnt Rk
 rw [List.filter_append]
 have : (List.replicate (vs.length - k) (-1 : Int)).filter (fun x => decide (x = v)) = [] := by
  rw [List.filter_eq_nil_iff]
  intro x hx
  have := List.eq_of_mem_replicate hx
  simp; omega
 rw [this, List.append_nil]
theorem play_l2 (need : Int) (vs : List Int) (hW : vs.length ≤ 8) (hv : ∀ v ∈ vs, 0 ≤ v ∧ v ≤ 1000000000) : ∀ (d k m : Nat), d = vs.length - k → k ≤ vs.length → 2 * d < m →
  workers_play_l2 200 need (evs vs 0) m (List.replicate vs.length (-1)) [Rk vs k] [accV need vs k] ((2 * k : Nat) : Int) = some (some ⟨need, List.replicate vs.length (-1), [Rk vs vs.length], [accV need vs vs.length]⟩, ⟨0, 0⟩) := by
 intro d
 induction d with
 | zero =>
  intro k m hd hk hm
  have hkk : k = vs.length := by omega
  subst hkk
  obtain ⟨m, rfl⟩ : ∃ m', m = m' + 1 := ⟨m - 1, by omega⟩
  rw [workers_play_l2, if_neg (by rw [evs_len]; exact nlt_dec (by omega))]
 | succ d ih =>
  intro k m hd hk hm
  have hlt : k < vs.length := by omega
  obtain ⟨m, rfl⟩ : ∃ m', m = m' + 2 := ⟨m - 2, by omega⟩
  obtain ⟨e1, e2⟩ := evs_at vs 0 k hlt
  rw [Nat.zero_add] at e1 e2
  have hvk := hv _ (List.getElem_mem hlt)
  have hr1 : (List.replicate vs.length (-1 : Int))[k]? = some (-1) := by rw [List.getElem?_replicate, if_pos hlt]
  -- the assignment
  rw [workers_play_l2, if_pos (by rw [evs_len]; exact lt_dec (by omega)), gidx_nat, e1, bsome, if_neg (by simp)]
  show workers_play_j8 200 need _ _ _ _ (workers_play_l2 200 need (evs vs 0) (m + 1)) ⟨1, k, 0, 0⟩ false = _
  unfold workers_play_j8
  rw [if_neg (by decide), if_neg (by simp), decide_eq_false (by simp; omega)]
  unfold workers_play_j9
  rw [if_neg (by decide), if_neg (by simp), if_pos (by simp), decide_eq_false (by simp)]
  unfold workers_play_j10
  rw [if_neg (by decide), if_pos (by simp), if_neg (by simp), if_neg (by simp), if_neg (by simp)]
  unfold workers_play_j11
  rw [if_neg (by decide)]
  unfold workers_play_j3
  rw [if_neg (by decide)]
  show ((gidx (List.replicate vs.length (-1 : Int)) (k : Int)).bind fun e20 => _) = _
  rw [gidx_nat, hr1, bsome, if_pos (by simp), if_neg (by simp)]
  show ((gidx [Rk vs k] ((0 : Nat) : Int)).bind fun q24 => (gidx q24 (k : Int)).bind fun e25 => _) = _
  rw [gidx_nat]
  show ((gidx (Rk vs k) (k : Int)).bind fun e25 => _) = _
  rw [gidx_nat, Rk_at vs k hlt, bsome, if_neg (by decide)]
  unfold workers_play_j4 workers_play_j2
  rw [if_neg (by decide), gadd_nat (by omega), bsome]
  -- the report
  show workers_play_l2 200 need (evs vs 0) (m + 1) (gset (List.replicate vs.length (-1)) (k : Int) 0) [Rk vs k] [accV need vs k] ((2 * k + 1 : Nat) : Int) = _
  rw [gset_nat, workers_play_l2, if_pos (by rw [evs_len]; exact lt_dec (by omega)), gidx_nat, e2, bsome, if_neg (by simp)]
  show workers_play_j8 200 need _ _ _ _ (workers_play_l2 200 need (evs vs 0) m) ⟨2, k, 0, vs[k]⟩ false = _
  unfold workers_play_j8
  rw [if_neg (by decide), if_neg (by simp), decide_eq_false (by simp; omega)]
  unfold workers_play_j9
  rw [if_neg (by decide), if_pos (by simp), if_neg (by simp), if_neg (by simp)]
  unfold workers_play_j10
  rw [if_neg (by decide), if_neg (by simp), if_pos (by simp), if_neg (by simp; omega), decide_eq_false (by simp; omega)]
  unfold workers_play_j11
  rw [if_neg (by decide)]
  unfold workers_play_j3
  rw [if_neg (by decide)]
  show ((gidx ((List.replicate vs.length (-1 : Int)).set k 0) (k : Int)).bind fun e20 => _) = _
  rw [gidx_nat, List.getElem?_set_self (by simpa using hlt), bsome, if_neg (by simp), if_pos (by simp), if_neg (by simp)]
  show ((gidx [Rk vs k] ((0 : Nat) : Int)).bind fun q26 => (gidx q26 (k : Int)).bind fun e27 => (gidx (gset [Rk vs k] 0 (gset q26 (k : Int) vs[k])) 0).bind fun q29 => _) = _
  rw [gidx_nat]
  show ((gidx (Rk vs k) (k : Int)).bind fun e27 => (gidx (gset [Rk vs k] 0 (gset (Rk vs k) (k : Int) vs[k])) 0).bind fun q29 => _) = _
  rw [gidx_nat, Rk_at vs k hlt, bsome, gset_nat, Rk_set vs k hlt]
  show workers_play_l3 200 need _ [Rk vs k] [accV need vs k] ((2 * k + 1 : Nat) : Int) (workers_play_l2 200 need (evs vs 0) m) ⟨2, k, 0, vs[k]⟩ 0 (Rk vs k) (Rk vs (k + 1)) 200 ((0 : Nat) : Int) ((0 : Nat) : Int) = _
  rw [l3_eq _ _ _ _ _ _ _ _ _ _ (by rw [Rk_len _ _ (by omega)]; omega) 200 0 0 (by rw [Rk_len _ _ (by omega)]; omega) (by omega) (by omega), List.drop_zero, Nat.zero_add, Rk_cnt _ _ _ hvk.1]
  have hg : vs.getD k 0 = vs[k] := by rw [List.getD_eq_getElem?_getD, getElem?_lt hlt, Option.getD_some]
  have hset : ((List.replicate vs.length (-1 : Int)).set k 0).set k (-1) = List.replicate vs.length (-1) := by
   rw [List.set_set]
   refine List.ext_getElem (by simp) fun j h1 h2 => ?_
   rw [List.getElem_set]
   simp
  have fin : ∀ z, z = accV need vs (k + 1) → workers_play_j5 200 ((List.replicate vs.length (-1 : Int)).set k 0) [Rk vs k] ((2 * k + 1 : Nat) : Int) (workers_play_l2 200 need (evs vs 0) m) ⟨2, k, 0, vs[k]⟩ 0 (Rk vs k) [z] = some (some ⟨need, List.replicate vs.length (-1), [Rk vs vs.length], [accV need vs vs.length]⟩, ⟨0, 0⟩) := by
   intro z hz
   subst hz
   unfold workers_play_j5 workers_play_j4 workers_play_j2
   rw [if_neg (by decide), gadd_nat (by omega), bsome]
   show workers_play_l2 200 need (evs vs 0) m (gset ((List.replicate vs.length (-1 : Int)).set k 0) (k : Int) (-1)) [gset (Rk vs k) (k : Int) vs[k]] [accV need vs (k + 1)] ((2 * (k + 1) : Nat) : Int) = _
   rw [gset_nat, gset_nat, hset, Rk_set vs k hlt]
   exact ih (k + 1) m (by omega) (by omega) (by omega)
  have ha : accV need vs (k + 1) = if accV need vs k < 0 ∧ need ≤ (cnt (vs.take (k + 1)) vs[k] : Nat) then vs[k] else accV need vs k := by
   rw [accV, hg]
  by_cases hn : need ≤ (cnt (vs.take (k + 1)) vs[k] : Nat)
  ·rw [if_pos hn]
   show workers_play_j7 200 _ _ [accV need vs k] _ _ ⟨2, k, 0, vs[k]⟩ 0 (Rk vs k) (decide (accV need vs k < 0)) = _
   unfold workers_play_j7
   by_cases hc : accV need vs k < 0
   ·have hgi : gidx [accV need vs k] (0 : Int) = some (accV need vs k) := rfl
    have hgs : gset [accV need vs k] (0 : Int) vs[k] = [vs[k]] := rfl
    rw [if_pos (by simpa using hc), hgi, bsome, hgs]
    exact fin vs[k] (by rw [ha, if_pos ⟨hc, hn⟩])
   ·rw [if_neg (by simpa using hc)]
    exact fin (accV need vs k) (by rw [ha, if_neg fun h => hc h.1])
  ·rw [if_neg hn]
   unfold workers_play_j7
   rw [if_neg (by decide)]
   exact fin (accV need vs k) (by rw [ha, if_neg fun h => hn h.2])
theorem Play_eq (need : Nat) (vs : List Int) (h1 : 1 ≤ need) (h2 : need ≤ vs.length) (hW : vs.length ≤ 8) (hv : ∀ v ∈ vs, 0 ≤ v ∧ v ≤ 1000000000) : workers_Play 200 1 (vs.length : Int) (need : Int) (evs vs 0) = some ([accV need vs vs.length], ⟨0, 0⟩) := by
 unfold workers_Play workers_play
 rw [if_neg (by simp), if_neg (by simp), if_neg (by simp; omega), if_neg (by simp; omega), if_neg (by simp; omega), decide_eq_false (by omega)]
 unfold workers_play_j1
 have hf := fill_eq vs.length (by omega) (-1)
 have hf1 : workers_fill 200 1 (-1) = some [-1] := fill_eq 1 (by omega) (-1)
 rw [if_neg (by decide), if_neg (by rw [evs_len]; simp; omega), hf, bsome, hf1, bsome, workers_play_l1, if_pos (by simp), hf, bsome, gapp_ok (by simp), bsome]
 show ((workers_play_l1 200 1 (vs.length : Int) (need : Int) (evs vs 0) (List.replicate vs.length (-1)) [-1] 199 [List.replicate vs.length (-1)] 1).bind fun r1 => _) = _
 rw [workers_play_l1, if_neg (by simp)]
 have h := play_l2 need vs hW hv vs.length 0 200 (by omega) (by omega) (by omega)
 have e : Rk vs 0 = List.replicate vs.length (-1) := by simp [Rk]
 rw [e, show accV (need : Int) vs 0 = -1 from rfl] at h
 show ((workers_play_l2 200 (need : Int) (evs vs 0) 200 (List.replicate vs.length (-1)) [List.replicate vs.length (-1)] [-1] ((2 * 0 : Nat) : Int)).bind fun r1 => _) = _
 rw [h, bsome, if_neg fault_none, bsome]
theorem cnt_app (a b : List Int) (v : Int) : cnt (a ++ b) v = cnt a v + cnt b v := by
 unfold cnt; rw [List.filter_append, List.length_append]
theorem cnt_rep (n : Nat) (x v : Int) : cnt (List.replicate n x) v = if x = v then n else 0 := by
 unfold cnt
 by_cases h : x = v
 ·rw [if_pos h, List.filter_replicate, if_pos (by simpa using h), List.length_replicate]
 ·rw [if_neg h, List.filter_replicate, if_neg (by simpa using h), List.length_nil]
theorem cnt_take (l : List Int) (k : Nat) (v : Int) : cnt (l.take k) v ≤ cnt l v := by
 conv => rhs; rw [← List.take_append_drop k l, cnt_app]
 omega
theorem acc_truth (need : Nat) (lies : List Int) (tr : Int) (h1 : 1 ≤ need) (hl : lies.length < need) (ht : 0 ≤ tr) : accV need (lies ++ List.replicate need tr) (lies ++ List.replicate need tr).length = tr := by
 have hlen : (lies ++ List.replicate need tr).length = lies.length + need := by simp
 have inv : ∀ k, k ≤ lies.length + need → accV need (lies ++ List.replicate need tr) k = tr ∨ accV need (lies ++ List.replicate need tr) k = -1 := by
  intro k
  induction k with
  | zero => intro _; exact .inr rfl
  | succ k ih =>
   intro hk
   rw [accV]
   split
   ·rename_i hc
    refine .inl (Decidable.byContradiction fun hne => ?_)
    have h3 := cnt_take (lies ++ List.replicate need tr) (k + 1) ((lies ++ List.replicate need tr).getD k 0)
    rw [cnt_app lies, cnt_rep, if_neg (fun e => hne e.symm)] at h3
    have h4 := cnt_le lies ((lies ++ List.replicate need tr).getD k 0)
    have := hc.2
    omega
   ·exact ih (by omega)
 rw [hlen]
 rcases inv (lies.length + need) (by omega) with h | h
 ·exact h
 ·obtain ⟨k, hk⟩ : ∃ k, lies.length + need = k + 1 := ⟨lies.length + need - 1, by omega⟩
  rw [hk] at h ⊢
  rw [accV] at h ⊢
  have hg : (lies ++ List.replicate need tr).getD k 0 = tr := by
   rw [List.getD_eq_getElem?_getD, List.getElem?_append_right (by omega), List.getElem?_replicate, if_pos (by omega), Option.getD_some]
  rw [hg] at h ⊢
  have hc : cnt ((lies ++ List.replicate need tr).take (k + 1)) tr = cnt lies tr + need := by
   rw [List.take_of_length_le (by rw [hlen]; omega), cnt_app, cnt_rep, if_pos rfl]
  rw [hc] at h ⊢
  by_cases hn : accV need (lies ++ List.replicate need tr) k < 0
  ·rw [if_pos ⟨hn, by omega⟩]
  ·rw [if_neg fun h => hn h.1] at h
   omega
end Go.Proofs.YtlkknmhhefjmjaaGreatDoor
namespace Go.Proofs.YtlkknmhhefjmjaaGreatDoor
open Go.PW Go
theorem honest_l2 (need : Nat) (lies : List Int) (d : Int) (tr : Int) (h1 : 1 ≤ need) (h4 : need ≤ 4) (hl : lies.length < need) (ht : 0 ≤ tr ∧ tr ≤ 1000000000) (hv : ∀ v ∈ lies, 0 ≤ v ∧ v ≤ 1000000000) : ∀ (m j : Nat), need - j < m → j ≤ need →
  top_TopHonestReplaysDecide_l2 200 (need : Int) (d, ⟨0, 0⟩) tr ((lies.length + need : Nat) : Int) m (evs (lies ++ List.replicate j tr) 0) ((lies.length + j : Nat) : Int) = some true := by
 intro m
 induction m with
 | zero => intro j h; omega
 | succ m ih =>
  intro j h hj
  rw [top_TopHonestReplaysDecide_l2]
  by_cases hlt : j < need
  ·have h2 := ih (j + 1) (by omega) (by omega)
   have e : lies ++ List.replicate (j + 1) tr = (lies ++ List.replicate j tr) ++ [tr] := by rw [List.replicate_succ', List.append_assoc]
   have hlen : (lies ++ List.replicate j tr).length = lies.length + j := by simp
   rw [e, evs_snoc, hlen, Nat.zero_add] at h2
   have hel : (evs (lies ++ List.replicate j tr) 0).length = 2 * (lies.length + j) := by rw [evs_len, hlen]
   rw [if_pos (lt_dec (by omega)), gapp_ok (by rw [hel]; simp; omega), bsome, gapp_ok (by rw [List.length_append, hel]; simp; omega), bsome, gadd_nat (by omega), bsome]
   exact h2
  ·have hjn : j = need := by omega
   subst hjn
   have hlen : (lies ++ List.replicate j tr).length = lies.length + j := by simp
   have hp := Play_eq j (lies ++ List.replicate j tr) h1 (by omega) (by omega) (fun v hm => by
    rcases List.mem_append.1 hm with hm | hm
    ·exact hv v hm
    ·rw [List.eq_of_mem_replicate hm]; exact ht)
   rw [acc_truth j lies tr h1 hl ht.1, hlen] at hp
   rw [if_neg (nlt_dec (by omega)), hp, bsome, if_pos (by rfl), if_pos (by rfl), ints_self [tr] (by simp), bsome]
   rfl
theorem honest_l1 (need : Nat) (lies : List Int) (d : Int) (tr : Int) (h1 : 1 ≤ need) (h4 : need ≤ 4) (hl : lies.length < need) (ht : 0 ≤ tr ∧ tr ≤ 1000000000) : ∀ (m i : Nat), lies.length - i < m → i ≤ lies.length → (∀ v ∈ lies.take i, 0 ≤ v ∧ v ≤ 1000000000) →
  top_TopHonestReplaysDecide_l1 200 (need : Int) lies (d, ⟨0, 0⟩) tr m (evs (lies.take i) 0) (i : Int) = some true := by
 intro m
 induction m with
 | zero => intro i h; omega
 | succ m ih =>
  intro i h hi hv
  rw [top_TopHonestReplaysDecide_l1]
  by_cases hlt : i < lies.length
  ·have hin : top_kernIn 200 lies[i] 0 1000000000 = some (decide (0 ≤ lies[i] ∧ lies[i] ≤ 1000000000)) := by
    unfold top_kernIn top_kernIn_j1
    by_cases h0 : 0 ≤ lies[i]
    ·rw [if_pos (by simpa using h0)]; simp [h0]
    ·rw [if_neg (by simpa using h0)]; simp [h0]
   rw [if_pos (lt_dec hlt), gidx_nat, getElem?_lt hlt, bsome, hin, bsome]
   by_cases hr : 0 ≤ lies[i] ∧ lies[i] ≤ 1000000000
   ·have e : lies.take (i + 1) = lies.take i ++ [lies[i]] := by rw [List.take_add_one, getElem?_lt hlt]; rfl
    have h2 := ih (i + 1) (by omega) (by omega) (fun v hm => by
     rw [e] at hm
     rcases List.mem_append.1 hm with hm | hm
     ·exact hv v hm
     ·rw [List.mem_singleton.1 hm]; exact hr)
    have hlen : (lies.take i).length = i := by rw [List.length_take]; omega
    rw [e, evs_snoc, hlen, Nat.zero_add] at h2
    have hel : (evs (lies.take i) 0).length = 2 * i := by rw [evs_len, hlen]
    rw [if_neg (by simp [hr]), gapp_ok (by rw [hel]; simp; omega), bsome, gapp_ok (by rw [List.length_append, hel]; simp; omega), bsome, gadd_nat (by omega), bsome]
    exact h2
   ·rw [if_pos (by simp only [decide_eq_false hr]; rfl)]
  ·have hie : i = lies.length := by omega
   subst hie
   rw [List.take_length] at hv ⊢
   have hadd : gadd (lies.length : Int) (need : Int) = some ((lies.length + need : Nat) : Int) := by
    unfold gadd
    rw [gchk_ok (by omega)]
    rfl
   rw [if_neg (nlt_dec hlt), hadd, bsome]
   have := honest_l2 need lies d tr h1 h4 hl ht hv 200 0 (by omega) (by omega)
   rw [List.replicate_zero, List.append_nil] at this
   exact this
theorem run_cases (a : SInputsOpsOutput) (t : SFiles) (hf : ∀ f ∈ t.Files, f.Path.length ≤ reachBytes) : ∃ r, sandbox_Run 200 a t = some r ∧ (r.2.Code ≠ 0 ∧ r.1 = [] ∨ r.2 = ⟨0, 0⟩ ∧ lines_Validate 200 r.1 = some ⟨0, 0⟩) := by
 obtain ⟨q, q1, q2, q3⟩ := args_cases a t hf
 by_cases hq : q.Code = 0
 ·have := q2.resolve_right (fun h => h hq); subst this
  exact run_valid a t (q3 rfl) q1
 ·refine ⟨([], q), ?_, .inl ⟨hq, rfl⟩⟩
  unfold sandbox_Run
  rw [q1, bsome, if_pos (fault_ne hq)]
theorem topHonest_eq (a : SInputsOpsOutput) (t : SFiles) (need : Int) (lies : List Int) (hf : ∀ f ∈ t.Files, f.Path.length ≤ reachBytes) : top_TopHonestReplaysDecide 200 a t need lies = some true := by
 unfold top_TopHonestReplaysDecide
 obtain ⟨r, r1, r2⟩ := run_cases a t hf
 rw [kern_eq, bsome, if_neg (by decide), r1, bsome]
 rcases r2 with ⟨hc, hl⟩ | ⟨hc, hv⟩
 ·rw [if_pos (by simpa using hc)]
  unfold top_TopHonestReplaysDecide_j1 top_TopHonestReplaysDecide_j2
  rw [if_pos rfl, if_neg (by simpa using hc), hl]
  rfl
 ·have hj : top_TopHonestReplaysDecide_j1 200 need lies r true = some true := by
   unfold top_TopHonestReplaysDecide_j1 top_TopHonestReplaysDecide_j2
   rw [if_pos rfl, if_pos (by rw [hc]; rfl)]
  have hin : top_kernIn 200 need 1 4 = some (decide (1 ≤ need ∧ need ≤ 4)) := by
   unfold top_kernIn top_kernIn_j1
   by_cases h0 : 1 ≤ need
   ·rw [if_pos (by simpa using h0)]; simp [h0]
   ·rw [if_neg (by simpa using h0)]; simp [h0]
  rw [if_neg (by rw [hc]; simp), hin, bsome]
  by_cases hn : 1 ≤ need ∧ need ≤ 4
  ·rw [if_neg (by simp [hn])]
   by_cases hl : need ≤ (lies.length : Int)
   ·rw [decide_eq_true hl]
    exact hj
   ·rw [decide_eq_false hl]
    obtain ⟨k, rfl⟩ : ∃ k : Nat, need = k := ⟨need.toNat, by omega⟩
    obtain ⟨l, f⟩ := r
    have hc : f = ⟨0, 0⟩ := hc
    subst hc
    have hdg := sumList_dg l
    unfold top_TopHonestReplaysDecide_j1
    rw [if_neg (by decide), strs_eq _ (lines_ln hv), bsome]
    have hrem : grem (sumList l) 1000000000 = some ((sumList l).tmod 1000000000) := by
     unfold grem
     rw [if_neg (by decide)]
    show ((grem (sumList l) 1000000000).bind fun x6 => top_TopHonestReplaysDecide_l1 200 (k : Int) lies (sumList l, ⟨0, 0⟩) x6 200 [] 0) = _
    rw [hrem, bsome]
    have h0 : 0 ≤ sumList l := hdg.1
    have hm : 0 ≤ (sumList l).tmod 1000000000 ∧ (sumList l).tmod 1000000000 ≤ 1000000000 := by
     rw [Int.tmod_eq_emod_of_nonneg h0]
     omega
    exact honest_l1 k lies (sumList l) _ (by omega) (by omega) (by omega) hm 200 0 (by omega) (by omega) (by simp)
  ·rw [if_pos (by simp only [decide_eq_false hn]; rfl)]
   exact hj
end Go.Proofs.YtlkknmhhefjmjaaGreatDoor
