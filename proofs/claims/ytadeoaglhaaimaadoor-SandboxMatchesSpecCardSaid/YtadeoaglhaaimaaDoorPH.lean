/- The plain laws: an action has the same result on the files that it may access as on the whole tree. -/
import Derived.Test.YtadeoaglhaaimaaDoorP9
namespace Go.Proofs.YtadeoaglhaaimaaDoor
open Go.PW Go

/-- the files that are inputs -/
def inp (a : SInputsOpsOutput) (l : List SPathLines) : List SPathLines := l.filter fun f => decide (f.Path ∈ a.Inputs)
theorem clone_eq (l : List (List UInt8)) (h : l.length * 16 ≤ big) : slices_Clone_string 200 l = some l := by
  unfold slices_Clone_string gapp
  rw [if_pos (by simpa using h), bsome]
  rfl
theorem restrict_l1 (a : SInputsOpsOutput) (fs : List SPathLines) (hi : a.Inputs.length ≤ 8) (hl : fs.length ≤ 24) : ∀ (m : Nat) (w : List SPathLines) (x y : Nat), fs.length - y < m → w.length = fs.length → x ≤ y → y ≤ fs.length → w.take x = inp a (fs.take y) → w.drop y = fs.drop y →
    sandbox_Restrict_l1 200 a m w (x : Int) (y : Int) = some (⟨inp a fs⟩, ⟨0, 0⟩) := by
  intro m
  induction m with
  | zero => intro w x y h; omega
  | succ m ih =>
    intro w x y h hw hxy hy ht hd
    rw [sandbox_Restrict_l1]
    unfold sandbox_Restrict_j5 sandbox_Restrict_j4 sandbox_Restrict_j2
    by_cases hlt : y < w.length
    · have hyl : y < fs.length := by omega
      have hg : w[y] = fs[y] := by
        have h1 : (w.drop y)[0]? = (fs.drop y)[0]? := by rw [hd]
        simp only [List.getElem?_drop, Nat.add_zero, getElem?_lt hlt, getElem?_lt hyl] at h1
        exact Option.some.inj h1
      have htk : fs.take (y + 1) = fs.take y ++ [fs[y]] := by rw [List.take_add_one, getElem?_lt hyl]; rfl
      rw [if_pos (lt_dec hlt), gidx_nat, getElem?_lt hlt, bsome, contains_eq _ _ (by omega), bsome, hg, gadd_nat (show y < 1000000 by omega)]
      simp only [bsome]
      by_cases hm : fs[y].Path ∈ a.Inputs
      · rw [if_pos (by simp [hm]), gidx_nat, getElem?_lt (show x < w.length by omega), bsome, gadd_nat (by omega), bsome, gset_nat]
        refine ih _ (x + 1) (y + 1) (by omega) (by simp; omega) (by omega) (by omega) ?_ ?_
        · have h1 : (w.set x fs[y]).take (x + 1) = w.take x ++ [fs[y]] := by
            rw [List.take_add_one, List.take_set_of_le (Nat.le_refl _), List.getElem?_set_self (by omega)]
            rfl
          rw [h1, htk, ht]
          unfold inp
          rw [List.filter_append]
          simp [hm]
        · rw [List.drop_set_of_lt (by omega)]
          have h1 : w.drop (y + 1) = (w.drop y).drop 1 := by simp
          have h2 : fs.drop (y + 1) = (fs.drop y).drop 1 := by simp
          rw [h1, h2, hd]
      · rw [if_neg (by simp [hm])]
        refine ih w x (y + 1) (by omega) hw (by omega) (by omega) ?_ ?_
        · rw [htk, ht]
          unfold inp
          rw [List.filter_append]
          simp [hm]
        · have h1 : w.drop (y + 1) = (w.drop y).drop 1 := by simp
          have h2 : fs.drop (y + 1) = (fs.drop y).drop 1 := by simp
          rw [h1, h2, hd]
    · have hye : y = fs.length := by omega
      rw [if_neg (nlt_dec hlt), gcut_nat (by omega) (Nat.le_refl _), bsome]
      have e4 : ((x : Int)).toNat = x := by omega
      have e5 : ((w.length : Nat) : Int).toNat = w.length := by omega
      rw [e4, e5, gcut_take (by unfold gclear; simp; omega), bsome]
      have : (gclear w x w.length (⟨[], []⟩ : SPathLines)).take x = inp a fs := by
        unfold gclear
        rw [List.append_assoc, List.take_append_of_le_length (by simp; omega), List.take_take, Nat.min_self, ht, hye, List.take_length]
      rw [this]
theorem restrict_l2 (a : SInputsOpsOutput) (fs : List SPathLines) (hi : a.Inputs.length ≤ 8) (hl : fs.length ≤ 24) : ∀ (m i : Nat), fs.length - i < m → i ≤ fs.length → (∀ f ∈ fs.take i, f.Path ∈ a.Inputs) →
    sandbox_Restrict_l2 200 a fs m (i : Int) = some (⟨inp a fs⟩, ⟨0, 0⟩) := by
  intro m
  induction m with
  | zero => intro i h; omega
  | succ m ih =>
    intro i h hil hall
    rw [sandbox_Restrict_l2]
    unfold sandbox_Restrict_j6 sandbox_Restrict_j3
    by_cases hlt : i < fs.length
    · have htk : fs.take (i + 1) = fs.take i ++ [fs[i]] := by rw [List.take_add_one, getElem?_lt hlt]; rfl
      have hself : inp a (fs.take i) = fs.take i := by unfold inp; rw [List.filter_eq_self]; intro f hf; simpa using hall f hf
      rw [if_pos (lt_dec hlt), gidx_nat, getElem?_lt hlt, bsome, contains_eq _ _ (by omega), bsome, gadd_nat (by omega)]
      simp only [bsome]
      by_cases hm : fs[i].Path ∈ a.Inputs
      · rw [if_neg (by simp [hm])]
        refine ih (i + 1) (by omega) (by omega) ?_
        intro f hf
        rw [htk] at hf
        rcases List.mem_append.1 hf with hf | hf
        · exact hall f hf
        · simp at hf; subst hf; exact hm
      · rw [if_pos (by simp [hm]), if_neg (by simp)]
        refine restrict_l1 a fs hi hl 200 fs i (i + 1) (by omega) rfl (by omega) (by omega) ?_ rfl
        rw [htk]
        unfold inp at hself ⊢
        rw [List.filter_append, hself]
        simp [hm]
    · rw [if_neg (nlt_dec hlt), if_pos (by simp)]
      unfold sandbox_Restrict_j2
      have : i = fs.length := by omega
      rw [this, List.take_length] at hall
      have : inp a fs = fs := by unfold inp; rw [List.filter_eq_self]; intro f hf; simpa using hall f hf
      rw [this]
theorem restrict_l3 (a : SInputsOpsOutput) (t : SFiles) (hi : a.Inputs.length ≤ 8) (hl : t.Files.length ≤ 24) (hf : ∀ f ∈ t.Files, f.Lines.length * 16 ≤ big) : ∀ (m i : Nat), t.Files.length - i < m → i ≤ t.Files.length →
    sandbox_Restrict_l3 200 a t m (t.Files.take i) (i : Int) = some (⟨inp a t.Files⟩, ⟨0, 0⟩) := by
  intro m
  induction m with
  | zero => intro i h; omega
  | succ m ih =>
    intro i h hil
    rw [sandbox_Restrict_l3]
    unfold sandbox_Restrict_j1
    by_cases hlt : i < t.Files.length
    · have htk : t.Files.take (i + 1) = t.Files.take i ++ [t.Files[i]] := by rw [List.take_add_one, getElem?_lt hlt]; rfl
      rw [if_pos (lt_dec hlt), gidx_nat, getElem?_lt hlt, bsome, clone_eq _ (hf _ (List.getElem_mem hlt)), bsome, gapp_ok (by simp; omega), bsome, gadd_nat (by omega), bsome]
      have := ih (i + 1) (by omega) (by omega)
      rw [htk] at this
      exact this
    · rw [if_neg (nlt_dec hlt)]
      have : i = t.Files.length := by omega
      rw [this, List.take_length]
      exact restrict_l2 a t.Files hi hl 200 0 (by omega) (by omega) (by simp)
theorem restrict_eq (a : SInputsOpsOutput) (t : SFiles) (hi : a.Inputs.length ≤ 8) (hl : t.Files.length ≤ 24) (hf : ∀ f ∈ t.Files, f.Lines.length * 16 ≤ big) (h : sandbox_Arguments 200 a t = some ⟨0, 0⟩) : sandbox_Restrict 200 a t = some (⟨inp a t.Files⟩, ⟨0, 0⟩) := by
  unfold sandbox_Restrict
  rw [h, bsome, if_neg fault_none]
  have := restrict_l3 a t hi hl hf 200 0 (by omega) (by omega)
  rw [List.take_zero] at this
  exact this

/-! ### trees -/
/-- two files, one ahead of the other -/
def Ahead (f g : SPathLines) : Prop := Op.bytesLess f.Path g.Path = true ∧ ¬ Rel f.Path g.Path
/-- what a valid tree is -/
def TreeOk (fs : List SPathLines) : Prop := fs.Pairwise Ahead ∧ ∀ f ∈ fs, libValidPath f.Path = true ∧ lines_Validate 200 f.Lines = some ⟨0, 0⟩
theorem linesSecond_none {l : List (List UInt8)} {k : Int} (h : lines_Second 200 l k = some ⟨0, 0⟩) : lines_Validate 200 l = some ⟨0, 0⟩ := by
  obtain ⟨r, h1, h2⟩ := linesV l
  unfold lines_Second at h
  rw [h1, bsome] at h
  rcases h2 with rfl | h2
  · exact h1
  · rw [if_pos (fault_ne h2)] at h
    exact absurd (congrArg SCodeIndex.Code (Option.some.inj h)) h2
theorem tree_facts (t : SFiles) (hl : t.Files.length ≤ 24) (hf : ∀ f ∈ t.Files, f.Path.length < big) : ∀ (m i : Nat), t.Files.length - i < m → treepatch_Validate_l1 200 t m (i : Int) = some ⟨0, 0⟩ →
    ∀ (j : Nat) (hj : j < t.Files.length), i ≤ j → libValidPath t.Files[j].Path = true ∧ lines_Validate 200 t.Files[j].Lines = some ⟨0, 0⟩ ∧ ∀ f ∈ t.Files.take j, ¬ Rel f.Path t.Files[j].Path := by
  intro m
  induction m with
  | zero => intro i h; omega
  | succ m ih =>
    intro i h h0 j hj hij
    rw [treepatch_Validate_l1] at h0
    unfold treepatch_ValidPath at h0
    have hi : i < t.Files.length := by omega
    rw [if_pos (lt_dec hi), gidx_nat, getElem?_lt hi, bsome, bsome] at h0
    have tail : ∀ b : Bool, treepatch_Validate_j1 200 t (i : Int) (treepatch_Validate_l1 200 t m) t.Files[i] b = some ⟨0, 0⟩ →
        treepatch_Validate_l1 200 t m ((i + 1 : Nat) : Int) = some ⟨0, 0⟩ ∧ lines_Validate 200 t.Files[i].Lines = some ⟨0, 0⟩ ∧ ∀ f ∈ t.Files.take i, ¬ Rel f.Path t.Files[i].Path := by
      intro b hb
      unfold treepatch_Validate_j1 at hb
      cases b with
      | true =>
        rw [if_pos rfl] at hb
        have := congrArg SCodeIndex.Code (Option.some.inj hb)
        simp at this
      | false =>
        rw [if_neg (by simp), gcut_take (by omega), bsome] at hb
        have h2 := clash_eq (t.Files.take i) t.Files[i].Path (by simp; omega) (hf _ (List.getElem_mem hi)) (fun f h => hf f (List.mem_of_mem_take h)) 200 0 (by simp; omega)
        have h2' : treepatch_Clash 200 (t.Files.take i) t.Files[i].Path (-1) = some (decide (∃ f ∈ t.Files.take i, Rel f.Path t.Files[i].Path)) := by unfold treepatch_Clash; simpa using h2
        rw [h2', bsome] at hb
        by_cases hx : ∃ f ∈ t.Files.take i, Rel f.Path t.Files[i].Path
        · rw [if_pos (by simpa using hx)] at hb
          have := congrArg SCodeIndex.Code (Option.some.inj hb)
          simp at this
        · rw [if_neg (by simpa using hx)] at hb
          obtain ⟨r2, h3, h4⟩ := linesSecond t.Files[i].Lines i
          rw [h3, bsome] at hb
          rcases h4 with rfl | h4
          · rw [if_neg fault_none, gadd_nat (by omega), bsome] at hb
            exact ⟨hb, linesSecond_none h3, fun f hm hr => hx ⟨f, hm, hr⟩⟩
          · rw [if_pos (fault_ne h4)] at hb
            exact absurd (congrArg SCodeIndex.Code (Option.some.inj hb)) h4
    by_cases hv : libValidPath t.Files[i].Path = true
    · rw [if_neg (by simp [hv])] at h0
      have key : treepatch_Validate_l1 200 t m ((i + 1 : Nat) : Int) = some ⟨0, 0⟩ ∧ lines_Validate 200 t.Files[i].Lines = some ⟨0, 0⟩ ∧ ∀ f ∈ t.Files.take i, ¬ Rel f.Path t.Files[i].Path := by
        by_cases hp : 0 < i
        · have e1 : ((i : Int) - 1) = ((i - 1 : Nat) : Int) := by omega
          rw [if_pos (by simp; omega), gsubI (by omega), bsome, e1, gidx_nat, getElem?_lt (by omega), bsome] at h0
          exact tail _ h0
        · rw [if_neg (by simp; omega)] at h0
          exact tail _ h0
      by_cases he : i = j
      · subst he
        exact ⟨hv, key.2⟩
      · exact ih (i + 1) (by omega) key.1 j hj (by omega)
    · rw [if_pos (by simp [hv])] at h0
      have := congrArg SCodeIndex.Code (Option.some.inj h0)
      simp at this
theorem treeOk_of (a : SInputsOpsOutput) (t : SFiles) (hf : ∀ f ∈ t.Files, f.Path.length < big) (hv : sandbox_Validate 200 a = some ⟨0, 0⟩) (h : sandbox_Arguments 200 a t = some ⟨0, 0⟩) : TreeOk t.Files := by
  obtain ⟨hl, hr⟩ := args_rise a t hf hv h
  obtain ⟨q, h1, h2⟩ := treeV_ok t hf
  unfold sandbox_Arguments treepatch_Second at h
  rw [hv, bsome, if_neg fault_none, h1, bsome] at h
  have h1' : treepatch_Validate_l1 200 t 200 0 = some ⟨0, 0⟩ := by
    rcases h2 with rfl | h2
    · unfold treepatch_Validate at h1
      rw [if_neg (by simp; omega)] at h1
      exact h1
    · rw [if_pos (fault_ne h2), bsome] at h
      exact absurd (congrArg SCodeIndex.Code (Option.some.inj h)) h2
  have hF := tree_facts t hl hf 200 0 (by omega) h1'
  refine ⟨?_, ?_⟩
  · rw [List.pairwise_iff_getElem]
    intro i j hi hj hij
    refine ⟨hr i j hi hj hij, (hF j hj (by omega)).2.2 _ ?_⟩
    rw [List.mem_take_iff_getElem]
    exact ⟨i, by omega, rfl⟩
  · intro f hm
    obtain ⟨j, hj, rfl⟩ := List.getElem_of_mem hm
    exact ⟨(hF j hj (by omega)).1, (hF j hj (by omega)).2.1⟩
theorem treeV_of (fs : List SPathLines) (hl : fs.length ≤ 24) (hf : ∀ f ∈ fs, f.Path.length < big) (h : TreeOk fs) : ∀ (m i : Nat), fs.length - i < m → treepatch_Validate_l1 200 ⟨fs⟩ m (i : Int) = some ⟨0, 0⟩ := by
  have hp := List.pairwise_iff_getElem.1 h.1
  intro m
  induction m with
  | zero => intro i h; omega
  | succ m ih =>
    intro i hm
    rw [treepatch_Validate_l1]
    unfold treepatch_ValidPath
    by_cases hi : i < fs.length
    · obtain ⟨hv, hL⟩ := h.2 _ (List.getElem_mem hi)
      rw [if_pos (lt_dec hi), gidx_nat, getElem?_lt hi, bsome, bsome, if_neg (by simp [hv])]
      have tail : treepatch_Validate_j1 200 ⟨fs⟩ (i : Int) (treepatch_Validate_l1 200 ⟨fs⟩ m) fs[i] false = some ⟨0, 0⟩ := by
        unfold treepatch_Validate_j1
        have h2 := clash_eq (fs.take i) fs[i].Path (by simp; omega) (hf _ (List.getElem_mem hi)) (fun f h => hf f (List.mem_of_mem_take h)) 200 0 (by simp; omega)
        have hno : ¬ ∃ f ∈ fs.take i, Rel f.Path fs[i].Path := by
          rintro ⟨f, hm, hr⟩
          rw [List.mem_take_iff_getElem] at hm
          obtain ⟨j, hj, rfl⟩ := hm
          exact (hp j i (by omega) hi (by omega)).2 hr
        have h2' : treepatch_Clash 200 (fs.take i) fs[i].Path (-1) = some false := by
          unfold treepatch_Clash
          have : decide (∃ f ∈ fs.take i, Rel f.Path fs[i].Path) = false := decide_eq_false hno
          rw [← this]; simpa using h2
        have hS : lines_Second 200 fs[i].Lines (i : Int) = some ⟨0, 0⟩ := by
          unfold lines_Second
          rw [hL, bsome, if_neg fault_none]
        rw [if_neg (by simp), gcut_take (by show i ≤ fs.length; omega), bsome, h2', bsome, if_neg (by simp), hS, bsome, if_neg fault_none, gadd_nat (by omega), bsome]
        exact ih (i + 1) (by omega)
      by_cases hp0 : 0 < i
      · have e1 : ((i : Int) - 1) = ((i - 1 : Nat) : Int) := by omega
        have hA := (hp (i - 1) i (by omega) hi (by omega))
        have hless : (Op.bytesLess fs[i].Path (fs[i - 1]'(by omega)).Path || fs[i].Path == (fs[i - 1]'(by omega)).Path) = false := by
          cases hb : Op.bytesLess fs[i].Path (fs[i - 1]'(by omega)).Path with
          | true => have := less_trans hA.1 hb; rw [less_irrefl] at this; cases this
          | false =>
            have : fs[i].Path ≠ (fs[i - 1]'(by omega)).Path := fun e => hA.2 (by rw [e]; exact .inl rfl)
            simp [this]
        rw [if_pos (by simp; omega), gsubI (by omega), bsome, e1, gidx_nat, getElem?_lt (show i - 1 < fs.length by omega), bsome, hless]
        exact tail
      · rw [if_neg (by simp; omega)]
        exact tail
    · rw [if_neg (nlt_dec hi)]
theorem args_inp (a : SInputsOpsOutput) (t : SFiles) (hf : ∀ f ∈ t.Files, f.Path.length < big) (hl : t.Files.length ≤ 24) (hv : sandbox_Validate 200 a = some ⟨0, 0⟩) (h : sandbox_Arguments 200 a t = some ⟨0, 0⟩) : sandbox_Arguments 200 a ⟨inp a t.Files⟩ = some ⟨0, 0⟩ := by
  have hT := treeOk_of a t hf hv h
  have hsub : ∀ f ∈ inp a t.Files, f ∈ t.Files := fun f hm => (List.mem_filter.1 hm).1
  have hlen : (inp a t.Files).length ≤ 24 := Nat.le_trans (List.length_filter_le _ _) hl
  have hT2 : TreeOk (inp a t.Files) := ⟨hT.1.filter _, fun f hm => hT.2 f (hsub f hm)⟩
  have hV := treeV_of (inp a t.Files) hlen (fun f hm => hf f (hsub f hm)) hT2 200 0 (by omega)
  unfold sandbox_Arguments treepatch_Second treepatch_Validate
  rw [hv, bsome, if_neg fault_none, if_neg (by simp; omega)]
  have hV' : treepatch_Validate_l1 200 ⟨inp a t.Files⟩ 200 0 = some ⟨0, 0⟩ := hV
  rw [hV', bsome, if_neg fault_none, bsome]

theorem lines_len {l : List (List UInt8)} (h : lines_Validate 200 l = some ⟨0, 0⟩) : l.length ≤ 120 := by
  unfold lines_Validate at h
  by_cases hl : 120 < l.length
  · rw [if_pos (by simp; omega)] at h
    have := congrArg SCodeIndex.Code (Option.some.inj h)
    simp at this
  · omega

/-- an operation sees the inputs alone -/
theorem fileIn_inp (a : SInputsOpsOutput) (t : SFiles) (hl : t.Files.length ≤ 24) (hr : Rise t.Files) (x : List UInt8) (hx : x ∈ a.Inputs) : ref6_FileIn 200 ⟨inp a t.Files⟩ x = ref6_FileIn 200 t x := by
  have hlen : (inp a t.Files).length ≤ 24 := Nat.le_trans (List.length_filter_le _ _) hl
  unfold ref6_FileIn
  rcases fileIn_l t x hl 200 0 (by omega) with ⟨f, hm, he, hz⟩ | ⟨hm, hz⟩
  · rcases fileIn_l ⟨inp a t.Files⟩ x hlen 200 0 (by show (inp a t.Files).length - 0 < 200; omega) with ⟨g, hm2, he2, hz2⟩ | ⟨hm2, hz2⟩
    · have hg0 : g ∈ inp a t.Files := by simpa using hm2
      have hg : g ∈ t.Files := (List.mem_filter.1 hg0).1
      have : g = f := rise_uniq hr hg (by simpa using hm) (he2.trans he.symm)
      subst this
      exact hz2.trans hz.symm
    · have hf2 : f ∈ inp a t.Files := List.mem_filter.2 ⟨by simpa using hm, by simp [he, hx]⟩
      exact absurd he (hm2 f (by simpa using hf2))
  · rcases fileIn_l ⟨inp a t.Files⟩ x hlen 200 0 (by show (inp a t.Files).length - 0 < 200; omega) with ⟨g, hm2, he2, hz2⟩ | ⟨hm2, hz2⟩
    · have hg0 : g ∈ inp a t.Files := by simpa using hm2
      have hg : g ∈ t.Files := (List.mem_filter.1 hg0).1
      exact absurd he2 (hm g (by simpa using hg))
    · exact hz2.trans hz.symm
theorem opResult_inp (a : SInputsOpsOutput) (t : SFiles) (hi : a.Inputs.length ≤ 8) (hl : t.Files.length ≤ 24) (hr : Rise t.Files) (o : SKindText) (w : List (List UInt8)) : ref6_opResult 200 a ⟨inp a t.Files⟩ o w = ref6_opResult 200 a t o w := by
  unfold ref6_opResult
  rw [hasString_eq _ _ (by omega), bsome, bsome]
  by_cases hx : o.Text ∈ a.Inputs
  · rw [fileIn_inp a t hl hr _ hx]
  · have : (!decide (o.Text ∈ a.Inputs)) = true := by simp [hx]
    rw [if_pos this, if_pos this]
theorem ran_inp (a : SInputsOpsOutput) (t : SFiles) (hi : a.Inputs.length ≤ 8) (hl : t.Files.length ≤ 24) (hr : Rise t.Files) : ∀ (m : Nat) (w : List (List UInt8)) (x : Int), ref6_Ran_l1 200 a ⟨inp a t.Files⟩ m w x = ref6_Ran_l1 200 a t m w x := by
  intro m
  induction m with
  | zero => intro w x; rfl
  | succ m ih =>
    intro w x
    rw [ref6_Ran_l1, ref6_Ran_l1]
    simp only [opResult_inp a t hi hl hr, ih]

theorem trees_l (fs : List SPathLines) (hl : fs.length ≤ 24) (hf : ∀ f ∈ fs, f.Lines.length < 200) : ∀ (m i : Nat), fs.length - i < m → ref6_Trees_l1 200 ⟨fs⟩ ⟨fs⟩ m (i : Int) = some true := by
  intro m
  induction m with
  | zero => intro i h; omega
  | succ m ih =>
    intro i h
    rw [ref6_Trees_l1]
    unfold ref6_Trees_j1
    by_cases hi : i < fs.length
    · rw [if_pos (lt_dec hi), gidx_nat, getElem?_lt hi]
      simp only [bsome]
      rw [if_neg (by simp), strings_self _ (hf _ (List.getElem_mem hi)), bsome, if_neg (by simp), gadd_nat (by omega), bsome]
      exact ih (i + 1) (by omega)
    · rw [if_neg (nlt_dec hi)]
theorem trees_self (fs : List SPathLines) (hl : fs.length ≤ 24) (hf : ∀ f ∈ fs, f.Lines.length < 200) : ref6_Trees 200 ⟨fs⟩ ⟨fs⟩ = some true := by
  unfold ref6_Trees
  rw [if_neg (by simp)]
  exact trees_l fs hl hf 200 0 (by omega)

theorem Hermetic_eq (a0 : SInputsOpsOutput) (a1 : SFiles) (hf : ∀ f ∈ a1.Files, f.Path.length ≤ reachBytes ∧ f.Lines.length ≤ reachBytes) : law6_SandboxRunsAreHermetic 200 a0 a1 = some true := by
  have hb : ∀ f ∈ a1.Files, f.Path.length < big := fun f h => by have := (hf f h).1; unfold reachBytes at this; unfold big; omega
  obtain ⟨q, h3, h4, h5⟩ := arguments_ok a0 a1 (fun f h => (hf f h).1)
  unfold law6_SandboxRunsAreHermetic
  rcases h4 with rfl | h4
  · obtain ⟨hv, hi, ho, ht⟩ := h5 rfl
    have hT := treeOk_of a0 a1 hb hv h3
    have hLen : ∀ f ∈ a1.Files, f.Lines.length ≤ 120 := fun f h => lines_len (hT.2 f h).2
    have hsub : ∀ f ∈ inp a0 a1.Files, f ∈ a1.Files := fun f hm => (List.mem_filter.1 hm).1
    have hlen : (inp a0 a1.Files).length ≤ 24 := Nat.le_trans (List.length_filter_le _ _) ht
    obtain ⟨_, hr⟩ := args_rise a0 a1 hb hv h3
    have h3' := args_inp a0 a1 hb ht hv h3
    obtain ⟨_, hr'⟩ := args_rise a0 ⟨inp a0 a1.Files⟩ (fun f h => hb f (hsub f h)) hv h3'
    have e1 := restrict_eq a0 a1 hi ht (fun f h => by have := hLen f h; unfold big; omega) h3
    have e2 := restrict_eq a0 ⟨inp a0 a1.Files⟩ hi hlen (fun f h => by have := hLen f (hsub f h); unfold big; omega) h3'
    have e3 : inp a0 (inp a0 a1.Files) = inp a0 a1.Files := by unfold inp; rw [List.filter_filter]; simp
    rw [e3] at e2
    obtain ⟨r, g1, g2⟩ := run_l a0 a1 hi ho ht (fun f h => (hf f h).2) 200 0 [] (by omega) (by simp)
    have r1 : sandbox_Run 200 a0 a1 = some r := by unfold sandbox_Run; rw [h3, bsome, if_neg fault_none]; exact g1
    have r2 : sandbox_Run 200 a0 ⟨inp a0 a1.Files⟩ = some r := by
      unfold sandbox_Run
      rw [h3', bsome, if_neg fault_none]
      have k1 := ran_eq a0 a1 hi ho ht hr (fun f h => (hf f h).2) (kinds_ok a0 hv) 200 0 [] (by simp)
      have k2 := ran_eq a0 ⟨inp a0 a1.Files⟩ hi ho hlen hr' (fun f h => (hf f (hsub f h)).2) (kinds_ok a0 hv) 200 0 [] (by simp)
      have k3 := ran_inp a0 a1 hi ht hr 200 [] 0
      exact (k2.symm.trans (k3.trans k1)).trans g1
    have hlr : r.1.length < 200 := by
      rcases g2 with ⟨_, g⟩ | ⟨_, g, _⟩
      · rw [g]; simp
      · omega
    rw [e1, bsome, runs_eq, bsome, if_neg (by simp)]
    unfold law6_SandboxRunsAreHermetic_j1 law6_SandboxRunsAreHermetic_j3
    rw [if_neg (by simp), r1, bsome, r2, bsome, e2, bsome, if_pos (by simp), strings_self _ hlr, bsome, if_pos rfl, if_pos (by simp),
      trees_self _ hlen (fun f h => by have := hLen f (hsub f h); omega), bsome]
  · have e1 : sandbox_Restrict 200 a0 a1 = some (⟨[]⟩, q) := by unfold sandbox_Restrict; rw [h3, bsome, if_pos (fault_ne h4)]
    rw [e1, bsome, runs_eq, bsome, if_neg (by simp)]
    unfold law6_SandboxRunsAreHermetic_j1 law6_SandboxRunsAreHermetic_j2
    rw [if_pos (by simp [h4]), runs_eq, bsome, if_pos rfl]
    rfl
end Go.Proofs.YtadeoaglhaaimaaDoor
