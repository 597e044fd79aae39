/- The plain laws: the specification's faults are the program's. -/
import Derived.Test.YtadeoaglhaaimaaDoorP3
namespace Go.Proofs.YtadeoaglhaaimaaDoor
open Go.PW Go

theorem cutAt_app (c : UInt8) (u v : List UInt8) : cutAt c (u ++ c :: v) = cutAt c u ++ cutAt c v := by
  induction u with
  | nil => simp [cutAt]
  | cons x u ih =>
    simp only [List.cons_append, cutAt]
    by_cases h : x = c
    · simp [h, ih]
    · simp only [h, if_false, ih]
      have hne := cutAt_ne c u
      cases hc : cutAt c u with
      | nil => exact absurd hc hne
      | cons p r => simp
theorem cutAt_free (c : UInt8) (v : List UInt8) (h : c ∉ v) : cutAt c v = [v] := by
  induction v with
  | nil => rfl
  | cons x v ih =>
    simp only [List.mem_cons, not_or] at h
    have hx : x ≠ c := fun e => h.1 e.symm
    simp [cutAt, hx, ih h.2]
theorem cutAt_mem (c : UInt8) (v : List UInt8) (x : UInt8) (hx : x ∈ v) (hc : x ≠ c) : ∃ p ∈ cutAt c v, x ∈ p := by
  induction v with
  | nil => cases hx
  | cons y v ih =>
    simp only [cutAt]
    have hne := cutAt_ne c v
    rcases List.mem_cons.1 hx with rfl | hx
    · rw [if_neg hc]
      cases hv : cutAt c v with
      | nil => exact ⟨[x], by simp, by simp⟩
      | cons p r => exact ⟨x :: p, by simp, by simp⟩
    · obtain ⟨p, hp, hxp⟩ := ih hx
      by_cases hy : y = c
      · rw [if_pos hy]; exact ⟨p, by simp [hp], hxp⟩
      · rw [if_neg hy]
        cases hv : cutAt c v with
        | nil => exact absurd hv hne
        | cons q r =>
          rw [hv, List.mem_cons] at hp
          rcases hp with rfl | hp
          · exact ⟨y :: p, by simp, by simp [hxp]⟩
          · exact ⟨p, by simp [hp], hxp⟩

theorem pathByte_eq (n : Nat) (a : Int) : ref2_pathByte n a = some (libLetterI a) := by
  unfold ref2_pathByte ref2_pathByte_j1 libLetterI
  simp only [decide_eq_true_eq]
  by_cases h1 : 97 ≤ a <;> by_cases h2 : a ≤ 122 <;> by_cases h3 : 65 ≤ a <;> by_cases h4 : a ≤ 90 <;> by_cases h5 : 48 ≤ a <;> by_cases h6 : a ≤ 57 <;> simp only [h1, h2, h3, h4, h5, h6, if_true, if_false, decide_true, decide_false, Bool.and_true, Bool.and_false, Bool.true_and, Bool.false_and, Bool.or_true, Bool.true_or, Bool.or_false, Bool.false_or] <;>
    (by_cases h7 : a = 46 <;> by_cases h8 : a = 95 <;> first | (simp [h7, h8]; done) | (rw [show (a == 46) = false from by simpa using h7, show (a == 95) = false from by simpa using h8]; simp only [h7, h8, if_false, Bool.false_or]; rfl))

/-- the check of a part whose bytes are letters -/
def badPart (p : List UInt8) : Bool := p == [] || p == [46] || p == [46, 46]
theorem libPart_letters {p : List UInt8} (h : p.all libLetter = true) : libPart p = !badPart p := by
  simp [libPart, badPart, h]
theorem pv_tail (n : Nat) (v : List UInt8) (x3 : Int) (lp : Int → Int → Option Bool) :
    (if (decide (v = ([] : List UInt8))) = true then ref2_PathValid_j3 n x3 lp true else if (decide (v = ([46] : List UInt8))) = true then ref2_PathValid_j3 n x3 lp true else ref2_PathValid_j3 n x3 lp (decide (v = ([46, 46] : List UInt8)))) =
    if badPart v = true then some false else ref2_PathValid_j1 n x3 lp x3 := by
  unfold ref2_PathValid_j3 badPart
  by_cases h1 : v = []
  · simp [h1]
  · by_cases h2 : v = [46]
    · simp [h2]
    · by_cases h3 : v = [46, 46]
      · simp [h3]
      · simp [h1, h2, h3]

theorem pv_l (s : List UInt8) (hs : s.length ≤ 60) : ∀ (m j e : Nat), j ≤ e → e ≤ s.length → j + 1 < m → (∀ x ∈ (s.take e).drop j, x ≠ 47 ∧ libLetter x = true) →
    ref2_PathValid_l1 200 s m (e : Int) ((j : Int) - 1) = some ((cutAt 47 (s.take e)).all libPart) := by
  intro m
  induction m with
  | zero => intro j e _ _ h; omega
  | succ m ih =>
    intro j e hje he hm hall
    rw [ref2_PathValid_l1]
    unfold ref2_PathValid_j2
    rw [if_pos (by simp; omega)]
    have hlet : ((s.take e).drop j).all libLetter = true := List.all_eq_true.2 fun x hx => (hall x hx).2
    have hfree : (47 : UInt8) ∉ (s.take e).drop j := fun hx => (hall _ hx).1 rfl
    have hcut : gcut s (j : Int) (e : Int) = some ((s.take e).drop j) := gcut_nat hje he
    by_cases hj : 1 ≤ j
    · have hjl : j - 1 < s.length := by omega
      have e1 : (j : Int) - 1 = ((j - 1 : Nat) : Int) := by omega
      have hdrop : (s.take e).drop (j - 1) = s[j - 1] :: (s.take e).drop j := by
        have hl : j - 1 < (s.take e).length := by simp; omega
        rw [List.drop_eq_getElem_cons hl]
        have : j - 1 + 1 = j := by omega
        simp [this]
      rw [if_pos (by simp; omega), e1, gidx_nat, getElem?_lt hjl, bsome]
      by_cases hy : s[j - 1] = 47
      · rw [if_neg (by simp [hy])]
        have e2 : ((j - 1 : Nat) : Int) + 1 = (j : Int) := by omega
        rw [gaddI (by omega), bsome, e2, hcut, bsome, pv_tail]
        have hsplit : s.take e = s.take (j - 1) ++ 47 :: (s.take e).drop j := by
          have h1 : s.take e = (s.take e).take (j - 1) ++ (s.take e).drop (j - 1) := (List.take_append_drop _ _).symm
          rw [hdrop, hy, List.take_take, Nat.min_eq_left (by omega)] at h1
          exact h1
        have hR : (cutAt 47 (s.take e)).all libPart = ((cutAt 47 (s.take (j - 1))).all libPart && !badPart ((s.take e).drop j)) := by
          rw [hsplit, cutAt_app, List.all_append, ← hsplit, cutAt_free 47 _ hfree]
          simp [libPart_letters hlet]
        rw [hR]
        by_cases hb : badPart ((s.take e).drop j) = true
        · rw [if_pos hb, hb]; simp
        · rw [if_neg hb]
          unfold ref2_PathValid_j1
          rw [gsubI (by omega), bsome]
          have := ih (j - 1) (j - 1) (Nat.le_refl _) (by omega) (by omega) (by intro x hx; rw [List.drop_eq_nil_of_le (by simp; omega)] at hx; cases hx)
          rw [this]
          simp [hb]
      · have hyI : ((s[j - 1].toNat : Int) ≠ 47) := by
          intro e; apply hy
          have : s[j - 1].toNat = 47 := by omega
          exact UInt8.toNat_inj.1 this
        rw [if_pos (by simpa using hyI), bsome, pathByte_eq, bsome]
        by_cases hl : libLetter s[j - 1] = true
        · have hl' : libLetterI (s[j - 1].toNat : Int) = true := hl
          rw [if_neg (by simp [hl'])]
          unfold ref2_PathValid_j1
          rw [gsubI (by omega), bsome]
          refine ih (j - 1) e (by omega) he (by omega) ?_
          intro x hx
          rw [hdrop, List.mem_cons] at hx
          rcases hx with rfl | hx
          · exact ⟨hy, hl⟩
          · exact hall x hx
        · have hl' : libLetterI (s[j - 1].toNat : Int) = false := by simpa [libLetter] using hl
          rw [if_pos (by simp [hl'])]
          obtain ⟨p, hp, hxp⟩ := cutAt_mem 47 (s.take e) s[j - 1] (by
            have : s[j - 1] ∈ (s.take e).drop (j - 1) := by rw [hdrop]; simp
            exact List.mem_of_mem_drop this) hy
          have : (cutAt 47 (s.take e)).all libPart = false := by
            rw [List.all_eq_false]
            refine ⟨p, hp, ?_⟩
            have : p.all libLetter = false := by rw [List.all_eq_false]; exact ⟨_, hxp, by simpa using hl⟩
            simp [libPart, this]
          rw [this]
    · have hj0 : j = 0 := by omega
      subst hj0
      rw [if_neg (by simp), if_neg (by simp)]
      have e2 : gadd (((0 : Nat) : Int) - 1) 1 = some ((0 : Nat) : Int) := by decide
      rw [e2, bsome, hcut, bsome, pv_tail]
      simp only [List.drop_zero] at hfree hlet ⊢
      rw [cutAt_free 47 _ hfree]
      by_cases hb : badPart (s.take e) = true
      · rw [if_pos hb]; simp [libPart_letters hlet, hb]
      · rw [if_neg hb]
        unfold ref2_PathValid_j1
        have e3 : gsub (((0 : Nat) : Int) - 1) 1 = some (-2) := by decide
        rw [e3, bsome]
        obtain ⟨m, rfl⟩ : ∃ m', m = m' + 1 := ⟨m - 1, by omega⟩
        rw [ref2_PathValid_l1, if_neg (by decide)]
        simp [libPart_letters hlet, hb]
theorem pathValid_eq (s : List UInt8) : ref2_PathValid 200 s = some (libValidPath s) := by
  unfold ref2_PathValid libValidPath
  by_cases h : 60 < s.length
  · rw [if_pos (by simp; omega)]
    have : ¬ s.length ≤ 60 := by omega
    simp [this]
  · rw [if_neg (by simp; omega), gsubI (by omega), bsome]
    have := pv_l s (by omega) 200 s.length s.length (Nat.le_refl _) (Nat.le_refl _) (by omega) (by intro x hx; rw [List.drop_eq_nil_of_le (by simp)] at hx; cases hx)
    rw [this, List.take_length]
    have : s.length ≤ 60 := by omega
    simp [this]
end Go.Proofs.YtadeoaglhaaimaaDoor
