/- PwAssoc: plain facts about lists that rise by a key: what stands under a key, an element put in. -/
import Derived.Test.YtlkknmhhefjmjaaDoorPwPlain
namespace Go.PW
section
variable {α κ : Type}
structure TotalLt (lt : κ → κ → Bool) : Prop where
  irrefl : ∀ a, lt a a = false
  trans : ∀ a b c, lt a b = true → lt b c = true → lt a c = true
  tri : ∀ a b, lt a b = false → lt b a = false → a = b
theorem TotalLt.ne {lt : κ → κ → Bool} (T : TotalLt lt) {a b : κ} (h : lt a b = true) : a ≠ b := by
  rintro rfl; rw [T.irrefl] at h; cases h
theorem TotalLt.asymm {lt : κ → κ → Bool} (T : TotalLt lt) {a b : κ} (h : lt a b = true) : lt b a = false := by
  cases h2 : lt b a with
  | false => rfl
  | true => have := T.trans _ _ _ h h2; rw [T.irrefl] at this; cases this
def Rises (lt : κ → κ → Bool) (key : α → κ) (l : List α) : Prop := l.Pairwise fun x y => lt (key x) (key y) = true
variable {lt : κ → κ → Bool} {key : α → κ}
theorem rises_ext (T : TotalLt lt) : ∀ {l m : List α}, Rises lt key l → Rises lt key m → (∀ x, x ∈ l ↔ x ∈ m) → l = m
  | [], [], _, _, _ => rfl
  | [], y :: m, _, _, h => by have := (h y).2 (by simp); cases this
  | x :: l, [], _, _, h => by have := (h x).1 (by simp); cases this
  | x :: l, y :: m, hl, hm, h => by
    have hl2 := List.pairwise_cons.1 hl
    have hm2 := List.pairwise_cons.1 hm
    have hxy : x = y := by
      rcases List.mem_cons.1 ((h x).1 (by simp)) with h1 | h1
      · exact h1
      rcases List.mem_cons.1 ((h y).2 (by simp)) with h2 | h2
      · exact h2.symm
      · have a := hm2.1 x h1
        have b := hl2.1 y h2
        rw [T.asymm a] at b; cases b
    subst hxy
    have hx : ∀ {z : α} {k : List α}, Rises lt key (x :: k) → z ∈ k → z ≠ x := by
      intro z k hk hz e
      subst e
      have := (List.pairwise_cons.1 hk).1 z hz
      rw [T.irrefl] at this; cases this
    rw [rises_ext T hl2.2 hm2.2 fun z => ?_]
    constructor
    · intro hz
      rcases List.mem_cons.1 ((h z).1 (by simp [hz])) with e | h1
      · exact absurd e (hx hl hz)
      · exact h1
    · intro hz
      rcases List.mem_cons.1 ((h z).2 (by simp [hz])) with e | h1
      · exact absurd e (hx hm hz)
      · exact h1
variable [DecidableEq κ]
def getK (key : α → κ) (k : κ) : List α → Option α
  | [] => none
  | y :: r => if key y = k then some y else getK key k r
theorem getK_mem {k : κ} {x : α} : ∀ {l : List α}, getK key k l = some x → x ∈ l ∧ key x = k
  | [], h => by cases h
  | y :: r, h => by
    unfold getK at h
    split at h
    · injection h with h; subst h; exact ⟨by simp, by assumption⟩
    · have := getK_mem h; exact ⟨by simp [this.1], this.2⟩
theorem getK_none {k : κ} : ∀ {l : List α}, getK key k l = none ↔ ∀ x ∈ l, key x ≠ k
  | [] => by simp [getK]
  | y :: r => by
    unfold getK
    split
    · rename_i h; simp [h]
    · rename_i h; rw [getK_none (l := r)]; simp [h]
theorem getK_of_mem (T : TotalLt lt) {x : α} : ∀ {l : List α}, Rises lt key l → x ∈ l → getK key (key x) l = some x
  | [], _, h => by cases h
  | y :: r, hr, h => by
    unfold getK
    have hr2 := List.pairwise_cons.1 hr
    rcases List.mem_cons.1 h with rfl | h
    · rw [if_pos rfl]
    · rw [if_neg (T.ne (hr2.1 x h)), getK_of_mem T hr2.2 h]
theorem Rises.uniq (T : TotalLt lt) {l : List α} (h : Rises lt key l) {x y : α} (hx : x ∈ l) (hy : y ∈ l) (e : key x = key y) : x = y := by
  have h1 := getK_of_mem T h hx
  have h2 := getK_of_mem T h hy
  rw [e, h2] at h1
  injection h1 with h1; exact h1.symm
end
end Go.PW
