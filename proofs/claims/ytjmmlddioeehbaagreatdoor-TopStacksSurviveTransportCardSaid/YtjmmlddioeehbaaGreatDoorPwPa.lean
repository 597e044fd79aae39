/- Plain facts about the option functions, for the plain laws. -/
import Derived.Test.YtjmmlddioeehbaaGreatDoorPwDec
namespace Go.PW
open Go
theorem bsome {α β : Type} (a : α) (f : α → Option β) : (some a).bind f = f a := (congrFun (congrArg _ rfl) _).trans (Option.bind_some a f)
theorem gidx_nat {α : Type} (l : List α) (i : Nat) : gidx l (i : Int) = l[i]? := by unfold gidx; rw [if_pos (by omega)]; rfl
theorem gaddI {a b : Int} (h : -9223372036854775808 ≤ a + b ∧ a + b < 9223372036854775808) : gadd a b = some (a + b) := gchk_ok h
theorem gsubI {a b : Int} (h : -9223372036854775808 ≤ a - b ∧ a - b < 9223372036854775808) : gsub a b = some (a - b) := gchk_ok h
theorem gmulI {a b : Int} (h : -9223372036854775808 ≤ a * b ∧ a * b < 9223372036854775808) : gmul a b = some (a * b) := gchk_ok h
theorem gcut_take {α : Type} {l : List α} {i : Nat} (h : i ≤ l.length) : gcut l 0 (i : Int) = some (l.take i) := by
  unfold gcut; rw [if_pos (by omega)]; simp
theorem gcut_drop {α : Type} {l : List α} {i : Nat} (h : i ≤ l.length) : gcut l (i : Int) (l.length : Int) = some (l.drop i) := by
  unfold gcut; rw [if_pos (by omega)]; simp
theorem getElem?_lt {α : Type} {l : List α} {i : Nat} (h : i < l.length) : l[i]? = some l[i] := List.getElem?_eq_getElem h
theorem natOf {a : Int} (h : 0 ≤ a) : ∃ k : Nat, a = k := ⟨a.toNat, by omega⟩
def tab {α : Type} (k : Nat) (f : Nat → α) : List α := (List.range k).map f
@[simp] theorem tab_length {α : Type} (k : Nat) (f : Nat → α) : (tab k f).length = k := by simp [tab]
end Go.PW
namespace Go.PW
section
variable {α κ : Type}

/-- a strict total order -/
structure TotalLt (lt : κ → κ → Bool) : Prop where
  irrefl : ∀ a, lt a a = false
  trans : ∀ a b c, lt a b = true → lt b c = true → lt a c = true
  tri : ∀ a b, lt a b = false → lt b a = false → a = b
theorem TotalLt.ne {lt : κ → κ → Bool} (T : TotalLt lt) {a b : κ} (h : lt a b = true) : a ≠ b := by
  rintro rfl; rw [T.irrefl] at h; cases h
theorem TotalLt.asymm {lt : κ → κ → Bool} (T : TotalLt lt) {a b : κ} (h : lt a b = true) : lt b a = false := by
  cases h2 : lt b a with
  | false => rfl
  | true => have := T.trans _ _ _ h h2; rw [T.irrefl] at this; cases this
def Rises (lt : κ → κ → Bool) (key : α → κ) (l : List α) : Prop := l.Pairwise fun x y => lt (key x) (key y) = true
variable {lt : κ → κ → Bool} {key : α → κ}
theorem rises_ext (T : TotalLt lt) : ∀ {l m : List α}, Rises lt key l → Rises lt key m → (∀ x, x ∈ l ↔ x ∈ m) → l = m
  | [], [], _, _, _ => rfl
  | [], y :: m, _, _, h => by have := (h y).2 (by simp); cases this
  | x :: l, [], _, _, h => by have := (h x).1 (by simp); cases this
  | x :: l, y :: m, hl, hm, h => by
    have hl2 := List.pairwise_cons.1 hl
    have hm2 := List.pairwise_cons.1 hm
    have hxy : x = y := by
      rcases List.mem_cons.1 ((h x).1 (by simp)) with h1 | h1
      · exact h1
      rcases List.mem_cons.1 ((h y).2 (by simp)) with h2 | h2
      · exact h2.symm
      · have a := hm2.1 x h1
        have b := hl2.1 y h2
        rw [T.asymm a] at b; cases b
    subst hxy
    have hx : ∀ {z : α} {k : List α}, Rises lt key (x :: k) → z ∈ k → z ≠ x := by
      intro z k hk hz e
      subst e
      have := (List.pairwise_cons.1 hk).1 z hz
      rw [T.irrefl] at this; cases this
    rw [rises_ext T hl2.2 hm2.2 fun z => ?_]
    constructor
    · intro hz
      rcases List.mem_cons.1 ((h z).1 (by simp [hz])) with e | h1
      · exact absurd e (hx hl hz)
      · exact h1
    · intro hz
      rcases List.mem_cons.1 ((h z).2 (by simp [hz])) with e | h1
      · exact absurd e (hx hm hz)
      · exact h1
variable [DecidableEq κ]

/-- what stands under a key -/
def getK (key : α → κ) (k : κ) : List α → Option α
  | [] => none
  | y :: r => if key y = k then some y else getK key k r
/-- an element put in -/
def putK (lt : κ → κ → Bool) (key : α → κ) (x : α) : List α → List α
  | [] => [x]
  | y :: r => if lt (key y) (key x) = true then y :: putK lt key x r else if key y = key x then x :: r else x :: y :: r

theorem getK_mem {k : κ} {x : α} : ∀ {l : List α}, getK key k l = some x → x ∈ l ∧ key x = k
  | [], h => by cases h
  | y :: r, h => by
    unfold getK at h
    split at h
    · injection h with h; subst h; exact ⟨by simp, by assumption⟩
    · have := getK_mem h; exact ⟨by simp [this.1], this.2⟩
theorem getK_none {k : κ} : ∀ {l : List α}, getK key k l = none ↔ ∀ x ∈ l, key x ≠ k
  | [] => by simp [getK]
  | y :: r => by
    unfold getK
    split
    · rename_i h; simp [h]
    · rename_i h; rw [getK_none (l := r)]; simp [h]
theorem getK_of_mem (T : TotalLt lt) {x : α} : ∀ {l : List α}, Rises lt key l → x ∈ l → getK key (key x) l = some x
  | [], _, h => by cases h
  | y :: r, hr, h => by
    unfold getK
    have hr2 := List.pairwise_cons.1 hr
    rcases List.mem_cons.1 h with rfl | h
    · rw [if_pos rfl]
    · rw [if_neg (T.ne (hr2.1 x h)), getK_of_mem T hr2.2 h]
theorem Rises.uniq (T : TotalLt lt) {l : List α} (h : Rises lt key l) {x y : α} (hx : x ∈ l) (hy : y ∈ l) (e : key x = key y) : x = y := by
  have h1 := getK_of_mem T h hx
  have h2 := getK_of_mem T h hy
  rw [e, h2] at h1
  injection h1 with h1; exact h1.symm
theorem rises_getK (T : TotalLt lt) {l m : List α} (hl : Rises lt key l) (hm : Rises lt key m) (h : ∀ k, getK key k l = getK key k m) : l = m := by
  refine rises_ext T hl hm fun x => ⟨fun hx => ?_, fun hx => ?_⟩
  · have := getK_of_mem T hl hx; rw [h] at this; exact (getK_mem this).1
  · have := getK_of_mem T hm hx; rw [← h] at this; exact (getK_mem this).1
theorem putK_mem (T : TotalLt lt) {x z : α} : ∀ {l : List α}, Rises lt key l → (z ∈ putK lt key x l ↔ z = x ∨ (z ∈ l ∧ key z ≠ key x))
  | [], _ => by simp [putK]
  | y :: r, h => by
    have h2 := List.pairwise_cons.1 h
    unfold putK
    split
    · rename_i hlt
      rw [List.mem_cons, putK_mem T h2.2, List.mem_cons]
      constructor
      · rintro (rfl | rfl | ⟨h3, h4⟩)
        · exact .inr ⟨.inl rfl, T.ne hlt⟩
        · exact .inl rfl
        · exact .inr ⟨.inr h3, h4⟩
      · rintro (rfl | ⟨rfl | h3, h4⟩)
        · exact .inr (.inl rfl)
        · exact .inl rfl
        · exact .inr (.inr ⟨h3, h4⟩)
    · rename_i hlt
      split
      · rename_i he
        rw [List.mem_cons, List.mem_cons]
        constructor
        · rintro (rfl | h3)
          · exact .inl rfl
          · exact .inr ⟨.inr h3, fun e => by have := h2.1 z h3; rw [he, e, T.irrefl] at this; cases this⟩
        · rintro (rfl | ⟨rfl | h3, h4⟩)
          · exact .inl rfl
          · exact absurd he h4
          · exact .inr h3
      · rename_i he
        have hlt' : lt (key y) (key x) = false := by simpa using hlt
        have hxy : lt (key x) (key y) = true := by
          cases hc : lt (key x) (key y) with
          | true => rfl
          | false => exact absurd (T.tri _ _ hlt' hc) he
        rw [List.mem_cons]
        constructor
        · rintro (rfl | h3)
          · exact .inl rfl
          · refine .inr ⟨h3, fun e => ?_⟩
            rcases List.mem_cons.1 h3 with rfl | h4
            · exact he e
            · have := T.trans _ _ _ hxy (h2.1 z h4); rw [e, T.irrefl] at this; cases this
        · rintro (rfl | ⟨h3, _⟩)
          · exact .inl rfl
          · exact .inr h3
theorem putK_rises (T : TotalLt lt) {x : α} : ∀ {l : List α}, Rises lt key l → Rises lt key (putK lt key x l)
  | [], _ => List.pairwise_singleton _ _
  | y :: r, h => by
    have h2 := List.pairwise_cons.1 h
    unfold putK
    split
    · rename_i hlt
      refine List.pairwise_cons.2 ⟨fun z hz => ?_, putK_rises T h2.2⟩
      rcases (putK_mem T h2.2).1 hz with rfl | ⟨h3, _⟩
      · exact hlt
      · exact h2.1 z h3
    · rename_i hlt
      split
      · rename_i he
        refine List.pairwise_cons.2 ⟨fun z hz => ?_, h2.2⟩
        rw [← he]; exact h2.1 z hz
      · rename_i he
        have hlt' : lt (key y) (key x) = false := by simpa using hlt
        have hxy : lt (key x) (key y) = true := by
          cases hc : lt (key x) (key y) with
          | true => rfl
          | false => exact absurd (T.tri _ _ hlt' hc) he
        refine List.pairwise_cons.2 ⟨fun z hz => ?_, h⟩
        rcases List.mem_cons.1 hz with rfl | h4
        · exact hxy
        · exact T.trans _ _ _ hxy (h2.1 z h4)
theorem getK_putK (T : TotalLt lt) {x : α} {l : List α} (h : Rises lt key l) (k : κ) : getK key k (putK lt key x l) = if k = key x then some x else getK key k l := by
  have hr := putK_rises (x := x) T h
  split
  · rename_i e
    subst e
    exact getK_of_mem T hr ((putK_mem T h).2 (.inl rfl))
  · rename_i e
    cases h1 : getK key k l with
    | some z =>
      obtain ⟨h2, rfl⟩ := getK_mem h1
      exact getK_of_mem T hr ((putK_mem T h).2 (.inr ⟨h2, e⟩))
    | none =>
      rw [getK_none] at h1 ⊢
      intro z hz
      rcases (putK_mem T h).1 hz with rfl | ⟨h2, _⟩
      · exact fun e' => e e'.symm
      · exact h1 z h2
theorem putK_len (T : TotalLt lt) {x : α} : ∀ {l : List α}, Rises lt key l → (putK lt key x l).length = if (getK key (key x) l).isSome then l.length else l.length + 1
  | [], _ => by simp [putK, getK]
  | y :: r, h => by
    have h2 := List.pairwise_cons.1 h
    unfold putK getK
    split
    · rename_i hlt
      rw [if_neg (T.ne hlt), List.length_cons, putK_len T h2.2]
      split <;> simp
    · rename_i hlt
      split
      · simp
      · rename_i he
        have hlt' : lt (key y) (key x) = false := by simpa using hlt
        have hxy : lt (key x) (key y) = true := by
          cases hc : lt (key x) (key y) with
          | true => rfl
          | false => exact absurd (T.tri _ _ hlt' hc) he
        have : getK key (key x) r = none := by
          rw [getK_none]
          intro z hz e
          have := T.trans _ _ _ hxy (h2.1 z hz); rw [e, T.irrefl] at this; cases this
        simp [this]
theorem putK_comm (T : TotalLt lt) {x y : α} {l : List α} (h : Rises lt key l) (hne : key x ≠ key y) : putK lt key x (putK lt key y l) = putK lt key y (putK lt key x l) := by
  refine rises_getK T (putK_rises T (putK_rises T h)) (putK_rises T (putK_rises T h)) fun k => ?_
  rw [getK_putK T (putK_rises T h), getK_putK T h, getK_putK T (putK_rises T h), getK_putK T h]
  by_cases h1 : k = key x
  · subst h1; rw [if_pos rfl, if_neg hne, if_pos rfl]
  · rw [if_neg h1, if_neg h1]
theorem putK_over (T : TotalLt lt) {x y : α} {l : List α} (h : Rises lt key l) (he : key x = key y) : putK lt key x (putK lt key y l) = putK lt key x l := by
  refine rises_getK T (putK_rises T (putK_rises T h)) (putK_rises T h) fun k => ?_
  rw [getK_putK T (putK_rises T h), getK_putK T h, getK_putK T h]
  by_cases h1 : k = key x
  · rw [if_pos h1, if_pos h1]
  · rw [if_neg h1, if_neg h1, if_neg (by rw [← he]; exact h1)]
/-- where it is put -/
theorem putK_at (x : α) : ∀ (k : Nat) (l : List α) (_ : k ≤ l.length), (∀ (i : Nat) (hi : i < l.length), i < k → lt (key l[i]) (key x) = true) → (∀ (hi : k < l.length), lt (key l[k]) (key x) = false) →
    putK lt key x l = l.take k ++ x :: l.drop (if ∃ hi : k < l.length, key l[k] = key x then k + 1 else k)
  | 0, [], _, _, _ => by simp [putK]
  | 0, y :: r, _, _, h2 => by
    have h3 := h2 (by simp)
    unfold putK
    rw [if_neg (by simpa using h3)]
    by_cases he : key y = key x
    · rw [if_pos he, if_pos ⟨by simp, by simpa using he⟩]
      simp
    · rw [if_neg he, if_neg (by rintro ⟨_, h⟩; exact he (by simpa using h))]
      simp
  | k + 1, [], hk, _, _ => by simp at hk
  | k + 1, y :: r, hk, h1, h2 => by
    have h3 := h1 0 (by simp) (by omega)
    unfold putK
    rw [if_pos (by simpa using h3), putK_at x k r (by simpa using hk) (fun i hi hik => h1 (i + 1) (by simpa using hi) (by omega)) (fun hi => h2 (by simpa using hi))]
    have : (if ∃ hi : k + 1 < (y :: r).length, key (y :: r)[k + 1] = key x then k + 1 + 1 else k + 1) = (if ∃ hi : k < r.length, key r[k] = key x then k + 1 else k) + 1 := by
      by_cases h : ∃ hi : k < r.length, key r[k] = key x
      · rw [if_pos h, if_pos (by obtain ⟨hi, h⟩ := h; exact ⟨by simpa using hi, by simpa using h⟩)]
      · rw [if_neg h, if_neg (by rintro ⟨hi, h'⟩; exact h ⟨by simpa using hi, by simpa using h'⟩)]
    rw [this]
    simp
end
theorem totalInt : TotalLt (fun a b : Int => decide (a < b)) where
  irrefl a := by simp
  trans a b c h1 h2 := by simp at *; omega
  tri a b h1 h2 := by simp at *; omega
end Go.PW
