/- Depgraph: walks and distances. -/
import Derived.Test.YtpbfobgbpdbiaaaP1
namespace Go.Proofs.Ytpbfobgbpdbiaaa
open Go.PW Go

variable {a : List (List Int)}
def E (a : List (List Int)) (i j : Nat) : Prop := (j : Int) ∈ dep a i
/-- a walk of k edges, at least one -/
inductive Wlk (a : List (List Int)) : Nat → Nat → Nat → Prop
  | one {i j : Nat} (h : E a i j) : Wlk a i j 1
  | cons {i n j k : Nat} (h : E a i n) (w : Wlk a n j k) : Wlk a i j (k + 1)
theorem E.lt (g : OkG a) {i j : Nat} (h : E a i j) : j < a.length := by have := ((g.ok i).rng _ h).2; omega
theorem E.lt1 {i j : Nat} (h : E a i j) : i < a.length := by
  by_cases q : i < a.length
  · exact q
  · unfold E dep at h
    rw [List.getD_eq_getElem?_getD, List.getElem?_eq_none (by omega)] at h
    simp at h
theorem Wlk.pos {i j k : Nat} (w : Wlk a i j k) : 1 ≤ k := by cases w <;> omega
theorem Wlk.lt1 {i j k : Nat} (w : Wlk a i j k) : i < a.length := by cases w <;> exact E.lt1 (by assumption)
theorem Wlk.lt2 (g : OkG a) {i j k : Nat} (w : Wlk a i j k) : j < a.length := by
  induction w with
  | one h => exact E.lt g h
  | cons _ _ ih => exact ih
theorem Wlk.app {i j t k l : Nat} (w : Wlk a i j k) (v : Wlk a j t l) : Wlk a i t (k + l) := by
  induction w with
  | one h => rw [Nat.add_comm]; exact .cons h v
  | cons h _ ih => rename_i k' _; have := ih v; rw [show k' + 1 + l = k' + l + 1 by omega]; exact .cons h this

/-- what the relaxing ends in -/
structure Good (a : List (List Int)) (t : Nat) (d : Nat → Nat) : Prop where
  lo : ∀ i < a.length, 1 ≤ d i
  hi : ∀ i < a.length, d i ≤ 1000
  wlk : ∀ i < a.length, d i < 1000 → Wlk a i t (d i)
  fix : ∀ i n, E a i n → d i ≤ if n = t then 1 else d n + 1
theorem Good.min (g : OkG a) {t : Nat} {d : Nat → Nat} (G : Good a t d) {i k : Nat} (w : Wlk a i t k) : d i ≤ k := by
  induction w with
  | one h => have := G.fix _ _ h; rw [if_pos rfl] at this; exact this
  | cons h w ih =>
    have := G.fix _ _ h
    have := w.pos
    have := ih G
    split at * <;> omega
/-- the next node of a shortest walk -/
theorem Good.next (g : OkG a) {t : Nat} {d : Nat → Nat} (G : Good a t d) {i : Nat} (hi : i < a.length) (h1 : 1 < d i) (h2 : d i < 1000) : ∃ n, E a i n ∧ n ≠ t ∧ d n + 1 = d i := by
  have w := G.wlk i hi h2
  generalize hk : d i = k at w
  cases w with
  | one h => omega
  | cons h w =>
    rename_i n k
    have a1 := G.min g w
    have a2 := G.fix _ _ h
    by_cases q : n = t
    · rw [if_pos q] at a2; omega
    · rw [if_neg q] at a2; exact ⟨n, h, q, by omega⟩
def cnt (N : Nat) (d : Nat → Nat) (v : Nat) : Nat := ((List.range N).filter fun j => decide (d j ≤ v)).length
theorem cnt_le (N : Nat) (d : Nat → Nat) (v : Nat) : cnt N d v ≤ N := by
  unfold cnt; exact Nat.le_trans (List.length_filter_le _ _) (by simp)
theorem cnt_lt {N : Nat} {d : Nat → Nat} {v i : Nat} (hi : i < N) (hd : d i = v + 1) : cnt N d v < cnt N d (v + 1) := by
  unfold cnt
  refine filter_lt (fun x _ h => ?_) ⟨i, by simpa using hi, by simp; omega, by simp; omega⟩
  simp at h ⊢; omega
theorem Good.cnt (g : OkG a) {t : Nat} {d : Nat → Nat} (G : Good a t d) : ∀ (v i : Nat), i < a.length → d i = v → v < 1000 → v ≤ cnt a.length d v
  | 0, _, _, _, _ => by omega
  | 1, i, hi, hd, _ => by have : Ytpbfobgbpdbiaaa.cnt a.length d 0 < Ytpbfobgbpdbiaaa.cnt a.length d 1 := cnt_lt (v := 0) hi hd; omega
  | v + 2, i, hi, hd, hv => by
    obtain ⟨n, h1, _, h3⟩ := G.next g hi (by omega) (by omega)
    have := G.cnt g (v + 1) n (E.lt g h1) (by omega) (by omega)
    have : Ytpbfobgbpdbiaaa.cnt a.length d (v + 1) < Ytpbfobgbpdbiaaa.cnt a.length d (v + 2) := cnt_lt (v := v + 1) hi hd
    omega
theorem Good.small (g : OkG a) {t : Nat} {d : Nat → Nat} (G : Good a t d) {i : Nat} (hi : i < a.length) (h : d i < 1000) : d i ≤ a.length :=
  Nat.le_trans (G.cnt g _ i hi rfl h) (cnt_le _ _ _)
theorem Good.reach (g : OkG a) {t : Nat} {d : Nat → Nat} (G : Good a t d) {i k : Nat} (w : Wlk a i t k) : d i < 1000 := by
  have hl := g.len
  induction w with
  | one h => have := G.fix _ _ h; rw [if_pos rfl] at this; omega
  | cons h w ih =>
    have a2 := G.fix _ _ h
    have a3 := ih G
    have := G.small g w.lt1 a3
    split at a2 <;> omega

open Classical in
/-- the length of a shortest walk from i to t; 1000: there is none -/
noncomputable def dst (a : List (List Int)) (t i : Nat) : Nat := if h : ∃ k, Wlk a i t k ∧ ∀ l, Wlk a i t l → k ≤ l then Classical.choose h else 1000
theorem Good.eq (g : OkG a) {t : Nat} {d : Nat → Nat} (G : Good a t d) {i : Nat} (hi : i < a.length) : d i = dst a t i := by
  unfold dst
  by_cases h : d i < 1000
  · have ex : ∃ k, Wlk a i t k ∧ ∀ l, Wlk a i t l → k ≤ l := ⟨d i, G.wlk i hi h, fun l w => G.min g w⟩
    rw [dif_pos ex]
    have s := Classical.choose_spec ex
    have h1 := s.2 _ (G.wlk i hi h)
    have h2 := G.min g s.1
    omega
  · rw [dif_neg ?_]
    · have := G.hi i hi; omega
    · rintro ⟨k, w, _⟩
      exact h (G.reach g w)

/-! ### the table of all pairs -/
structure Tab (a : List (List Int)) (f : Nat → Nat → Nat) : Prop where
  lo : ∀ i < a.length, ∀ k < a.length, 1 ≤ f i k
  hi : ∀ i < a.length, ∀ k < a.length, f i k ≤ 1000
  wlk : ∀ i < a.length, ∀ k < a.length, f i k < 1000 → Wlk a i k (f i k)
/-- walks through nodes below m -/
inductive Via (a : List (List Int)) (m : Nat) : Nat → Nat → Nat → Prop
  | one {i j : Nat} (h : E a i j) : Via a m i j 1
  | cons {i n j k : Nat} (h : E a i n) (hn : n < m) (w : Via a m n j k) : Via a m i j (k + 1)
theorem Via.split {m i k L : Nat} (v : Via a (m + 1) i k L) : Via a m i k L ∨ ∃ L1 L2, Via a m i m L1 ∧ Via a m m k L2 ∧ L1 + L2 ≤ L := by
  induction v with
  | one h => exact .inl (.one h)
  | cons h hn _ ih =>
    rename_i i n j l _
    by_cases q : n < m
    · rcases ih with ih | ⟨L1, L2, h1, h2, h3⟩
      · exact .inl (.cons h q ih)
      · exact .inr ⟨L1 + 1, L2, .cons h q h1, h2, by omega⟩
    · have : n = m := by omega
      subst this
      rcases ih with ih | ⟨L1, L2, h1, h2, h3⟩
      · exact .inr ⟨1, l, .one h, ih, by omega⟩
      · exact .inr ⟨1, L2, .one h, h2, by omega⟩
theorem Wlk.via (g : OkG a) {i k L : Nat} (w : Wlk a i k L) : Via a a.length i k L := by
  induction w with
  | one h => exact .one h
  | cons h w ih => exact .cons h (E.lt g h) ih
theorem Via.zero {i k L : Nat} (v : Via a 0 i k L) : L = 1 ∧ E a i k := by
  cases v with
  | one h => exact ⟨rfl, h⟩
  | cons _ h _ => omega
/-- the table after the phases below m -/
structure Ph (a : List (List Int)) (m : Nat) (f : Nat → Nat → Nat) : Prop extends Tab a f where
  via : ∀ i k L, Via a m i k L → f i k ≤ L
/-- during phase m: the pairs that are done -/
structure Mid (a : List (List Int)) (m : Nat) (f0 : Nat → Nat → Nat) (done : Nat → Nat → Prop) (f : Nat → Nat → Nat) : Prop extends Tab a f where
  le : ∀ i < a.length, ∀ k < a.length, f i k ≤ f0 i k
  dn : ∀ i < a.length, ∀ k < a.length, done i k → f i k ≤ f0 i m + f0 m k
theorem Mid.start {m : Nat} {f : Nat → Nat → Nat} (T : Tab a f) : Mid a m f (fun _ _ => False) f := ⟨T, fun _ _ _ _ => Nat.le_refl _, fun _ _ _ _ h => h.elim⟩
def set2 (f : Nat → Nat → Nat) (i k v : Nat) : Nat → Nat → Nat := fun x y => if x = i ∧ y = k then v else f x y
theorem Mid.step {m i k : Nat} {f0 f : Nat → Nat → Nat} {done done' : Nat → Nat → Prop} (M : Mid a m f0 done f) (hm : m < a.length) (hi : i < a.length) (hk : k < a.length)
    (hd : ∀ x y, x < a.length → y < a.length → done' x y → done x y ∨ (x = i ∧ y = k)) :
    Mid a m f0 done' (if f i m + f m k < f i k then set2 f i k (f i m + f m k) else f) := by
  have l1 := M.le i hi m hm
  have l2 := M.le m hm k hk
  split
  · rename_i q
    have h1000 := M.hi i hi k hk
    have p1 := M.lo i hi m hm
    have p2 := M.lo m hm k hk
    have w := (M.wlk i hi m hm (by omega)).app (M.wlk m hm k hk (by omega))
    refine ⟨⟨fun x hx y hy => ?_, fun x hx y hy => ?_, fun x hx y hy => ?_⟩, fun x hx y hy => ?_, fun x hx y hy hdn => ?_⟩ <;> unfold set2
    · split
      · omega
      · exact M.lo x hx y hy
    · split
      · omega
      · exact M.hi x hx y hy
    · split
      · rename_i e; obtain ⟨rfl, rfl⟩ := e; intro _; exact w
      · exact M.wlk x hx y hy
    · split
      · rename_i e; obtain ⟨rfl, rfl⟩ := e; have := M.le x hx y hy; omega
      · exact M.le x hx y hy
    · split
      · rename_i e; obtain ⟨rfl, rfl⟩ := e; omega
      · rename_i e
        rcases hd x y hx hy hdn with h | h
        · exact M.dn x hx y hy h
        · exact absurd h e
  · rename_i q
    refine ⟨M.toTab, M.le, fun x hx y hy hdn => ?_⟩
    rcases hd x y hx hy hdn with h | ⟨rfl, rfl⟩
    · exact M.dn x hx y hy h
    · omega
theorem Mid.done {m : Nat} {f0 f : Nat → Nat → Nat} {done : Nat → Nat → Prop} (g : OkG a) (P : Ph a m f0) (M : Mid a m f0 done f) (hm : m < a.length) (hd : ∀ x < a.length, ∀ y < a.length, done x y) : Ph a (m + 1) f := by
  refine ⟨M.toTab, fun i k L v => ?_⟩
  have lt : ∀ {m i k L}, Via a m i k L → i < a.length ∧ k < a.length := by
    intro m i k L v
    induction v with
    | one h => exact ⟨E.lt1 h, E.lt g h⟩
    | cons h _ _ ih => exact ⟨E.lt1 h, ih.2⟩
  obtain ⟨hi, hk⟩ := lt v
  rcases v.split with v | ⟨L1, L2, v1, v2, hL⟩
  · exact Nat.le_trans (M.le i hi k hk) (P.via _ _ _ v)
  · have := M.dn i hi k hk (hd i hi k hk)
    have := P.via _ _ _ v1
    have := P.via _ _ _ v2
    omega
theorem Ph.eq (g : OkG a) {f : Nat → Nat → Nat} (P : Ph a a.length f) {t : Nat} (ht : t < a.length) {d : Nat → Nat} (G : Good a t d) {i : Nat} (hi : i < a.length) : f i t = d i := by
  have h1 := P.hi i hi t ht
  have h2 := G.hi i hi
  by_cases q : d i < 1000
  · have e1 := P.via _ _ _ ((G.wlk i hi q).via g)
    have := G.min g (P.wlk i hi t ht (by omega))
    omega
  · by_cases q2 : f i t < 1000
    · exact absurd (G.reach g (P.wlk i hi t ht q2)) q
    · omega
end Go.Proofs.Ytpbfobgbpdbiaaa
