/-
  U3: the rows of leaves that the program makes, each from the earlier ones.
-/
import Derived.Test.YtfdfhpembpjglaaDoorPwU2
namespace Go.PW
section
variable {R : Type} {kind : R → Int} {ins : R → List Int}
def Shows (kind : R → Int) (ins : R → List Int) (rs : List R) (i : Nat) (l : List Int) : Prop := Rising l ∧ ∀ x, x ∈ l ↔ ∃ j : Nat, x = j ∧ Leaf kind ins rs i j
def ShowsIn (kind : R → Int) (ins : R → List Int) (rs : List R) (r : R) (l : List Int) : Prop := Rising l ∧ ∀ x, x ∈ l ↔ ∃ k j : Nat, (k : Int) ∈ ins r ∧ x = j ∧ Leaf kind ins rs k j
theorem Shows.unique {rs : List R} {i : Nat} {a b : List Int} (ha : Shows kind ins rs i a) (hb : Shows kind ins rs i b) : a = b :=
  rising_ext ha.1 hb.1 fun x => (ha.2 x).trans (hb.2 x).symm
theorem ShowsIn.unique {rs : List R} {r : R} {a b : List Int} (ha : ShowsIn kind ins rs r a) (hb : ShowsIn kind ins rs r b) : a = b :=
  rising_ext ha.1 hb.1 fun x => (ha.2 x).trans (hb.2 x).symm
theorem showsIn_dedup {rs : List R} {r : R} {out : List (List Int)} (hin : ∀ n ∈ ins r, 0 ≤ n ∧ n < (out.length : Int)) (ho : ∀ (i : Nat) (l : List Int), out[i]? = some l → Shows kind ins rs i l) :
    ShowsIn kind ins rs r (dedup ((ins r).flatMap fun n => out.getD n.toNat [])) := by
  refine ⟨dedup_rising _, fun x => ?_⟩
  rw [mem_dedup, List.mem_flatMap]
  constructor
  · rintro ⟨n, hn, hx⟩
    obtain ⟨h0, h1⟩ := hin n hn
    obtain ⟨k, rfl⟩ : ∃ k : Nat, n = k := ⟨n.toNat, by omega⟩
    have hk : out[k]? = some (out[k]'(by omega)) := List.getElem?_eq_getElem _
    have he : out.getD (k : Int).toNat [] = out[k]'(by omega) := by simp [hk]
    rw [he] at hx
    obtain ⟨j, e, hl⟩ := ((ho k _ hk).2 x).1 hx
    exact ⟨k, j, hn, e, hl⟩
  · rintro ⟨k, j, hn, e, hl⟩
    refine ⟨k, hn, ?_⟩
    obtain ⟨_, h1⟩ := hin _ hn
    have hk : out[k]? = some (out[k]'(by omega)) := List.getElem?_eq_getElem _
    have he : out.getD (k : Int).toNat [] = out[k]'(by omega) := by simp [hk]
    rw [he]
    exact ((ho k _ hk).2 x).2 ⟨j, e, hl⟩
theorem shows_self {rs : List R} {i : Nat} {r : R} (h : rs[i]? = some r) (hk : kind r ≠ 6) : Shows kind ins rs i [(i : Int)] := by
  refine ⟨by simp [Rising], fun x => ?_⟩
  rw [List.mem_singleton]
  constructor
  · rintro rfl; exact ⟨i, rfl, .self h hk⟩
  · rintro ⟨j, rfl, hl⟩; rw [hl.of_self h hk]
theorem shows_sub {rs : List R} {i : Nat} {r : R} {l : List Int} (h : rs[i]? = some r) (hk : kind r = 6) (hl : ShowsIn kind ins rs r l) : Shows kind ins rs i l := by
  refine ⟨hl.1, fun x => (hl.2 x).trans ⟨?_, ?_⟩⟩
  · rintro ⟨k, j, h1, h2, h3⟩; exact ⟨j, h2, .sub h hk h1 h3⟩
  · rintro ⟨j, h2, h3⟩
    obtain ⟨k, h1, h4⟩ := h3.of_sub h hk
    exact ⟨k, j, h1, h2, h4⟩
theorem rising_range (n : Nat) (p : Nat → Bool) : Rising (((List.range n).filter p).map (fun k : Nat => (k : Int))) := by
  unfold Rising
  rw [List.pairwise_map]
  exact (List.pairwise_lt_range.filter p).imp fun h => by omega
end
end Go.PW
