/-
  PwFam: a row of rows: the inner rows are a family, under the names B, B + 1, ..
-/
import Derived.Test.YtjmmlddioeehbaaGreatDoorPwInl
namespace Go.PW
open Go.RowKit
noncomputable section
theorem Wk.eqv {st st' : St} (h1 : look st'.slots = look st.slots) (h2 : look st'.mem = look st.mem) (h3 : st'.gen = st.gen) : Wk st st' := fun _ _ _ _ _ hd R => ⟨hd, R.eqv h1 h2 h3⟩
section
variable {α : Type}
def famE (elem sz : Nat) (c : α → List PV) (xs : List α) : Ent := ⟨0, elem, sz, xs.map c, true, false, false⟩
def fam (B elem sz : Nat) (c : α → List PV) : List (List α) → List (Nat × Ent)
  | [] => []
  | xs :: r => (B, famE elem sz c xs) :: fam (B + 1) elem sz c r
variable {B elem sz : Nat} {c : α → List PV} {xss : List (List α)}
def below (B : Nat) (L : List (Nat × Ent)) : Bool := L.all fun x => decide (x.1 < B)
inductive Skip (B : Nat) (F : List (Nat × Ent)) : List (Nat × Ent) → Prop
  | base : Skip B F F
  | cons {k : Nat} {v : Ent} {M : List (Nat × Ent)} (h : k < B) (t : Skip B F M) : Skip B F ((k, v) :: M)
theorem Skip.look {F M : List (Nat × Ent)} (h : Skip B F M) {n : Nat} (hn : B ≤ n) : look M n = look F n := by
  induction h with
  | base => rfl
  | cons h _ ih => rw [look_ne _ _ (by omega)]; exact ih
inductive NoKey (d : Nat) : List (Nat × Ent) → Prop
  | base {B elem sz : Nat} {c : α → List PV} {xss : List (List α)} (h : d < B) : NoKey d (fam B elem sz c xss)
  | cons {k : Nat} {v : Ent} {M : List (Nat × Ent)} (h : k ≠ d) (t : NoKey d M) : NoKey d ((k, v) :: M)
variable {P : Program} {r : List LOper} {acc : List Log} {sl : List (Nat × PV)} {m : List (Nat × Ent)} {g d : Nat} {K : List Log → St → Prop} {x y : LX} {k : IntKind} {a : Int} {xs : List α}
theorem Wk.keep (ks : List Nat) {sl sl' : List (Nat × PV)} {m : List (Nat × Ent)} {g : Nat} (h : (ks.filterMap fun t => (look sl t).map fun p => (t, p)) = sl') : Wk ⟨sl, m, g⟩ ⟨sl', m, g⟩ := by
  subst h
  intro w0 I0 N a w hd R
  refine ⟨hd, ⟨R.mem, R.defers, R.size, R.top, fun t p ht => ?_, R.frame⟩⟩
  obtain ⟨_, q, h1, rfl⟩ := look_fm (look sl) (fun q : PV => q) ks t p ht
  exact R.slot t _ h1
end
end
end Go.PW
