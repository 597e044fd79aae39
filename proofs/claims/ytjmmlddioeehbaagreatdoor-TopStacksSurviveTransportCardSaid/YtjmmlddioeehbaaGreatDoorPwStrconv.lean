/-
  PwStrconv: contracts of strconv and strings: numerals, cuts.
-/
import Derived.Test.YtjmmlddioeehbaaGreatDoorPwShelf
import Derived.Test.YtjmmlddioeehbaaGreatDoorPwGa
import Derived.Lib.LaidTab
import Derived.Lib.ItoaNum
import Derived.Lib.AtoiAll
import Derived.Lib.IndexMore
import Derived.Lib.Split
import Derived.Lib.Join
namespace Go.PW
open Go.RowKit
variable {P : Program} {f : FuncId}
theorem DV.int_eq {w : World} {I : Nat → Prop} {v : Value} {k : IntKind} {n : Int} (h : DV w I v (.int k n)) : v = .int k n := by cases h; rfl
theorem glob_cell {w : World} {I : Nat → Prop} {g : Nat} {cs : List PV} (hG : Glob w I) (hl : look globs g = some cs) {j : Nat} {p : PV} (hp : cs[j]? = some p) : ∃ v, w.cell? ⟨g, j, none⟩ = some v ∧ DV w I v p := by
  obtain ⟨hd, -⟩ := hG g cs hl
  cases hd with
  | pim ad _ F hi hlt ho hc hv =>
    refine ⟨F j, ?_, hv j p hp⟩
    have := hc j p hp
    have e : (⟨g, 0, none⟩ : Addr).add j = ⟨g, j, none⟩ := by
      unfold Addr.add
      split
      · rename_i hj; subst hj; rfl
      · simp
    rw [e] at this
    exact this
theorem tab_of {w : World} {I : Nat → Prop} {g : Nat} {zs : List Int} {k : IntKind} {name : String} (hG : Glob w I) (hl : look globs g = some (zs.map fun z => PV.int k z)) (hn : P.globalNamed name = some g) : Lib.TabIs P w name k zs := by
  have hex := (hG g _ hl).2
  obtain ⟨vs, t, fr, e1, e2⟩ := hex
  have hv : w.var? P name = some vs := by
    unfold World.var?
    rw [hn, Option.bind_some, e1]
  unfold Lib.TabIs
  rw [hv]
  congr 1
  refine Array.ext (by simpa using e2) fun j h1 h2 => ?_
  have hj : j < zs.length := by simpa using h2
  obtain ⟨v, c1, c2⟩ := glob_cell hG hl (j := j) (p := .int k zs[j]) (by simp [hj])
  have c3 := c2.int_eq
  subst c3
  rw [World.var?_cell hn hv j] at c1
  have := (Array.getElem?_eq_some_iff.1 c1).2
  rw [this]
  simp
def libItoa (n : Int) : Option (List UInt8) := if (-9223372036854775808 ≤ n ∧ n ≤ 9223372036854775807) ∧ (Lib.itoa n).length ≤ 1000 then some (Lib.itoa n) else none
theorem PSpec.ofItoa {n : Int} {r : List UInt8} (hr : libItoa n = some r) (h : -9223372036854775808 ≤ n → n ≤ 9223372036854775807 → ∀ w I, Glob w I → Calls P f #[.int .i64 n] w fun e w' => e = .returned (.string ⟨(Lib.itoa n).toArray⟩) ∧ Below w.heap.size w w') : PSpec P f [.int .i64 n] (.str r) := by
  unfold libItoa at hr
  split at hr
  · rename_i hc
    injection hr with hr
    subst hr
    intro w vs I hv hG
    obtain ⟨q, rfl, hq⟩ := hv.int1
    have := hq.none
    subst this
    exact (h hc.1.1 hc.1.2 w I hG).mono fun e w' ⟨he, hw⟩ => ⟨_, he, hw, .str _ (by unfold big; omega)⟩
  · cases hr
def libAtoi (s : List UInt8) : Option (Int × Bool) :=
  if s.length ≤ 281474976710656 then some (match Lib.atoiAll s with
    | .ok v => (v, false)
    | .range => (Lib.atoiSat s, true)
    | _ => (0, true)) else none
theorem tup2_dv {w : World} {I : Nat → Prop} {v1 v2 : Value} {p1 p2 : PV} (h1 : DV w I v1 p1) (h2 : DV w I v2 p2) : DV w I (.tuple #[v1, v2]) (.tup [p1, p2]) := by
  refine .tup _ _ rfl fun j v p hv hp => ?_
  match j with
  | 0 => simp at hv hp; subst hv hp; exact h1
  | 1 => simp at hv hp; subst hv hp; exact h2
  | j + 2 => simp at hp
theorem tup3_dv {w : World} {I : Nat → Prop} {v1 v2 v3 : Value} {p1 p2 p3 : PV} (h1 : DV w I v1 p1) (h2 : DV w I v2 p2) (h3 : DV w I v3 p3) : DV w I (.tuple #[v1, v2, v3]) (.tup [p1, p2, p3]) := by
  refine .tup _ _ rfl fun j v p hv hp => ?_
  match j with
  | 0 => simp at hv hp; subst hv hp; exact h1
  | 1 => simp at hv hp; subst hv hp; exact h2
  | 2 => simp at hv hp; subst hv hp; exact h3
  | j + 3 => simp at hp
theorem PSpec.ofAtoi {s : List UInt8} {r : Int × Bool} (hr : libAtoi s = some r)
    (hok : s.length ≤ 281474976710656 → ∀ v, Lib.atoiAll s = .ok v → ∀ w, Calls P f #[.string ⟨s.toArray⟩] w fun e w' => e = .returned (.tuple #[.int .i64 v, .nilIface]) ∧ Below w.heap.size w w')
    (hsy : s.length ≤ 281474976710656 → Lib.atoiAll s = Lib.atoiAll [] → ∀ w I, Glob w I → Calls P f #[.string ⟨s.toArray⟩] w fun e w' => ∃ t v, e = .returned (.tuple #[.int .i64 0, .iface t v]) ∧ Below w.heap.size w w')
    (hra : s.length ≤ 281474976710656 → Lib.atoiAll s = .range → ∀ w I, Glob w I → Calls P f #[.string ⟨s.toArray⟩] w fun e w' => ∃ t v, e = .returned (.tuple #[.int .i64 (Lib.atoiSat s), .iface t v]) ∧ Below w.heap.size w w') :
    PSpec P f [.str s] (.tup [.int .i64 r.1, .ifc r.2]) := by
  unfold libAtoi at hr
  split at hr
  · rename_i hl
    injection hr with hr
    intro w vs I hv hG
    obtain ⟨q, rfl, hq⟩ := hv.str1
    have := hq.none
    subst this
    cases ha : Lib.atoiAll s
    · rename_i v
      rw [ha] at hr
      subst hr
      exact (hok hl v ha w).mono fun e w' ⟨he, hw⟩ => ⟨_, he, hw, tup2_dv (.int _ _) .nilI⟩
    · rw [ha] at hr
      subst hr
      exact (hsy hl ha w I hG).mono fun e w' ⟨t, v, he, hw⟩ => ⟨_, he, hw, tup2_dv (.int _ _) (.iface _ _)⟩
    · rw [ha] at hr
      subst hr
      exact (hra hl ha w I hG).mono fun e w' ⟨t, v, he, hw⟩ => ⟨_, he, hw, tup2_dv (.int _ _) (.iface _ _)⟩
  · cases hr
def libCut (a b : List UInt8) : Option (List UInt8 × List UInt8 × Bool) :=
  if a.length < 4294967281 ∧ (Lib.cut a b).1.length ≤ 4294967281 ∧ (Lib.cut a b).2.1.length ≤ 4294967281 then some (Lib.cut a b) else none
theorem PSpec.ofCut {a b : List UInt8} {r : List UInt8 × List UInt8 × Bool} (hr : libCut a b = some r)
    (h : a.length < 4294967281 → ∀ w I, Glob w I → Calls P f #[.string ⟨a.toArray⟩, .string ⟨b.toArray⟩] w fun e w' => e = .returned (.tuple #[.string ⟨(Lib.cut a b).1.toArray⟩, .string ⟨(Lib.cut a b).2.1.toArray⟩, .bool (Lib.cut a b).2.2]) ∧ Below w.heap.size w w') :
    PSpec P f [.str a, .str b] (.tup [.str r.1, .str r.2.1, .bool r.2.2]) := by
  unfold libCut at hr
  split at hr
  · rename_i hc
    injection hr with hr
    subst hr
    intro w vs I hv hG
    obtain ⟨q, rfl, hq⟩ := hv.str1
    obtain ⟨q', rfl, hq'⟩ := hq.str1
    have := hq'.none
    subst this
    exact (h hc.1 w I hG).mono fun e w' ⟨he, hw⟩ => ⟨_, he, hw, tup3_dv (.str _ (by unfold big; omega)) (.str _ (by unfold big; omega)) (.bool _)⟩
  · cases hr
end Go.PW
