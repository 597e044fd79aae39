/-
  PwStrconv: contracts of strconv and strings: numerals, cuts.
-/
import Derived.Test.YtpcmhhbocifbcaaGreatDoorPwShelf
import Derived.Test.YtpcmhhbocifbcaaGreatDoorPwGlob
import Derived.Lib.LaidTab
import Derived.Lib.ItoaNum
import Derived.Lib.AtoiAll
import Derived.Lib.IndexMore
import Derived.Lib.Split
import Derived.Lib.Join
namespace Go.PW
open Go.RowKit
variable {P : Program} {f : FuncId}
theorem DV.int_eq {w : World} {I : Nat → Prop} {v : Value} {k : IntKind} {n : Int} (h : DV w I v (.int k n)) : v = .int k n := by cases h; rfl
theorem glob_cell {w : World} {I : Nat → Prop} {g : Nat} {cs : List PV} (hG : Glob w I) (hl : look globs g = some cs) {j : Nat} {p : PV} (hp : cs[j]? = some p) : ∃ v, w.cell? ⟨g, j, none⟩ = some v ∧ DV w I v p := by
  obtain ⟨hd, -⟩ := hG g cs hl
  cases hd with
  | pim ad _ F hi hlt ho hc hv =>
    refine ⟨F j, ?_, hv j p hp⟩
    have := hc j p hp
    have e : (⟨g, 0, none⟩ : Addr).add j = ⟨g, j, none⟩ := by
      unfold Addr.add
      split
      · rename_i hj; subst hj; rfl
      · simp
    rw [e] at this
    exact this
theorem tab_of {w : World} {I : Nat → Prop} {g : Nat} {zs : List Int} {k : IntKind} {name : String} (hG : Glob w I) (hl : look globs g = some (zs.map fun z => PV.int k z)) (hn : P.globalNamed name = some g) : Lib.TabIs P w name k zs := by
  have hex := (hG g _ hl).2
  obtain ⟨vs, t, fr, e1, e2⟩ := hex
  have hv : w.var? P name = some vs := by
    unfold World.var?
    rw [hn, Option.bind_some, e1]
  unfold Lib.TabIs
  rw [hv]
  congr 1
  refine Array.ext (by simpa using e2) fun j h1 h2 => ?_
  have hj : j < zs.length := by simpa using h2
  obtain ⟨v, c1, c2⟩ := glob_cell hG hl (j := j) (p := .int k zs[j]) (by simp [hj])
  have c3 := c2.int_eq
  subst c3
  rw [World.var?_cell hn hv j] at c1
  have := (Array.getElem?_eq_some_iff.1 c1).2
  rw [this]
  simp
def libItoa (n : Int) : Option (List UInt8) := if (-9223372036854775808 ≤ n ∧ n ≤ 9223372036854775807) ∧ (Lib.itoa n).length ≤ 1000 then some (Lib.itoa n) else none
theorem PSpec.ofItoa {n : Int} {r : List UInt8} (hr : libItoa n = some r) (h : -9223372036854775808 ≤ n → n ≤ 9223372036854775807 → ∀ w I, Glob w I → Calls P f #[.int .i64 n] w fun e w' => e = .returned (.string ⟨(Lib.itoa n).toArray⟩) ∧ Below w.heap.size w w') : PSpec P f [.int .i64 n] (.str r) := by
  unfold libItoa at hr
  split at hr
  · rename_i hc
    injection hr with hr
    subst hr
    intro w vs I hv hG
    obtain ⟨q, rfl, hq⟩ := hv.int1
    have := hq.none
    subst this
    exact (h hc.1.1 hc.1.2 w I hG).mono fun e w' ⟨he, hw⟩ => ⟨_, he, hw, .str _ (by unfold big; omega)⟩
  · cases hr
def libAtoi (s : List UInt8) : Option (Int × Bool) :=
  if s.length ≤ 281474976710656 then some (match Lib.atoiAll s with
    | .ok v => (v, false)
    | .range => (Lib.atoiSat s, true)
    | _ => (0, true)) else none
theorem tup2_dv {w : World} {I : Nat → Prop} {v1 v2 : Value} {p1 p2 : PV} (h1 : DV w I v1 p1) (h2 : DV w I v2 p2) : DV w I (.tuple #[v1, v2]) (.tup [p1, p2]) := by
  refine .tup _ _ rfl fun j v p hv hp => ?_
  match j with
  | 0 => simp at hv hp; subst hv hp; exact h1
  | 1 => simp at hv hp; subst hv hp; exact h2
  | j + 2 => simp at hp
theorem tup3_dv {w : World} {I : Nat → Prop} {v1 v2 v3 : Value} {p1 p2 p3 : PV} (h1 : DV w I v1 p1) (h2 : DV w I v2 p2) (h3 : DV w I v3 p3) : DV w I (.tuple #[v1, v2, v3]) (.tup [p1, p2, p3]) := by
  refine .tup _ _ rfl fun j v p hv hp => ?_
  match j with
  | 0 => simp at hv hp; subst hv hp; exact h1
  | 1 => simp at hv hp; subst hv hp; exact h2
  | 2 => simp at hv hp; subst hv hp; exact h3
  | j + 3 => simp at hp
theorem PSpec.ofAtoi {s : List UInt8} {r : Int × Bool} (hr : libAtoi s = some r)
    (hok : s.length ≤ 281474976710656 → ∀ v, Lib.atoiAll s = .ok v → ∀ w, Calls P f #[.string ⟨s.toArray⟩] w fun e w' => e = .returned (.tuple #[.int .i64 v, .nilIface]) ∧ Below w.heap.size w w')
    (hsy : s.length ≤ 281474976710656 → Lib.atoiAll s = Lib.atoiAll [] → ∀ w I, Glob w I → Calls P f #[.string ⟨s.toArray⟩] w fun e w' => ∃ t v, e = .returned (.tuple #[.int .i64 0, .iface t v]) ∧ Below w.heap.size w w')
    (hra : s.length ≤ 281474976710656 → Lib.atoiAll s = .range → ∀ w I, Glob w I → Calls P f #[.string ⟨s.toArray⟩] w fun e w' => ∃ t v, e = .returned (.tuple #[.int .i64 (Lib.atoiSat s), .iface t v]) ∧ Below w.heap.size w w') :
    PSpec P f [.str s] (.tup [.int .i64 r.1, .ifc r.2]) := by
  unfold libAtoi at hr
  split at hr
  · rename_i hl
    injection hr with hr
    intro w vs I hv hG
    obtain ⟨q, rfl, hq⟩ := hv.str1
    have := hq.none
    subst this
    cases ha : Lib.atoiAll s
    · rename_i v
      rw [ha] at hr
      subst hr
      exact (hok hl v ha w).mono fun e w' ⟨he, hw⟩ => ⟨_, he, hw, tup2_dv (.int _ _) .nilI⟩
    · rw [ha] at hr
      subst hr
      exact (hsy hl ha w I hG).mono fun e w' ⟨t, v, he, hw⟩ => ⟨_, he, hw, tup2_dv (.int _ _) (.iface _ _)⟩
    · rw [ha] at hr
      subst hr
      exact (hra hl ha w I hG).mono fun e w' ⟨t, v, he, hw⟩ => ⟨_, he, hw, tup2_dv (.int _ _) (.iface _ _)⟩
  · cases hr
def libCut (a b : List UInt8) : Option (List UInt8 × List UInt8 × Bool) :=
  if a.length < 4294967281 ∧ (Lib.cut a b).1.length ≤ 4294967281 ∧ (Lib.cut a b).2.1.length ≤ 4294967281 then some (Lib.cut a b) else none
theorem PSpec.ofCut {a b : List UInt8} {r : List UInt8 × List UInt8 × Bool} (hr : libCut a b = some r)
    (h : a.length < 4294967281 → ∀ w I, Glob w I → Calls P f #[.string ⟨a.toArray⟩, .string ⟨b.toArray⟩] w fun e w' => e = .returned (.tuple #[.string ⟨(Lib.cut a b).1.toArray⟩, .string ⟨(Lib.cut a b).2.1.toArray⟩, .bool (Lib.cut a b).2.2]) ∧ Below w.heap.size w w') :
    PSpec P f [.str a, .str b] (.tup [.str r.1, .str r.2.1, .bool r.2.2]) := by
  unfold libCut at hr
  split at hr
  · rename_i hc
    injection hr with hr
    subst hr
    intro w vs I hv hG
    obtain ⟨q, rfl, hq⟩ := hv.str1
    obtain ⟨q', rfl, hq'⟩ := hq.str1
    have := hq'.none
    subst this
    exact (h hc.1 w I hG).mono fun e w' ⟨he, hw⟩ => ⟨_, he, hw, tup3_dv (.str _ (by unfold big; omega)) (.str _ (by unfold big; omega)) (.bool _)⟩
  · cases hr
def libSplit (a b : List UInt8) : Option (List (List UInt8)) :=
  let l := (Lib.splitB ⟨b.toArray⟩ 0 (Lib.countB ⟨a.toArray⟩ ⟨b.toArray⟩) ⟨a.toArray⟩).map (fun s => s.data.toList)
  if a.length < 4294967281 ∧ 1 ≤ b.length ∧ l.length = Lib.countB ⟨a.toArray⟩ ⟨b.toArray⟩ + 1 ∧ l.length ≤ 4294967281 ∧ l.all (fun s => decide (s.length ≤ 4294967281)) = true then some l else none
theorem PSpec.ofSplit {a b : List UInt8} {l : List (List UInt8)} (hr : libSplit a b = some l)
    (h : a.length < 4294967281 → 1 ≤ b.length → ∀ w I, Glob w I → ∃ t, Calls P f #[.string ⟨a.toArray⟩, .string ⟨b.toArray⟩] w fun e w' =>
      e = .returned (.slice (some ⟨w.heap.size, 0, none⟩) (Lib.countB ⟨a.toArray⟩ ⟨b.toArray⟩ + 1) (Lib.countB ⟨a.toArray⟩ ⟨b.toArray⟩ + 1)) ∧ w' = w.alloc (.cells ((Lib.splitB ⟨b.toArray⟩ 0 (Lib.countB ⟨a.toArray⟩ ⟨b.toArray⟩) ⟨a.toArray⟩).map Value.string).toArray t)) :
    PSpec P f [.str a, .str b] (.list 1 (l.map cS)) := by
  unfold libSplit at hr
  simp only [] at hr
  split at hr
  · rename_i hc
    obtain ⟨c1, c2, c3, c4, c5⟩ := hc
    injection hr with hr
    generalize hS : Lib.splitB ⟨b.toArray⟩ 0 (Lib.countB ⟨a.toArray⟩ ⟨b.toArray⟩) ⟨a.toArray⟩ = S at *
    generalize Lib.countB ⟨a.toArray⟩ ⟨b.toArray⟩ = N at *
    subst hr
    intro w vs I hv hG
    obtain ⟨q, rfl, hq⟩ := hv.str1
    obtain ⟨q', rfl, hq'⟩ := hq.str1
    have := hq'.none
    subst this
    obtain ⟨t, hcall⟩ := h c1 c2 w I hG
    refine hcall.mono fun e w' ⟨he, hw⟩ => ⟨_, he, ?_, ?_⟩
    · subst hw
      exact (Below.refl _ _).alloc (Nat.le_refl _) _
    · subst hw
      have hlen : (S.map (fun s => s.data.toList)).length = S.length := List.length_map _
      have hN : N + 1 = ((S.map (fun s => s.data.toList)).map cS).length := by rw [List.length_map]; omega
      rw [hN]
      have hblk : (w.alloc (.cells (S.map Value.string).toArray t)).heap[w.heap.size]? = some (.cells (S.map Value.string).toArray t (0, 0)) := by
        show (w.heap.push _)[w.heap.size]? = _
        rw [Array.getElem?_push_size]
      refine .list ⟨w.heap.size, 0, none⟩ _ 1 _ (fun i _ => .string ((S[i]?).getD ByteArray.empty)) (Nat.le_refl _) ?_ (.inr (Nat.le_refl _)) (by show w.heap.size < (w.heap.push _).size; rw [Array.size_push]; omega) ?_ ?_ ?_
      · rw [List.length_map]; unfold big; omega
      · intro i cs hi
        rw [List.getElem?_map, List.getElem?_map] at hi
        cases hs : S[i]? with
        | none => rw [hs] at hi; cases hi
        | some x =>
          rw [hs] at hi
          injection hi with hi
          subst hi
          exact ⟨rfl, fun p hp => by simp [cS] at hp; subst hp; rfl⟩
      · intro i cs j p hi hj
        rw [List.getElem?_map, List.getElem?_map] at hi
        cases hs : S[i]? with
        | none => rw [hs] at hi; cases hi
        | some x =>
          rw [hs] at hi
          injection hi with hi
          subst hi
          have hj0 : j = 0 := by
            have := (List.getElem?_eq_some_iff.1 hj).1
            simp [cS] at this
            exact this
          subst hj0
          have e : (⟨w.heap.size, 0, none⟩ : Addr).add (i * 1 + 0) = ⟨w.heap.size, i, none⟩ := by
            unfold Addr.add
            split
            · rename_i h0
              have : i = 0 := by omega
              subst this; rfl
            · simp
          rw [e]
          unfold World.cell?
          simp only [hblk]
          simp [hs]
      · intro i cs j p hi hj
        rw [List.getElem?_map, List.getElem?_map] at hi
        cases hs : S[i]? with
        | none => rw [hs] at hi; cases hi
        | some x =>
          rw [hs] at hi
          injection hi with hi
          subst hi
          have hj0 : j = 0 := by
            have := (List.getElem?_eq_some_iff.1 hj).1
            simp [cS] at this
            exact this
          subst hj0
          simp [cS] at hj
          subst hj
          have hx := List.all_eq_true.1 c5 x.data.toList (List.mem_map.2 ⟨x, List.mem_of_getElem? hs, rfl⟩)
          rw [decide_eq_true_eq] at hx
          have e : x = ⟨x.data.toList.toArray⟩ := by simp
          have hd := DV.str (w := w.alloc (.cells (S.map Value.string).toArray t)) (I := fun b => I b ∨ w.heap.size ≤ b) x.data.toList (by unfold big; omega)
          rw [← e] at hd
          simpa [hs] using hd
  · cases hr
def libJoin (l : List (List UInt8)) (sep : List UInt8) : Option (List UInt8) := if l.length ≤ big ∧ (Lib.join l sep).length ≤ big then some (Lib.join l sep) else none
theorem PSpec.ofJoin {l : List (List UInt8)} {sep r : List UInt8} (hr : libJoin l sep = some r)
    (h0 : l = [] → ∀ w (a : Option Addr) c, Calls P f #[.slice a 0 c, .string ⟨sep.toArray⟩] w fun e w' => e = .returned (.string ⟨(Lib.join l sep).toArray⟩) ∧ Below w.heap.size w w')
    (h1 : l.length ≤ big → (Lib.join l sep).length ≤ big → ∀ w bk o c, (∀ (j : Nat) x, l[j]? = some x → w.cell? ⟨bk, o + j, none⟩ = some (.string ⟨x.toArray⟩)) → bk < w.heap.size → l.length ≤ c →
      Calls P f #[.slice (some ⟨bk, o, none⟩) l.length c, .string ⟨sep.toArray⟩] w fun e w' => e = .returned (.string ⟨(Lib.join l sep).toArray⟩) ∧ Below w.heap.size w w') :
    PSpec P f [.list 1 (l.map cS), .str sep] (.str r) := by
  unfold libJoin at hr
  split at hr
  · rename_i hc
    injection hr with hr
    subst hr
    intro w vs I hv hG
    cases hv with
    | cons hd t =>
      obtain ⟨q, rfl, hq⟩ := t.str1
      have := hq.none
      subst this
      generalize hes : l.map cS = es at hd
      cases hd with
      | list0 a c sz e0 =>
        have hl : l = [] := List.map_eq_nil_iff.1 hes
        exact (h0 hl w a c).mono fun e w' ⟨he, hw⟩ => ⟨_, he, hw, .str _ hc.2⟩
      | list ad c sz es F hcap hb hI hlt hsz hcell hval =>
        subst hes
        by_cases hl : l = []
        · subst hl
          exact (h0 rfl w (some ad) c).mono fun e w' ⟨he, hw⟩ => ⟨_, he, hw, .str _ hc.2⟩
        · have hcl : ∀ (j : Nat) x, l[j]? = some x → w.cell? (ad.add j) = some (.string ⟨x.toArray⟩) := by
            intro j x hx
            have g1 := hcell j [.str x] 0 (.str x) (by rw [List.getElem?_map, hx]; rfl) rfl
            have g2 := hval j [.str x] 0 (.str x) (by rw [List.getElem?_map, hx]; rfl) rfl
            rw [show j * 1 + 0 = j by omega] at g1
            generalize F j 0 = v at g1 g2
            cases g2
            exact g1
          obtain ⟨x, hx⟩ : ∃ x, l[0]? = some x := by
            cases l with
            | nil => exact absurd rfl hl
            | cons x l => exact ⟨x, rfl⟩
          have hsp : ad.spot = none := by
            have := hcl 0 x hx
            unfold World.cell? at this
            split at this
            · split at this
              · cases this
              · rename_i hs
                have e : (ad.add 0) = ad := rfl
                rw [e] at hs
                cases hs2 : ad.spot with
                | none => rfl
                | some _ => rw [hs2] at hs; simp at hs
            · cases this
          obtain ⟨bk, o, sp⟩ := ad
          simp only [] at hsp
          subst hsp
          have hadd : ∀ j, (⟨bk, o, none⟩ : Addr).add j = ⟨bk, o + j, none⟩ := by
            intro j
            unfold Addr.add
            split
            · rename_i hj; subst hj; rfl
            · rfl
          rw [List.length_map]
          exact (h1 hc.1 hc.2 w bk o c (fun j x hx => by rw [← hadd]; exact hcl j x hx) hlt (by rw [List.length_map] at hcap; exact hcap)).mono fun e w' ⟨he, hw⟩ => ⟨_, he, hw, .str _ hc.2⟩
  · cases hr
end Go.PW
