/-
  PwSortI: a call that takes a row of the call's own of integers and writes it anew (slices.Sort, slices.Compact), as a contract that changes a row.
-/
import Derived.Test.YtfdfhpembpjglaaDoorPwSort
import Derived.Sort.OwnSortedInts
import Derived.Lib.SlicesCompact
namespace Go.PW
open Go.RowKit Go.Proofs Go.Sort
variable {P : Program} {f : FuncId}
def sortedI (l : List Int) : List Int := l.mergeSort fun x y => decide (x ≤ y)
theorem PMut.rowI {e : TypeId} {dt : Bool} {ss ts : List Int} {res : PV} {R : Option Addr → Nat → Value} (hl : ts.length = ss.length)
    (hsort : ∀ (blk off cap : Nat) (w : World), Holds (Value.int .i64) w blk off ss.toArray → blk < w.heap.size → ss.length < 4611686018427387904 → ss.length ≤ cap →
      Calls P f #[.slice (some ⟨blk, off, none⟩) ss.length cap] w fun r w' => r = .returned (R (some ⟨blk, off, none⟩) cap) ∧ ∃ n os, w' = grow (putRow (Value.int .i64) (Sort.ahead w n) blk off ts.toArray) os)
    (hnil : ss = [] → ∀ w, Calls P f #[.slice none 0 0] w fun r w' => r = .returned (R none 0) ∧ w.grownBy w' none)
    (hres : ∀ (C : Ctx) (a : Option Addr) (c : Nat), C.gen = 2 → C.mem = [(1, ⟨0, e, 1, List.map cI ts, dt, false, false⟩)] → C.hd 1 = .slice a ss.length c → RV C (R a c) res) :
    PMut P f [.own 1 0] [(1, ⟨0, e, 1, List.map cI ss, dt, false, false⟩)] res [(1, ⟨0, e, 1, List.map cI ts, dt, false, false⟩)] := by
  intro w hd I gh vs M hlv hv
  obtain ⟨v0, rfl⟩ : ∃ v, vs = [v] := by
    match vs, hlv with
    | [v], _ => exact ⟨v, rfl⟩
  have h0 := hv 0 v0 _ rfl rfl
  have hv0 : v0 = hd 1 := by
    cases h0 with
    | data _ _ h => cases h
    | own _ _ _ _ _ h => exact h _ ((live1 rfl rfl).2 ⟨rfl, rfl, rfl⟩)
  subst hv0
  obtain ⟨xs, hown, hbig, hel⟩ := M.rows 1 0 ⟨0, e, 1, List.map cI ss, dt, false, false⟩ ((live1 rfl rfl).2 ⟨rfl, rfl, rfl⟩)
  simp only [List.length_map] at hown hbig
  have hxs : xs = ss.map (Value.int .i64) := by
    have hlen : xs.length = ss.length := by have := hown.1; simpa using this
    apply List.ext_getElem?
    intro i
    by_cases hi : i < ss.length
    · obtain ⟨_, _, hj⟩ := hel i (cI ss[i]) (by simp [hi])
      obtain ⟨v, hx, hr, _⟩ := hj 0 (.int .i64 ss[i]) rfl
      have hve : v = .int .i64 ss[i] := by
        cases hr with
        | data _ _ h => cases h with
          | int _ _ => rfl
      simp only [Nat.mul_one, Nat.add_zero] at hx
      rw [hx, hve]
      simp [hi]
    · rw [List.getElem?_eq_none (by omega), List.getElem?_eq_none (by simp; omega)]
  subst hxs
  have key : ∀ w' a c, hd 1 = .slice a ss.length c → w.grownBy w' (hd 1).ownBlock → w'.ownsRow 0 e 1 (hd 1) ts.length (ts.map (Value.int .i64)) →
      ∃ v hd', Ending.returned (R a c) = .returned v ∧ MemInv ⟨w, 0, Nat.zero_le _⟩ ⟨w', [(1, ⟨0, e, 1, List.map cI ts, dt, false, false⟩)], hd', 2, fun b => I b ∨ w.heap.size ≤ b, gh⟩ ∧
        RV ⟨w', [(1, ⟨0, e, 1, List.map cI ts, dt, false, false⟩)], hd', 2, fun b => I b ∨ w.heap.size ≤ b, gh⟩ v res ∧
        (∀ nm e0 e', live [(1, ⟨0, e, 1, List.map cI ss, dt, false, false⟩)] nm 0 = some e0 → live [(1, ⟨0, e, 1, List.map cI ts, dt, false, false⟩)] nm 0 = some e' → hd' nm = hd nm) ∧
        ∀ b, b < w.heap.size → free [(1, ⟨0, e, 1, List.map cI ss, dt, false, false⟩)] hd b → free [(1, ⟨0, e, 1, List.map cI ts, dt, false, false⟩)] hd' b ∧ w'.heap[b]? = w.heap[b]? := by
    intro w' a c hac hg ho
    have lv : ∀ {nm ver e0}, live [(1, (⟨0, e, 1, List.map cI ts, dt, false, false⟩ : Ent))] nm ver = some e0 → nm = 1 ∧ ver = 0 ∧ e0 = ⟨0, e, 1, List.map cI ts, dt, false, false⟩ := by
      intro nm ver e0 h
      exact (live1 rfl rfl).1 h
    have lv1 : live [(1, (⟨0, e, 1, List.map cI ss, dt, false, false⟩ : Ent))] 1 0 = some ⟨0, e, 1, List.map cI ss, dt, false, false⟩ := (live1 rfl rfl).2 ⟨rfl, rfl, rfl⟩
    refine ⟨_, hd, rfl, ⟨M.i0, M.glob.mono hg.size fun b hlt hi => ⟨⟨hi.1, fun nm ver e0 h => by obtain ⟨rfl, rfl, rfl⟩ := lv h; exact hi.2 1 0 _ ((live1 rfl rfl).2 ⟨rfl, rfl, rfl⟩)⟩, hg.block b hlt (fun h => hi.2 1 0 _ ((live1 rfl rfl).2 ⟨rfl, rfl, rfl⟩) h.symm)⟩, ?_, ?_, ?_, ?_, ?_⟩, hres _ a c rfl rfl hac, fun _ _ _ _ _ => rfl, ?_⟩
    · exact (Below.refl 0 w).grown hg (Nat.zero_le _) (fun k _ => Nat.zero_le _)
    · intro nm e0 h
      simp only [look] at h
      by_cases hn : 1 = nm
      · simp [hn] at h; subst h; simp
      · simp [hn] at h
    · intro nm ver e0 h
      obtain ⟨rfl, rfl, rfl⟩ := lv h
      refine ⟨_, by simpa using ho, by simpa [hl] using hbig, ?_⟩
      intro i cs hi
      simp only [List.getElem?_map, Option.map_eq_some_iff] at hi
      obtain ⟨s, hs, rfl⟩ := hi
      refine ⟨rfl, by simp [cI, PV.one], ?_⟩
      intro j p hj
      match j, hj with
      | 0, hj =>
        cases hj
        refine ⟨.int .i64 s, by simp [hs], .data _ _ (.int _ _), fun _ => .int _ _⟩
    · intro nm nm' ver ver' e0 e1 b hne h1 h2
      exact absurd ((lv h1).1.trans (lv h2).1.symm) hne
    · intro nm ver e0 b h hb
      obtain ⟨rfl, rfl, rfl⟩ := lv h
      exact M.own0 1 0 _ b lv1 hb
    · intro b hb hf
      have hne : (hd 1).ownBlock ≠ some b := hf 1 0 _ lv1
      refine ⟨?_, hg.block b hb (fun e => hne e.symm)⟩
      intro nm ver e0 h
      obtain ⟨rfl, rfl, rfl⟩ := lv h
      exact hne
  rcases hown.2 with ⟨hn, h0⟩ | ⟨g, cap, cur, hh, hbase, hb, h1, h2, h3, h4⟩
  · have hs0 : ss = [] := List.eq_nil_of_length_eq_zero h0
    rw [hn]
    refine (hnil hs0 w).mono ?_
    rintro r w' ⟨rfl, hg⟩
    refine key w' _ _ (by rw [hn, hs0]; rfl) (by rw [hn]; exact hg) ?_
    subst hs0
    have ht0 : ts = [] := List.eq_nil_of_length_eq_zero hl
    subst ht0
    exact ⟨by simp, .inl ⟨hn, by simp⟩⟩
  · rw [hh]
    refine (hsort g 0 cap w (holds_of_blockI hb (by simpa using h4)) (Array.getElem?_eq_some_iff.1 hb).1 (by have : big < 4611686018427387904 := (by decide); omega) h1).mono ?_
    rintro r w' ⟨rfl, n, os, rfl⟩
    refine key _ _ _ hh (by rw [hh]; exact grownBy_sortedI _) ?_
    have := ownsRow_sortedI (n := n) (os := os) (ts := ts) hl hbase hb h1 h2 h3
    rw [hh, hl]
    exact this
theorem PMut.sortI {e : TypeId} {dt : Bool} {ss : List Int}
    (hsort : ∀ (blk off cap : Nat) (w : World), Holds (Value.int .i64) w blk off ss.toArray → blk < w.heap.size → ss.length < 4611686018427387904 →
      Calls P f #[.slice (some ⟨blk, off, none⟩) ss.length cap] w fun r w' => r = .returned (.tuple #[]) ∧ ∃ n os, w' = grow (putRow (Value.int .i64) (Sort.ahead w n) blk off (ss.mergeSort fun x y => decide (x ≤ y)).toArray) os)
    (hnil : ∀ w, Calls P f #[.slice none 0 0] w fun r w' => r = .returned (.tuple #[]) ∧ w.grownBy w' none) :
    PMut P f [.own 1 0] [(1, ⟨0, e, 1, List.map cI ss, dt, false, false⟩)] (.tup []) [(1, ⟨0, e, 1, List.map cI (sortedI ss), dt, false, false⟩)] :=
  PMut.rowI (R := fun _ _ => .tuple #[]) (by simp [sortedI]) (fun blk off cap w h1 h2 h3 _ => hsort blk off cap w h1 h2 h3) (fun _ => hnil) fun C a c _ _ _ => .tup #[] [] rfl (fun j v p h => by simp at h)
theorem PMut.compactI {e : TypeId} {dt : Bool} {ss cs : List Int} (hc : cs.length ≤ ss.length)
    (hrun : ∀ (blk off cap : Nat) (w : World), Holds (Value.int .i64) w blk off ss.toArray → ss.length ≤ 9223372036854775807 → ss.length ≤ cap →
      Calls P f #[.slice (some ⟨blk, off, none⟩) ss.length cap] w fun r w' => r = .returned (.slice (some ⟨blk, off, none⟩) cs.length cap) ∧ ∃ q, w' = putRow (Value.int .i64) (Sort.ahead w q) blk off (cs ++ List.replicate (ss.length - cs.length) 0).toArray)
    (hnil : ∀ w, Calls P f #[.slice none 0 0] w fun r w' => r = .returned (.slice none 0 0) ∧ w' = w) :
    PMut P f [.own 1 0] [(1, ⟨0, e, 1, List.map cI ss, dt, false, false⟩)] (.sub 1 0 0 cs.length) [(1, ⟨0, e, 1, List.map cI (cs ++ List.replicate (ss.length - cs.length) 0), dt, false, false⟩)] := by
  refine PMut.rowI (R := fun a c => .slice a cs.length c) (by simp; omega) (fun blk off cap w h1 h2 h3 h4 => (hrun blk off cap w h1 (by omega) h4).mono ?_) (fun h w => ?_) fun C a c hg hm hh => ?_
  · rintro r w' ⟨rfl, q, rfl⟩
    exact ⟨rfl, q, #[], by simp [grow]; rfl⟩
  · have : cs.length = 0 := by rw [h] at hc; simpa using hc
    rw [this]
    exact (hnil w).mono fun r w' ⟨h1, h2⟩ => ⟨h1, h2 ▸ World.grownBy.refl w none⟩
  · refine .sub 1 0 0 _ _ rfl (.inl (by rw [hg]; decide)) fun e0 he => ?_
    rw [hm] at he
    obtain ⟨_, _, rfl⟩ := (live1 rfl rfl).1 he
    rw [hh]
    refine ⟨Nat.zero_le _, by simp, ?_⟩
    have ha : a.map (·.add (0 * 1)) = a := by cases a <;> simp [Addr.add]
    show Value.slice a cs.length c = .slice (if c = 0 then a else a.map (·.add (0 * 1))) (cs.length - 0) (c - 0)
    rw [ha, ite_self]; rfl
section
variable {d nm v : Nat} {elem : TypeId} {sz : Nat} {es es' : List (List PV)} {nw : Bool} {sl : List (Nat × PV)} {m : List (Nat × Ent)} {g : Nat} {r : List LOper} {acc : List Log} {K : List Log → St → Prop}
theorem W.cutCall {n : Nat} {f : FuncId} {as : List LX} (h : PMut P f [.own 1 0] [(1, ⟨0, elem, sz, es, true, false, false⟩)] (.sub 1 0 0 n) [(1, ⟨0, elem, sz, es', true, false, false⟩)]) (hx : lxs sl as = some [.own nm v])
    (hm : look m nm = some ⟨v, elem, sz, es, true, nw, false⟩) (hl : es'.length = es.length) (hu : (r.all fun o => o.dst != some d) = true)
    (kk : W P r ((d :: [nm, nm, nm], [nm]) :: acc) ⟨(d, .sub nm v 0 n) :: sl, (nm, ⟨v, elem, sz, es', true, nw, false⟩) :: m, g⟩ K) : W P (⟨some d, none, .call f as⟩ :: r) acc ⟨sl, m, g⟩ K := by
  refine W.callM (fun _ => (nm, v)) (fun _ => nm) h hx ?_ (res' := .sub nm v 0 n) (up := [(nm, ⟨v, elem, sz, es', true, nw, false⟩)]) rfl ?_ rfl hu kk
  · refine ⟨rfl, ?_, by simp [look], by simp [look], ?_, ?_, ?_, ?_, rfl⟩
    · intro j x p h1 h2
      match j, h1, h2 with
      | 0, h1, h2 => cases h1; cases h2; exact .tok rfl rfl
    · intro x hx y hy hne
      simp at hx hy; subst hx hy; exact absurd rfl hne
    · intro x hx y hy hne
      simp at hx hy; subst hx hy; exact absurd rfl hne
    · intro x hx
      simp at hx; subst hx
      exact ⟨⟨rfl, rfl, rfl⟩, ⟨v, elem, sz, es, true, nw, false⟩, by simp [liveF, hm], rfl, rfl, .inl ⟨rfl, rfl, rfl⟩⟩
    · intro x hx
      simp at hx; subst hx
      refine ⟨⟨rfl, rfl, rfl⟩, ?_, ?_, .inl rfl⟩
      · intro e0 h0; simp [look] at h0; subst h0; exact ⟨rfl, hl⟩
      · intro h0; simp [look] at h0
  · simp [Mut.up, Mut.post, Mut.ent, Mut.gone, hm]
end
def compactRow (l : List Int) : List Int := Lib.compact l ++ List.replicate (l.length - (Lib.compact l).length) 0
theorem compact_length_le (l : List Int) : (Lib.compact l).length ≤ l.length := by
  unfold Lib.compact Lib.compactUpTo
  rw [List.length_map]
  exact Nat.le_trans (List.length_filter_le _ _) (by simp)
theorem compactRow_length (l : List Int) : (compactRow l).length = l.length := by
  have := compact_length_le l
  simp [compactRow]; omega
theorem gcut_compact (l : List Int) : gcut (compactRow l) 0 ((Lib.compact l).length : Int) = some (Lib.compact l) := by
  have := compact_length_le l
  unfold gcut
  rw [if_pos ⟨Int.le_refl _, by omega, by rw [compactRow_length]; omega⟩]
  simp [compactRow]
end Go.PW
