/-
  PwMem: the invariant of a call's own memory, and how the operations turn it.
-/
import Derived.Test.YtjmmlddioeehbaaGreatDoorPwEval
namespace Go.PW
open Go.RowKit
theorem look_same {α : Type} (k : Nat) (v : α) (r : List (Nat × α)) : look ((k, v) :: r) k = some v := by simp [look]
theorem look_ne {α : Type} {k n : Nat} (v : α) (r : List (Nat × α)) (h : k ≠ n) : look ((k, v) :: r) n = look r n := by simp [look, h]
theorem live_eq (mem : List (Nat × Ent)) (nm ver : Nat) : live mem nm ver = liveF (look mem) nm ver := rfl
theorem live_some {mem : List (Nat × Ent)} {nm ver : Nat} {e : Ent} : live mem nm ver = some e ↔ look mem nm = some e ∧ e.ver = ver ∧ e.dead = false := by
  unfold live
  cases h : look mem nm with
  | none => simp
  | some x =>
    simp only
    split
    · rename_i hx
      constructor
      · intro h'; injection h' with h'; subst h'; exact ⟨rfl, hx⟩
      · rintro ⟨h', -⟩; injection h' with h'; rw [h']
    · rename_i hx
      constructor
      · intro h'; cases h'
      · rintro ⟨h', h2⟩; injection h' with h'; subst h'; exact absurd h2 hx
theorem RowOk.lt {B : Nat} {C : Ctx} {nm : Nat} {e : Ent} (h : RowOk B C nm e) : ∀ b, (C.hd nm).ownBlock = some b → B ≤ b ∧ b < C.w.heap.size := by
  obtain ⟨xs, ho, _⟩ := h
  exact ho.lt
theorem RowOk.later {B : Nat} {C C' : Ctx} {nm : Nat} {e : Ent} (h : RowOk B C nm e) (L : Later C C') (hh : C'.hd nm = C.hd nm)
    (hk : ∀ b, (C.hd nm).ownBlock = some b → C'.w.heap[b]? = C.w.heap[b]?) : RowOk B C' nm e := by
  obtain ⟨xs, ho, hb, hc⟩ := h
  refine ⟨xs, ?_, hb, fun i cs hi => ⟨(hc i cs hi).1, (hc i cs hi).2.1, fun j p hj => ?_⟩⟩
  · rw [hh]
    refine ⟨ho.1, ?_⟩
    rcases ho.2 with h0 | ⟨g, cap, cur, hv, hg, hheap, rest⟩
    · exact .inl h0
    · exact .inr ⟨g, cap, cur, hv, hg, by rw [hk g (by rw [hv]; rfl)]; exact hheap, rest⟩
  · obtain ⟨v, h1, h2, h3⟩ := (hc i cs hi).2.2 j p hj
    exact ⟨v, h1, L.rv h2, fun hd => L.dv (h3 hd)⟩
def upd (hd : Nat → Value) (d : Nat) (v : Value) : Nat → Value := fun n => if n = d then v else hd n
theorem upd_same (hd : Nat → Value) (d : Nat) (v : Value) : upd hd d v d = v := by simp [upd]
theorem upd_ne (hd : Nat → Value) {d n : Nat} (v : Value) (h : n ≠ d) : upd hd d v n = hd n := by simp [upd, h]
theorem usable_new {mem : List (Nat × Ent)} {gen nm ver d : Nat} {e : Ent} (hn : e.new = true) (h : usable mem gen nm ver) : usable ((d, e) :: mem) gen nm ver := by
  rcases h with h | ⟨h, x, hx, hnew⟩
  · exact .inl h
  · refine .inr ⟨h, ?_⟩
    by_cases hd : d = nm
    · exact ⟨e, by rw [hd, look_same], hn⟩
    · exact ⟨x, by rw [look_ne _ _ hd, hx], hnew⟩
theorem fresh_usable {mem : List (Nat × Ent)} {gen d ver : Nat} (hf : freshF (look mem) d = true) (h : usable mem gen d ver) : ver < gen := by
  rcases h with h | ⟨_, x, hx, hnew⟩
  · exact h
  · simp [freshF, hx, hnew] at hf
theorem MemInv.new_row {w0 : Base} {C : Ctx} (M : MemInv w0 C) {d : Nat} {ent : Ent} {w' : World} {hdr : Value} {xs : List Value}
    (hf : freshF (look C.mem) d = true) (hver : ent.ver = C.gen) (hnew : ent.new = true)
    (hb : Below C.w.heap.size C.w w') (ho : w'.ownsRow w0.B ent.elem ent.sz hdr ent.es.length xs) (hbig : ent.es.length ≤ big)
    (hblk : ∀ b, hdr.ownBlock = some b → C.w.heap.size ≤ b)
    (hc : ∀ (i : Nat) (cs : List PV), ent.es[i]? = some cs → cs.length = ent.sz ∧ (∀ p ∈ cs, p.one = true) ∧
      ∀ (j : Nat) (p : PV), cs[j]? = some p → ∃ v, xs[i * ent.sz + j]? = some v ∧
        ((RV C v p ∧ (ent.data = true → DV C.w (imm C.mem C.hd C.I0) v p)) ∨ DV w' (fun b => imm C.mem C.hd C.I0 b ∧ hdr.ownBlock ≠ some b) v p)) :
    let C' : Ctx := { C with w := w', mem := (d, ent) :: C.mem, hd := upd C.hd d hdr }
    MemInv w0 C' ∧ Later C C' := by
  intro C'
  have himm : ∀ b, b < C.w.heap.size → free C.mem C.hd b → free C'.mem C'.hd b := by
    intro b hb' hi nm ver e he
    rw [live_some] at he
    by_cases hd : d = nm
    · subst hd
      show (upd C.hd d hdr d).ownBlock ≠ some b
      rw [upd_same]
      intro h; have := hblk b h; omega
    · rw [show C'.mem = (d, ent) :: C.mem from rfl, look_ne _ _ hd] at he
      show (upd C.hd d hdr nm).ownBlock ≠ some b
      rw [upd_ne _ _ (Ne.symm hd)]
      exact hi nm ver e (live_some.2 he)
  have L : Later C C' := by
    refine ⟨hb.size, fun nm ver h => usable_new hnew h, fun nm ver e' hu he => ?_, fun _ h => h, fun b hb' hi => ⟨himm b hb' hi, hb.block b hb'⟩⟩
    rw [live_some] at he
    by_cases hd : d = nm
    · subst hd
      rw [show C'.mem = (d, ent) :: C.mem from rfl, look_same] at he
      have : e' = ent := by have := he.1; injection this with this; exact this.symm
      subst this
      have := fresh_usable hf hu
      omega
    · rw [show C'.mem = (d, ent) :: C.mem from rfl, look_ne _ _ hd] at he
      exact ⟨e', live_some.2 he, rfl, rfl, upd_ne _ _ (Ne.symm hd)⟩
  refine ⟨⟨M.i0, L.globs M.glob, M.below.trans (hb.mono (Nat.le_trans w0.hB M.below.size)), ?_, ?_, ?_, ?_⟩, L⟩
  · intro nm e he
    by_cases hd : d = nm
    · subst hd
      rw [show C'.mem = (d, ent) :: C.mem from rfl, look_same] at he
      injection he with he; subst he
      exact ⟨fun _ => hver, fun h => by rw [hnew] at h; cases h⟩
    · rw [show C'.mem = (d, ent) :: C.mem from rfl, look_ne _ _ hd] at he
      exact M.vers nm e he
  · intro nm ver e he
    have he0 := he
    rw [live_some] at he
    by_cases hd : d = nm
    · subst hd
      rw [show C'.mem = (d, ent) :: C.mem from rfl, look_same] at he
      have : e = ent := by have := he.1; injection this with this; exact this.symm
      subst this
      refine ⟨xs, ?_, hbig, fun i cs hi => ⟨(hc i cs hi).1, (hc i cs hi).2.1, fun j p hj => ?_⟩⟩
      · show w'.ownsRow _ _ _ (upd C.hd d hdr d) _ _
        rw [upd_same]; exact ho
      · obtain ⟨v, h1, h2⟩ := (hc i cs hi).2.2 j p hj
        refine ⟨v, h1, ?_⟩
        rcases h2 with ⟨h2, h3⟩ | h2
        · exact ⟨L.rv h2, fun h => L.dv (h3 h)⟩
        · have h4 : DV C'.w (imm C'.mem C'.hd C'.I0) v p := by
            refine h2.mono (Nat.le_refl _) fun b hb' hi => ⟨?_, rfl⟩
            refine ⟨hi.1.1, fun nm ver e he => ?_⟩
            rw [live_some] at he
            by_cases hd : d = nm
            · subst hd
              show (upd C.hd d hdr d).ownBlock ≠ some b
              rw [upd_same]; exact hi.2
            · rw [show C'.mem = (d, _) :: C.mem from rfl, look_ne _ _ hd] at he
              show (upd C.hd d hdr nm).ownBlock ≠ some b
              rw [upd_ne _ _ (Ne.symm hd)]
              exact hi.1.2 nm ver e (live_some.2 he)
          exact ⟨.data _ _ h4, fun _ => h4⟩
    · rw [show C'.mem = (d, ent) :: C.mem from rfl, look_ne _ _ hd] at he
      have hr := M.rows nm ver e (live_some.2 he)
      exact hr.later L (upd_ne _ _ (Ne.symm hd)) fun b hb' => hb.block b (hr.lt b hb').2
  · intro nm nm' ver ver' e e' b hne he he' hb1
    rw [live_some] at he he'
    by_cases hd : d = nm
    · subst hd
      rw [show C'.mem = (d, ent) :: C.mem from rfl, look_ne _ _ hne] at he'
      have hr := M.rows nm' ver' e' (live_some.2 he')
      have h1 : hdr.ownBlock = some b := by
        have : (upd C.hd d hdr d).ownBlock = some b := hb1
        rwa [upd_same] at this
      have := hblk b h1
      show (upd C.hd d hdr nm').ownBlock ≠ some b
      rw [upd_ne _ _ (Ne.symm hne)]
      intro h; have := (hr.lt b h).2; omega
    · rw [show C'.mem = (d, ent) :: C.mem from rfl, look_ne _ _ hd] at he
      have hr := M.rows nm ver e (live_some.2 he)
      have h1 : (C.hd nm).ownBlock = some b := by
        have : (upd C.hd d hdr nm).ownBlock = some b := hb1
        rwa [upd_ne _ _ (Ne.symm hd)] at this
      by_cases hd' : d = nm'
      · subst hd'
        show (upd C.hd d hdr d).ownBlock ≠ some b
        rw [upd_same]
        intro h; have := hblk b h; have := (hr.lt b h1).2; omega
      · rw [show C'.mem = (d, ent) :: C.mem from rfl, look_ne _ _ hd'] at he'
        show (upd C.hd d hdr nm').ownBlock ≠ some b
        rw [upd_ne _ _ (Ne.symm hd')]
        exact M.apart nm nm' ver ver' e e' b hne (live_some.2 he) (live_some.2 he') h1
  · intro nm ver e b he hb1
    rw [live_some] at he
    by_cases hd : d = nm
    · subst hd
      have h1 : hdr.ownBlock = some b := by
        have : (upd C.hd d hdr d).ownBlock = some b := hb1
        rwa [upd_same] at this
      exact M.i0 b (Nat.le_trans M.below.size (hblk b h1))
    · rw [show C'.mem = (d, ent) :: C.mem from rfl, look_ne _ _ hd] at he
      have h1 : (C.hd nm).ownBlock = some b := by
        have : (upd C.hd d hdr nm).ownBlock = some b := hb1
        rwa [upd_ne _ _ (Ne.symm hd)] at this
      exact M.own0 nm ver e b (live_some.2 he) h1
theorem MemInv.turn_row {w0 : Base} {C : Ctx} (M : MemInv w0 C) {nm ver : Nat} {e e' : Ent} {w' : World} {xs : List Value} (hl : live C.mem nm ver = some e)
    (hver : e'.ver = e.ver) (hsz : e'.sz = e.sz) (hlen : e'.es.length = e.es.length) (hnew : e'.new = e.new)
    (hg : C.w.grownBy w' (C.hd nm).ownBlock) (ho : w'.ownsRow w0.B e'.elem e'.sz (C.hd nm) e'.es.length xs) (hbig : e'.es.length ≤ big)
    (hc : ∀ (i : Nat) (cs : List PV), e'.es[i]? = some cs → cs.length = e'.sz ∧ (∀ p ∈ cs, p.one = true) ∧
      ∀ (j : Nat) (p : PV), cs[j]? = some p → ∃ v, xs[i * e'.sz + j]? = some v ∧ (RV C v p ∧ (e'.data = true → DV C.w (imm C.mem C.hd C.I0) v p))) :
    let C' : Ctx := { C with w := w', mem := (nm, e') :: C.mem }
    MemInv w0 C' ∧ Later C C' := by
  intro C'
  obtain ⟨hlk, hv, hdead⟩ := live_some.1 hl
  have hrow := M.rows nm ver e hl
  have hbelow : Below w0.B w0.w w' := M.below.grown hg (Nat.le_trans w0.hB M.below.size) fun k hk => (hrow.lt k hk).1
  have hmem : C'.mem = (nm, e') :: C.mem := rfl
  have L : Later C C' := by
    refine ⟨hg.size, fun n v h => ?_, fun n v x hu he => ?_, fun _ h => h, fun b hb hi => ⟨fun n v x he => ?_, hg.block b hb (fun h => hi nm ver e hl h.symm)⟩⟩
    · rcases h with h | ⟨h, y, hy, hn⟩
      · exact .inl h
      · refine .inr ⟨h, ?_⟩
        by_cases hd : nm = n
        · subst hd; exact ⟨e', by rw [hmem, look_same], by rw [hnew]; rw [hlk] at hy; injection hy with hy; rw [hy]; exact hn⟩
        · exact ⟨y, by rw [hmem, look_ne _ _ hd]; exact hy, hn⟩
    · rw [live_some] at he
      by_cases hd : nm = n
      · subst hd
        rw [hmem, look_same] at he
        obtain ⟨h1, h2, h3⟩ := he
        injection h1 with h1; subst h1
        exact ⟨e, live_some.2 ⟨hlk, by omega, hdead⟩, hsz.symm, hlen.symm, rfl⟩
      · rw [hmem, look_ne _ _ hd] at he
        exact ⟨x, live_some.2 he, rfl, rfl, rfl⟩
    · rw [live_some] at he
      by_cases hd : nm = n
      · subst hd; exact hi nm ver e hl
      · rw [hmem, look_ne _ _ hd] at he
        exact hi n v x (live_some.2 he)
  refine ⟨⟨M.i0, L.globs M.glob, hbelow, ?_, ?_, ?_, ?_⟩, L⟩
  · intro n x he
    by_cases hd : nm = n
    · subst hd
      rw [hmem, look_same] at he
      injection he with he; subst he
      have := M.vers nm e hlk
      rw [hnew, hver]; exact this
    · rw [hmem, look_ne _ _ hd] at he
      exact M.vers n x he
  · intro n v x he
    rw [live_some] at he
    by_cases hd : nm = n
    · subst hd
      rw [hmem, look_same] at he
      have : x = e' := by have := he.1; injection this with this; exact this.symm
      subst this
      refine ⟨xs, ho, hbig, fun i cs hi => ⟨(hc i cs hi).1, (hc i cs hi).2.1, fun j p hj => ?_⟩⟩
      obtain ⟨u, h1, h2, h3⟩ := (hc i cs hi).2.2 j p hj
      exact ⟨u, h1, L.rv h2, fun h => L.dv (h3 h)⟩
    · rw [hmem, look_ne _ _ hd] at he
      have hr := M.rows n v x (live_some.2 he)
      refine hr.later L rfl fun b hb => hg.block b (hr.lt b hb).2 fun h => ?_
      exact M.apart n nm v ver x e b (Ne.symm hd) (live_some.2 he) hl hb h.symm
  · intro n n' v v' x x' b hne he he' hb
    have back : ∀ (n v : Nat) (x : Ent), live C'.mem n v = some x → ∃ y, live C.mem n v = some y := by
      intro n v x he
      rw [live_some] at he
      by_cases hd : nm = n
      · subst hd
        rw [hmem, look_same] at he
        obtain ⟨h1, h2, h3⟩ := he
        injection h1 with h1; subst h1
        exact ⟨e, live_some.2 ⟨hlk, by omega, hdead⟩⟩
      · rw [hmem, look_ne _ _ hd] at he
        exact ⟨x, live_some.2 he⟩
    obtain ⟨y, hy⟩ := back n v x he
    obtain ⟨y', hy'⟩ := back n' v' x' he'
    exact M.apart n n' v v' y y' b hne hy hy' hb
  · intro n v x b he hb
    have : ∃ y, live C.mem n v = some y := by
      rw [live_some] at he
      by_cases hd : nm = n
      · subst hd
        rw [hmem, look_same] at he
        obtain ⟨h1, h2, h3⟩ := he
        injection h1 with h1; subst h1
        exact ⟨e, live_some.2 ⟨hlk, by omega, hdead⟩⟩
      · rw [hmem, look_ne _ _ hd] at he
        exact ⟨x, live_some.2 he⟩
    obtain ⟨y, hy⟩ := this
    exact M.own0 n v y b hy hb
theorem MemInv.append_row {w0 : Base} {C : Ctx} (M : MemInv w0 C) {nm ver d : Nat} {e ent : Ent} {w' : World} {hdr : Value} {xs : List Value} (hl : live C.mem nm ver = some e)
    (hf : freshF (look C.mem) d = true) (hver : ent.ver = C.gen) (hnew : ent.new = true)
    (hg : C.w.grownBy w' (C.hd nm).ownBlock) (ho : w'.ownsRow w0.B ent.elem ent.sz hdr ent.es.length xs) (hbig : ent.es.length ≤ big)
    (hblk : hdr.ownBlock = (C.hd nm).ownBlock ∨ hdr.ownBlock = some C.w.heap.size)
    (hc : ∀ (i : Nat) (cs : List PV), ent.es[i]? = some cs → cs.length = ent.sz ∧ (∀ p ∈ cs, p.one = true) ∧
      ∀ (j : Nat) (p : PV), cs[j]? = some p → ∃ v, xs[i * ent.sz + j]? = some v ∧ (RV C v p ∧ (ent.data = true → DV C.w (imm C.mem C.hd C.I0) v p))) :
    let C' : Ctx := { C with w := w', mem := (d, ent) :: ((if nm = d then [] else [(nm, { e with dead := true })]) ++ C.mem), hd := upd C.hd d hdr }
    MemInv w0 C' ∧ Later C C' := by
  intro C'
  obtain ⟨hlk, hv, hdead⟩ := live_some.1 hl
  have hrow := M.rows nm ver e hl
  have hbelow : Below w0.B w0.w w' := M.below.grown hg (Nat.le_trans w0.hB M.below.size) fun k hk => (hrow.lt k hk).1
  have hm_d : look C'.mem d = some ent := look_same _ _ _
  have hm_nm : nm ≠ d → look C'.mem nm = some { e with dead := true } := by
    intro h
    show look ((d, ent) :: ((if nm = d then [] else [(nm, { e with dead := true })]) ++ C.mem)) nm = _
    rw [look_ne _ _ (Ne.symm h), if_neg h, List.cons_append, look_same]
  have hm_o : ∀ n, n ≠ d → n ≠ nm → look C'.mem n = look C.mem n := by
    intro n h1 h2
    show look ((d, ent) :: ((if nm = d then [] else [(nm, { e with dead := true })]) ++ C.mem)) n = _
    rw [look_ne _ _ (Ne.symm h1)]
    split
    · rfl
    · rw [List.cons_append, look_ne _ _ (Ne.symm h2)]; rfl
  -- a live entry of the new state: the new row, or an old one that is not 'nm'
  have cases_live : ∀ n v x, live C'.mem n v = some x → (n = d ∧ x = ent ∧ v = C.gen) ∨ (n ≠ d ∧ n ≠ nm ∧ live C.mem n v = some x) := by
    intro n v x he
    rw [live_some] at he
    by_cases h1 : n = d
    · subst h1
      rw [hm_d] at he
      obtain ⟨h1, h2, h3⟩ := he
      injection h1 with h1; subst h1
      exact .inl ⟨rfl, rfl, by omega⟩
    · by_cases h2 : n = nm
      · subst h2
        rw [hm_nm h1] at he
        obtain ⟨h1, h2, h3⟩ := he
        injection h1 with h1; subst h1
        simp at h3
      · rw [hm_o n h1 h2] at he
        exact .inr ⟨h1, h2, live_some.2 he⟩
  have L : Later C C' := by
    refine ⟨hg.size, fun n v h => ?_, fun n v x hu he => ?_, fun _ h => h, fun b hb hi => ⟨fun n v x he => ?_, hg.block b hb (fun h => hi nm ver e hl h.symm)⟩⟩
    · rcases h with h | ⟨h, y, hy, hn⟩
      · exact .inl h
      · refine .inr ⟨h, ?_⟩
        by_cases h1 : n = d
        · subst h1; exact ⟨ent, hm_d, hnew⟩
        · by_cases h2 : n = nm
          · subst h2; exact ⟨_, hm_nm h1, by rw [hlk] at hy; injection hy with hy; show e.new = true; rw [hy]; exact hn⟩
          · exact ⟨y, by rw [hm_o n h1 h2]; exact hy, hn⟩
    · rcases cases_live n v x he with ⟨h1, h2, h3⟩ | ⟨h1, h2, h3⟩
      · subst h1; have := fresh_usable hf hu; omega
      · exact ⟨x, h3, rfl, rfl, upd_ne _ _ h1⟩
    · rcases cases_live n v x he with ⟨h1, h2, h3⟩ | ⟨h1, h2, h3⟩
      · subst h1
        show (upd C.hd n hdr n).ownBlock ≠ some b
        rw [upd_same]
        rcases hblk with h | h
        · rw [h]; exact hi nm ver e hl
        · rw [h]; intro h'; injection h' with h'; omega
      · show (upd C.hd d hdr n).ownBlock ≠ some b
        rw [upd_ne _ _ h1]
        exact hi n v x h3
  refine ⟨⟨M.i0, L.globs M.glob, hbelow, ?_, ?_, ?_, ?_⟩, L⟩
  · intro n x he
    by_cases h1 : n = d
    · subst h1
      rw [hm_d] at he
      injection he with he; subst he
      exact ⟨fun _ => hver, fun h => by rw [hnew] at h; cases h⟩
    · by_cases h2 : n = nm
      · subst h2
        rw [hm_nm h1] at he
        injection he with he; subst he
        exact M.vers n e hlk
      · rw [hm_o n h1 h2] at he
        exact M.vers n x he
  · intro n v x he
    rcases cases_live n v x he with ⟨h1, h2, h3⟩ | ⟨h1, h2, h3⟩
    · subst h1 h2
      refine ⟨xs, ?_, hbig, fun i cs hi => ⟨(hc i cs hi).1, (hc i cs hi).2.1, fun j p hj => ?_⟩⟩
      · show w'.ownsRow _ _ _ (upd C.hd n hdr n) _ _
        rw [upd_same]; exact ho
      · obtain ⟨u, h1, h2, h3⟩ := (hc i cs hi).2.2 j p hj
        exact ⟨u, h1, L.rv h2, fun h => L.dv (h3 h)⟩
    · have hr := M.rows n v x h3
      refine hr.later L (upd_ne _ _ h1) fun b hb => hg.block b (hr.lt b hb).2 fun h => ?_
      exact M.apart n nm v ver x e b h2 h3 hl hb h.symm
  · intro n n' v v' x x' b hne he he' hb
    have lt_of : ∀ n v x b, live C.mem n v = some x → (C.hd n).ownBlock = some b → b < C.w.heap.size := fun n v x b h hb => ((M.rows n v x h).lt b hb).2
    rcases cases_live n v x he with ⟨h1, h2, h3⟩ | ⟨h1, h2, h3⟩ <;> rcases cases_live n' v' x' he' with ⟨k1, k2, k3⟩ | ⟨k1, k2, k3⟩
    · omega
    · subst h1
      have hb : (upd C.hd n hdr n).ownBlock = some b := hb
      rw [upd_same] at hb
      show (upd C.hd n hdr n').ownBlock ≠ some b
      rw [upd_ne _ _ k1]
      rcases hblk with h | h
      · rw [h] at hb
        exact M.apart nm n' ver v' e x' b (Ne.symm k2) hl k3 hb
      · rw [h] at hb; injection hb with hb
        intro h'; have := lt_of _ _ _ _ k3 h'; omega
    · subst k1
      have hb : (upd C.hd n' hdr n).ownBlock = some b := hb
      rw [upd_ne _ _ h1] at hb
      show (upd C.hd n' hdr n').ownBlock ≠ some b
      rw [upd_same]
      rcases hblk with h | h
      · rw [h]
        exact M.apart n nm v ver x e b h2 h3 hl hb
      · rw [h]; intro h'; injection h' with h'; have := lt_of _ _ _ _ h3 hb; omega
    · have hb : (upd C.hd d hdr n).ownBlock = some b := hb
      rw [upd_ne _ _ h1] at hb
      show (upd C.hd d hdr n').ownBlock ≠ some b
      rw [upd_ne _ _ k1]
      exact M.apart n n' v v' x x' b hne h3 k3 hb
  · intro n v x b he hb
    rcases cases_live n v x he with ⟨h1, h2, h3⟩ | ⟨h1, h2, h3⟩
    · subst h1
      have hb : (upd C.hd n hdr n).ownBlock = some b := hb
      rw [upd_same] at hb
      rcases hblk with h | h
      · rw [h] at hb; exact M.own0 nm ver e b hl hb
      · rw [h] at hb; injection hb with hb
        exact M.i0 b (by rw [← hb]; exact M.below.size)
    · have hb : (upd C.hd d hdr n).ownBlock = some b := hb
      rw [upd_ne _ _ h1] at hb
      exact M.own0 n v x b h3 hb
theorem MemInv.grow {w0 : Base} {C : Ctx} (M : MemInv w0 C) {w' : World} (hb : Below C.w.heap.size C.w w') :
    let C' : Ctx := { C with w := w' }
    MemInv w0 C' ∧ Later C C' := by
  intro C'
  have L : Later C C' := ⟨hb.size, fun _ _ h => h, fun _ _ e _ h => ⟨e, h, rfl, rfl, rfl⟩, fun _ h => h, fun b hlt h => ⟨h, hb.block b hlt⟩⟩
  refine ⟨⟨M.i0, L.globs M.glob, M.below.trans (hb.mono (Nat.le_trans w0.hB M.below.size)), M.vers, fun nm ver e he => ?_, M.apart, M.own0⟩, L⟩
  have hr := M.rows nm ver e he
  exact hr.later L rfl fun b hb' => hb.block b (hr.lt b hb').2
theorem MemInv.imm_new {w0 : Base} {C : Ctx} (M : MemInv w0 C) {b : Nat} (h : C.w.heap.size ≤ b) : imm C.mem C.hd C.I0 b :=
  ⟨M.i0 b (Nat.le_trans M.below.size h), fun nm ver e he hb => by have := ((M.rows nm ver e he).lt b hb).2; omega⟩
end Go.PW
