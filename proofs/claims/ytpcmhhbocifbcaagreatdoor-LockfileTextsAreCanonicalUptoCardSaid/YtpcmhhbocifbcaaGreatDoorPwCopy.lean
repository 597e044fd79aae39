/-
  PwCopy: the builtin copy, between rows.
-/
import Derived.Test.YtpcmhhbocifbcaaGreatDoorPwSound9
namespace Go.PW
open Go.RowKit
section
variable {P : Program} {o : Oper} {a : Act} {Q : Exit → Act → World → Prop} {w0 : Base} {C : Ctx}
variable {N : Nat} {slots : List (Nat × PV)} {Γ : List (Nat × Fact P)} {xs : List PV} {r : PV} {up : List (Nat × Ent)}
theorem run_copy (t ty e : TypeId) (i : TypeInfo) (size : Nat) (ht : P.underlying t = some (.slice e)) (hi : P.info? e = some i) (hsize : i.size = size) {w w' : World} {A B : Option Addr} {d c m c' n : Nat} {us : List Value}
    (hn : n = min m d) (hl : us.length = n * size) (hb : B = none → n = 0) (hr : ∀ ad, B = some ad → ∀ j u, us[j]? = some u → w.cell? (ad.add j) = some u)
    (hs : ∀ ad, A = some ad → (storeCells ad us 0).run P w = .ok () w') (hs0 : A = none → w' = w) :
    (Builtin.copy_ #[t, t] ty #[.slice A d c, .slice B m c']).run P w = .ok (goInt n) w' := by
  have hld : (Builtin.firstCells size n (.slice B m c')).run P w = .ok us.toArray w := by
    cases B with
    | none =>
      have := hb rfl
      subst this
      have hu : us = [] := List.eq_nil_of_length_eq_zero (by simpa using hl)
      subst hu
      rfl
    | some ad =>
      have := run_loadCells_list (P := P) w ad us (hr ad rfl)
      rw [hl] at this
      exact this
  have hmin : Nat.min m d = n := hn.symm
  cases A with
  | none =>
    have := hs0 rfl
    subst this
    simp [Builtin.copy_, run_underlying ht, sizeOf, typeInfo, hi, Builtin.lenOf, hmin, hsize, hld]
  | some ad =>
    have := hs ad rfl
    simp [Builtin.copy_, run_underlying ht, sizeOf, typeInfo, hi, Builtin.lenOf, hmin, hsize, hld, this]
theorem sound_copyAt {t e0 : TypeId} {sz by_ : Nat} {z : List PV} {s x : Operand} {c : Call} {q : PV} {nm ver lo : Nat} {hi : Option Nat} (M : MemInv w0 C) (ho : o.op = .call c) (hc : c.callee = .builtin .copy) (hca : c.args = #[s, x]) (hct : c.argTypes = #[t, t])
    (hr : compRow P t = some (e0, sz, by_, z)) (h2 : RV C (a.eval x) q)
    (h1 : ∀ e, liveF (look C.mem) nm ver = some e → lo ≤ hi.getD e.es.length → hi.getD e.es.length ≤ e.es.length → ∃ (A : Option Addr) (cp : Nat), a.eval s = .slice A (hi.getD e.es.length - lo) cp ∧
      (A = none → hi.getD e.es.length - lo = 0) ∧ ∀ g cap, C.hd nm = .slice (some ⟨g, 0, none⟩) e.es.length cap → 0 < hi.getD e.es.length - lo → A = some ⟨g, lo * e.sz, none⟩)
    (hact : copyAt (look C.mem) sz nm ver lo hi q = some (r, up)) : Goal P o a Q w0 C r up := by
  obtain ⟨i, zv, hu, hinf, hz, hzs, hpos, hsz, hby, hb0, hzc⟩ := compRow_some hr
  unfold copyAt at hact
  split at hact
  case h_2 => cases hact
  rename_i e he
  split at hact
  case h_2 => cases hact
  rename_i sz2 news hsrc
  split at hact
  case isFalse => cases hact
  case isTrue hcond =>
  obtain ⟨rfl, hesz, hlo, hhi⟩ := hcond
  simp only [Option.some.injEq, Prod.mk.injEq] at hact
  obtain ⟨rfl, rfl⟩ := hact
  obtain ⟨A, cp, hv, hA0, hA⟩ := h1 e he hlo hhi
  generalize hhd : hi.getD e.es.length = h at *
  obtain ⟨B, c', us, e2, hul, hadr, hone, hbig, hrows⟩ := src_news M h2 hsrc hpos
  obtain ⟨ys, hown, hbig2, hys⟩ := M.rows nm ver e he
  have hyl : ys.length = e.es.length * e.sz := hown.1
  obtain ⟨n, hn⟩ : ∃ n, n = min news.length (h - lo) := ⟨_, rfl⟩
  have hnle : n ≤ news.length := by omega
  have hnle2 : lo + n ≤ e.es.length := by omega
  have hmul : (lo + n) * e.sz ≤ e.es.length * e.sz := Nat.mul_le_mul_right _ hnle2
  rw [Nat.add_mul] at hmul
  have hmul2 : n * sz2 ≤ news.length * sz2 := Nat.mul_le_mul_right _ hnle
  obtain ⟨vl, hvl⟩ : ∃ vl, vl = us.take (n * sz2) := ⟨_, rfl⟩
  have hvlen : vl.length = n * sz2 := by rw [hvl, List.length_take]; omega
  have hvget : ∀ k, k < n * sz2 → vl[k]? = us[k]? := fun k hk => by rw [hvl, List.getElem?_take, if_pos hk]
  have hvone : ∀ u ∈ vl, u.oneCell' = true := fun u hu => hone u (by rw [hvl] at hu; exact List.mem_of_mem_take hu)
  -- the world behind the copy
  have hst : ∃ w', (∀ ad, A = some ad → (storeCells ad vl 0).run P C.w = .ok () w') ∧ (A = none → w' = C.w) ∧ C.w.grownBy w' (C.hd nm).ownBlock ∧
      w'.ownsRow w0.B e.elem e.sz (C.hd nm) e.es.length (ys.take (lo * e.sz) ++ vl ++ ys.drop (lo * e.sz + vl.length)) := by
    by_cases hn0 : n = 0
    · have hv0 : vl = [] := List.eq_nil_of_length_eq_zero (by rw [hvlen, hn0]; simp)
      refine ⟨C.w, fun ad _ => by rw [hv0]; rfl, fun _ => rfl, ⟨rfl, rfl, rfl, Nat.le_refl _, fun _ _ _ => rfl⟩, ?_⟩
      · rw [hv0]; simpa using hown
    · rcases hown.2 with ⟨_, h0⟩ | ⟨g, cap, cur, hh, hg, hheap, hnc, hcm, hcs', htake⟩
      · omega
      have hAe := hA g cap hh (by omega)
      subst hAe
      have hle2 : e.es.length * e.sz ≤ cap * e.sz := Nat.mul_le_mul_right _ hnc
      have hst := run_storeCells_at P g (lo * e.sz) e.elem vl 0 cur C.w hheap (by rw [hvlen, ← hesz]; omega) hvone
      simp only [Nat.add_zero] at hst
      have hcurlen : cur.toList.length = cap * e.sz := by simpa using hcs'
      have hys' : ∀ k, k < e.es.length * e.sz → ys[k]? = cur.toList[k]? := by
        intro k hk
        rw [← htake, List.getElem?_take, if_pos hk]
      refine ⟨_, fun ad hh => by injection hh with hh; rw [← hh]; exact hst, fun hh => (by cases hh), ?_, ?_⟩
      · rw [hh]
        exact ⟨rfl, rfl, rfl, by simp, fun k _ hk => setRow_other C.w g k _ (fun e => hk (by simp [Value.ownBlock, e]))⟩
      · have hvl2 : vl.length = n * e.sz := by rw [hvlen, hesz]
        refine ⟨by simp; omega, .inr ⟨g, cap, _, hh, hg, setRow_heap C.w g cur _ e.elem _ hheap, hnc, hcm, by simp; omega, ?_⟩⟩
        apply List.ext_getElem?
        intro k
        rw [List.getElem?_take]
        by_cases hk : k < e.es.length * e.sz
        · rw [if_pos hk, spl_get ys vl _ k (by omega), hys' k hk]
          exact spl_get cur.toList vl _ k (by omega)
        · rw [if_neg hk, List.getElem?_eq_none (by simp; omega)]
  obtain ⟨w', hstore, hstore0, hgrown, hown'⟩ := hst
  have hes : (e.es.take lo ++ news.take (h - lo) ++ e.es.drop (lo + min news.length (h - lo))).length = e.es.length := by
    simp; omega
  have hvl2 : vl.length = n * e.sz := by rw [hvlen, hesz]
  have hT := M.turn_row (nm := nm) (ver := ver) (e := e) (e' := { e with es := e.es.take lo ++ news.take (h - lo) ++ e.es.drop (lo + min news.length (h - lo)), data := e.data && srcData (look C.mem) q }) (w' := w')
    (xs := ys.take (lo * e.sz) ++ vl ++ ys.drop (lo * e.sz + vl.length)) he rfl rfl hes rfl hgrown (by dsimp only; rw [hes]; exact hown') (by dsimp only; rw [hes]; exact hbig2) (fun i' cs' hi' => by
      dsimp only at hi' ⊢
      have htl : (news.take (h - lo)).length = n := by rw [List.length_take]; omega
      have hd2 : lo + min news.length (h - lo) = lo + (news.take (h - lo)).length := by rw [htl]; omega
      rw [hd2, spl_get e.es _ lo i' (by omega), htl] at hi'
      have hsame : e.es[i']? = some cs' → (i' < lo ∨ lo + n ≤ i') → cs'.length = e.sz ∧ (∀ p ∈ cs', p.one = true) ∧
          ∀ (j : Nat) (p : PV), cs'[j]? = some p → ∃ v, (ys.take (lo * e.sz) ++ vl ++ ys.drop (lo * e.sz + vl.length))[i' * e.sz + j]? = some v ∧ (RV C v p ∧ ((e.data && srcData (look C.mem) q) = true → DV C.w (imm C.mem C.hd C.I0) v p)) := fun hi0 hor => by
        obtain ⟨c1, c2, c3⟩ := hys i' cs' hi0
        have hi0lt := (List.getElem?_eq_some_iff.1 hi0).1
        refine ⟨c1, c2, fun j p hj => ?_⟩
        obtain ⟨u, k1, k2, k3⟩ := c3 j p hj
        have hjlt := (List.getElem?_eq_some_iff.1 hj).1
        refine ⟨u, ?_, k2, fun hd => k3 (by simp at hd; exact hd.1)⟩
        rw [spl_get ys vl _ _ (by omega)]
        rcases hor with hor | hor
        · have := index_lt (j := j + 1) hor (show j + 1 ≤ e.sz by omega)
          rw [if_pos (by omega)]; exact k1
        · have : (lo + n) * e.sz ≤ i' * e.sz := Nat.mul_le_mul_right _ hor
          rw [Nat.add_mul] at this
          rw [if_neg (by omega), if_neg (by omega)]; exact k1
      split at hi'
      · rename_i hlt; exact hsame hi' (.inl hlt)
      · rename_i hlt
        split at hi'
        · rename_i hlt2
          rw [List.getElem?_take, if_pos (by omega)] at hi'
          obtain ⟨c1, c2, c3⟩ := hrows (i' - lo) cs' hi'
          refine ⟨by rw [hesz]; exact c1, c2, fun j p hj => ?_⟩
          obtain ⟨u, k1, k2, k3⟩ := c3 j p hj
          have hjlt := (List.getElem?_eq_some_iff.1 hj).1
          refine ⟨u, ?_, k2, fun hd => k3 (by simp at hd; exact hd.2)⟩
          have b1 := index_lt (i := i' - lo) (n := n) (j := j + 1) (by omega) (show j + 1 ≤ sz2 by omega)
          have b2 : i' * e.sz = lo * e.sz + (i' - lo) * sz2 := by
            rw [← hesz, ← Nat.add_mul]; congr 1; omega
          rw [spl_get ys vl _ _ (by omega), if_neg (by omega), if_pos (by omega), b2, show lo * e.sz + (i' - lo) * sz2 + j - lo * e.sz = (i' - lo) * sz2 + j by omega, hvget _ (by omega)]
          exact k1
        · exact hsame hi' (.inr (by omega)))
  intro K hK
  have hrun : (execOp a.eval o).run P C.w = .ok (.value (goInt n)) w' := by
    have := run_copy (P := P) t o.type e0 i sz2 hu hinf hsz (w := C.w) (w' := w') (A := A) (B := B) (d := h - lo) (c := cp) (m := news.length) (c' := c') (n := n) (us := vl) hn hvlen
      (fun hB => by
        rcases Nat.eq_zero_or_pos news.length with h0 | h0
        · omega
        · obtain ⟨ad, h3, _⟩ := hadr h0
          rw [hB] at h3; cases h3)
      (fun ad hB j u hj => by
        have hjl := (List.getElem?_eq_some_iff.1 hj).1
        have h0 : 0 < news.length := by
          rcases Nat.eq_zero_or_pos news.length with h0 | h0
          · rw [show n = 0 by omega] at hvlen; simp at hvlen; subst hvlen; simp at hjl
          · exact h0
        obtain ⟨ad', h3, h4⟩ := hadr h0
        rw [hB] at h3; injection h3 with h3; subst h3
        exact h4 j u (by rw [← hvget j (by omega)]; exact hj)) hstore hstore0
    simp only [execOp, ho, resolve, hc, hca, hct, invoke, builtin, Sem.run_bind, Sem.run_pure, Result.andThen_ok, List.map_toArray, List.map_cons, List.map_nil, hv, e2, this]
  unfold Oper.wp
  rw [hrun]
  refine hK _ w' C.hd hT.1 hT.2 ?_
  rw [← hn]
  exact .data _ _ (.int _ _)
theorem sound_copy {t e0 : TypeId} {sz by_ : Nat} {z : List PV} {s x : Operand} {l m : LX} {c : Call} (hs : SlotsOk C N slots a) (M : MemInv w0 C) (ho : o.op = .call c) (hc : c.callee = .builtin .copy) (hca : c.args = #[s, x]) (hct : c.argTypes = #[t, t])
    (hr : compRow P t = some (e0, sz, by_, z)) (hsx : compX s = some l) (hx : compX x = some m) (ha : lxs slots [l, m] = some xs) (hact : (LOp.copy sz l m).act Γ o.dst C.gen xs (look C.mem) = some (r, up)) : Goal P o a Q w0 C r up := by
  obtain ⟨p, q, rfl, hp, hq⟩ := lxs_2 ha
  have h1 := x_sound M hs hsx hp
  have h2 := x_sound M hs hx hq
  cases p <;> (try simp only [reduceCtorEq, LOp.act] at hact)
  · rename_i nm ver
    refine sound_copyAt M ho hc hca hct hr h2 (fun e he _ _ => ?_) hact
    have hh := h1.own_inv.2.2 e he
    obtain ⟨ys, hown, _⟩ := M.rows nm ver e he
    simp only [Option.getD_none, Nat.sub_zero]
    rcases hown.2 with ⟨h3, h0⟩ | ⟨g, cap, cur, h3, _⟩
    · exact ⟨none, 0, by rw [hh, h3, h0], fun _ => h0, fun g cap hg hl => by omega⟩
    · refine ⟨_, cap, hh.trans h3, fun h => (by cases h), fun g' cap' hg _ => ?_⟩
      rw [h3] at hg
      injection hg with hg _ _
      injection hg with hg
      rw [hg]; simp
  · rename_i nm ver lo hi
    refine sound_copyAt M ho hc hca hct hr h2 (fun e he hlo hhi => ?_) hact
    have hh := h1.sub_inv.2.2 e he
    obtain ⟨ad, c1, hrow, hcap⟩ := row_len M he
    simp only [subHdr, hrow] at hh
    obtain ⟨b1, b2, hh⟩ := hh
    simp only [Option.getD_some] at *
    refine ⟨_, _, hh, fun hn => ?_, fun g cap hg hl => ?_⟩
    · rcases Nat.eq_zero_or_pos (hi - lo) with h0 | h0
      · exact h0
      · obtain ⟨g, cap, hg, _⟩ := row_hdr M he (by omega)
        rw [hg] at hrow
        injection hrow with r1 r2 r3
        rw [if_neg (by omega), ← r1] at hn
        cases hn
    · rw [hg] at hrow
      injection hrow with r1 r2 r3
      rw [if_neg (by omega), ← r1]
      simp only [Option.map_some, add0]
end
end Go.PW
