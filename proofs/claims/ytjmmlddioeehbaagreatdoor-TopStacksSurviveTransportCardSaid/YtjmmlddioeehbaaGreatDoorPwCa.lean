/-
  PwCopy: the builtin copy, between rows.
-/
import Derived.Test.YtjmmlddioeehbaaGreatDoorPwSound9
import Derived.Lib.ConvBytes
import Derived.Laws.Cover3
import Derived.Laws.AppendOwn
namespace Go.PW
open Go.RowKit
section
variable {P : Program} {o : Oper} {a : Act} {Q : Exit → Act → World → Prop} {w0 : Base} {C : Ctx}
variable {N : Nat} {slots : List (Nat × PV)} {Γ : List (Nat × Fact P)} {xs : List PV} {r : PV} {up : List (Nat × Ent)}
theorem run_copy (t ty e : TypeId) (i : TypeInfo) (size : Nat) (ht : P.underlying t = some (.slice e)) (hi : P.info? e = some i) (hsize : i.size = size) {w w' : World} {A B : Option Addr} {d c m c' n : Nat} {us : List Value}
    (hn : n = min m d) (hl : us.length = n * size) (hb : B = none → n = 0) (hr : ∀ ad, B = some ad → ∀ j u, us[j]? = some u → w.cell? (ad.add j) = some u)
    (hs : ∀ ad, A = some ad → (storeCells ad us 0).run P w = .ok () w') (hs0 : A = none → w' = w) :
    (Builtin.copy_ #[t, t] ty #[.slice A d c, .slice B m c']).run P w = .ok (goInt n) w' := by
  have hld : (Builtin.firstCells size n (.slice B m c')).run P w = .ok us.toArray w := by
    cases B with
    | none =>
      have := hb rfl
      subst this
      have hu : us = [] := List.eq_nil_of_length_eq_zero (by simpa using hl)
      subst hu
      rfl
    | some ad =>
      have := run_loadCells_list (P := P) w ad us (hr ad rfl)
      rw [hl] at this
      exact this
  have hmin : Nat.min m d = n := hn.symm
  cases A with
  | none =>
    have := hs0 rfl
    subst this
    simp [Builtin.copy_, run_underlying ht, sizeOf, typeInfo, hi, Builtin.lenOf, hmin, hsize, hld]
  | some ad =>
    have := hs ad rfl
    simp [Builtin.copy_, run_underlying ht, sizeOf, typeInfo, hi, Builtin.lenOf, hmin, hsize, hld, this]
theorem sound_copyAt {t e0 : TypeId} {sz by_ : Nat} {z : List PV} {s x : Operand} {c : Call} {q : PV} {nm ver lo : Nat} {hi : Option Nat} (M : MemInv w0 C) (ho : o.op = .call c) (hc : c.callee = .builtin .copy) (hca : c.args = #[s, x]) (hct : c.argTypes = #[t, t])
    (hr : compRow P t = some (e0, sz, by_, z)) (h2 : RV C (a.eval x) q)
    (h1 : ∀ e, liveF (look C.mem) nm ver = some e → lo ≤ hi.getD e.es.length → hi.getD e.es.length ≤ e.es.length → ∃ (A : Option Addr) (cp : Nat), a.eval s = .slice A (hi.getD e.es.length - lo) cp ∧
      (A = none → hi.getD e.es.length - lo = 0) ∧ ∀ g cap, C.hd nm = .slice (some ⟨g, 0, none⟩) e.es.length cap → 0 < hi.getD e.es.length - lo → A = some ⟨g, lo * e.sz, none⟩)
    (hact : copyAt (look C.mem) sz nm ver lo hi q = some (r, up)) : Goal P o a Q w0 C r up := by
  obtain ⟨i, zv, hu, hinf, hz, hzs, hpos, hsz, hby, hb0, hzc⟩ := compRow_some hr
  unfold copyAt at hact
  split at hact
  case h_2 => cases hact
  rename_i e he
  split at hact
  case h_2 => cases hact
  rename_i sz2 news hsrc
  split at hact
  case isFalse => cases hact
  case isTrue hcond =>
  obtain ⟨rfl, hesz, hlo, hhi⟩ := hcond
  simp only [Option.some.injEq, Prod.mk.injEq] at hact
  obtain ⟨rfl, rfl⟩ := hact
  obtain ⟨A, cp, hv, hA0, hA⟩ := h1 e he hlo hhi
  generalize hhd : hi.getD e.es.length = h at *
  obtain ⟨B, c', us, e2, hul, hadr, hone, hbig, hrows⟩ := src_news M h2 hsrc hpos
  obtain ⟨ys, hown, hbig2, hys⟩ := M.rows nm ver e he
  have hyl : ys.length = e.es.length * e.sz := hown.1
  obtain ⟨n, hn⟩ : ∃ n, n = min news.length (h - lo) := ⟨_, rfl⟩
  have hnle : n ≤ news.length := by omega
  have hnle2 : lo + n ≤ e.es.length := by omega
  have hmul : (lo + n) * e.sz ≤ e.es.length * e.sz := Nat.mul_le_mul_right _ hnle2
  rw [Nat.add_mul] at hmul
  have hmul2 : n * sz2 ≤ news.length * sz2 := Nat.mul_le_mul_right _ hnle
  obtain ⟨vl, hvl⟩ : ∃ vl, vl = us.take (n * sz2) := ⟨_, rfl⟩
  have hvlen : vl.length = n * sz2 := by rw [hvl, List.length_take]; omega
  have hvget : ∀ k, k < n * sz2 → vl[k]? = us[k]? := fun k hk => by rw [hvl, List.getElem?_take, if_pos hk]
  have hvone : ∀ u ∈ vl, u.oneCell' = true := fun u hu => hone u (by rw [hvl] at hu; exact List.mem_of_mem_take hu)
  -- the world behind the copy
  have hst : ∃ w', (∀ ad, A = some ad → (storeCells ad vl 0).run P C.w = .ok () w') ∧ (A = none → w' = C.w) ∧ C.w.grownBy w' (C.hd nm).ownBlock ∧
      w'.ownsRow w0.B e.elem e.sz (C.hd nm) e.es.length (ys.take (lo * e.sz) ++ vl ++ ys.drop (lo * e.sz + vl.length)) := by
    by_cases hn0 : n = 0
    · have hv0 : vl = [] := List.eq_nil_of_length_eq_zero (by rw [hvlen, hn0]; simp)
      refine ⟨C.w, fun ad _ => by rw [hv0]; rfl, fun _ => rfl, ⟨rfl, rfl, rfl, Nat.le_refl _, fun _ _ _ => rfl⟩, ?_⟩
      · rw [hv0]; simpa using hown
    · rcases hown.2 with ⟨_, h0⟩ | ⟨g, cap, cur, hh, hg, hheap, hnc, hcm, hcs', htake⟩
      · omega
      have hAe := hA g cap hh (by omega)
      subst hAe
      have hle2 : e.es.length * e.sz ≤ cap * e.sz := Nat.mul_le_mul_right _ hnc
      have hst := run_storeCells_at P g (lo * e.sz) e.elem vl 0 cur C.w hheap (by rw [hvlen, ← hesz]; omega) hvone
      simp only [Nat.add_zero] at hst
      have hcurlen : cur.toList.length = cap * e.sz := by simpa using hcs'
      have hys' : ∀ k, k < e.es.length * e.sz → ys[k]? = cur.toList[k]? := by
        intro k hk
        rw [← htake, List.getElem?_take, if_pos hk]
      refine ⟨_, fun ad hh => by injection hh with hh; rw [← hh]; exact hst, fun hh => (by cases hh), ?_, ?_⟩
      · rw [hh]
        exact ⟨rfl, rfl, rfl, by simp, fun k _ hk => setRow_other C.w g k _ (fun e => hk (by simp [Value.ownBlock, e]))⟩
      · have hvl2 : vl.length = n * e.sz := by rw [hvlen, hesz]
        refine ⟨by simp; omega, .inr ⟨g, cap, _, hh, hg, setRow_heap C.w g cur _ e.elem _ hheap, hnc, hcm, by simp; omega, ?_⟩⟩
        apply List.ext_getElem?
        intro k
        rw [List.getElem?_take]
        by_cases hk : k < e.es.length * e.sz
        · rw [if_pos hk, spl_get ys vl _ k (by omega), hys' k hk]
          exact spl_get cur.toList vl _ k (by omega)
        · rw [if_neg hk, List.getElem?_eq_none (by simp; omega)]
  obtain ⟨w', hstore, hstore0, hgrown, hown'⟩ := hst
  have hes : (e.es.take lo ++ news.take (h - lo) ++ e.es.drop (lo + min news.length (h - lo))).length = e.es.length := by
    simp; omega
  have hvl2 : vl.length = n * e.sz := by rw [hvlen, hesz]
  have hT := M.turn_row (nm := nm) (ver := ver) (e := e) (e' := { e with es := e.es.take lo ++ news.take (h - lo) ++ e.es.drop (lo + min news.length (h - lo)), data := e.data && srcData (look C.mem) q }) (w' := w')
    (xs := ys.take (lo * e.sz) ++ vl ++ ys.drop (lo * e.sz + vl.length)) he rfl rfl hes rfl hgrown (by dsimp only; rw [hes]; exact hown') (by dsimp only; rw [hes]; exact hbig2) (fun i' cs' hi' => by
      dsimp only at hi' ⊢
      have htl : (news.take (h - lo)).length = n := by rw [List.length_take]; omega
      have hd2 : lo + min news.length (h - lo) = lo + (news.take (h - lo)).length := by rw [htl]; omega
      rw [hd2, spl_get e.es _ lo i' (by omega), htl] at hi'
      have hsame : e.es[i']? = some cs' → (i' < lo ∨ lo + n ≤ i') → cs'.length = e.sz ∧ (∀ p ∈ cs', p.one = true) ∧
          ∀ (j : Nat) (p : PV), cs'[j]? = some p → ∃ v, (ys.take (lo * e.sz) ++ vl ++ ys.drop (lo * e.sz + vl.length))[i' * e.sz + j]? = some v ∧ (RV C v p ∧ ((e.data && srcData (look C.mem) q) = true → DV C.w (imm C.mem C.hd C.I0) v p)) := fun hi0 hor => by
        obtain ⟨c1, c2, c3⟩ := hys i' cs' hi0
        have hi0lt := (List.getElem?_eq_some_iff.1 hi0).1
        refine ⟨c1, c2, fun j p hj => ?_⟩
        obtain ⟨u, k1, k2, k3⟩ := c3 j p hj
        have hjlt := (List.getElem?_eq_some_iff.1 hj).1
        refine ⟨u, ?_, k2, fun hd => k3 (by simp at hd; exact hd.1)⟩
        rw [spl_get ys vl _ _ (by omega)]
        rcases hor with hor | hor
        · have := index_lt (j := j + 1) hor (show j + 1 ≤ e.sz by omega)
          rw [if_pos (by omega)]; exact k1
        · have : (lo + n) * e.sz ≤ i' * e.sz := Nat.mul_le_mul_right _ hor
          rw [Nat.add_mul] at this
          rw [if_neg (by omega), if_neg (by omega)]; exact k1
      split at hi'
      · rename_i hlt; exact hsame hi' (.inl hlt)
      · rename_i hlt
        split at hi'
        · rename_i hlt2
          rw [List.getElem?_take, if_pos (by omega)] at hi'
          obtain ⟨c1, c2, c3⟩ := hrows (i' - lo) cs' hi'
          refine ⟨by rw [hesz]; exact c1, c2, fun j p hj => ?_⟩
          obtain ⟨u, k1, k2, k3⟩ := c3 j p hj
          have hjlt := (List.getElem?_eq_some_iff.1 hj).1
          refine ⟨u, ?_, k2, fun hd => k3 (by simp at hd; exact hd.2)⟩
          have b1 := index_lt (i := i' - lo) (n := n) (j := j + 1) (by omega) (show j + 1 ≤ sz2 by omega)
          have b2 : i' * e.sz = lo * e.sz + (i' - lo) * sz2 := by
            rw [← hesz, ← Nat.add_mul]; congr 1; omega
          rw [spl_get ys vl _ _ (by omega), if_neg (by omega), if_pos (by omega), b2, show lo * e.sz + (i' - lo) * sz2 + j - lo * e.sz = (i' - lo) * sz2 + j by omega, hvget _ (by omega)]
          exact k1
        · exact hsame hi' (.inr (by omega)))
  intro K hK
  have hrun : (execOp a.eval o).run P C.w = .ok (.value (goInt n)) w' := by
    have := run_copy (P := P) t o.type e0 i sz2 hu hinf hsz (w := C.w) (w' := w') (A := A) (B := B) (d := h - lo) (c := cp) (m := news.length) (c' := c') (n := n) (us := vl) hn hvlen
      (fun hB => by
        rcases Nat.eq_zero_or_pos news.length with h0 | h0
        · omega
        · obtain ⟨ad, h3, _⟩ := hadr h0
          rw [hB] at h3; cases h3)
      (fun ad hB j u hj => by
        have hjl := (List.getElem?_eq_some_iff.1 hj).1
        have h0 : 0 < news.length := by
          rcases Nat.eq_zero_or_pos news.length with h0 | h0
          · rw [show n = 0 by omega] at hvlen; simp at hvlen; subst hvlen; simp at hjl
          · exact h0
        obtain ⟨ad', h3, h4⟩ := hadr h0
        rw [hB] at h3; injection h3 with h3; subst h3
        exact h4 j u (by rw [← hvget j (by omega)]; exact hj)) hstore hstore0
    simp only [execOp, ho, resolve, hc, hca, hct, invoke, builtin, Sem.run_bind, Sem.run_pure, Result.andThen_ok, List.map_toArray, List.map_cons, List.map_nil, hv, e2, this]
  unfold Oper.wp
  rw [hrun]
  refine hK _ w' C.hd hT.1 hT.2 ?_
  rw [← hn]
  exact .data _ _ (.int _ _)
theorem sound_copy {t e0 : TypeId} {sz by_ : Nat} {z : List PV} {s x : Operand} {l m : LX} {c : Call} (hs : SlotsOk C N slots a) (M : MemInv w0 C) (ho : o.op = .call c) (hc : c.callee = .builtin .copy) (hca : c.args = #[s, x]) (hct : c.argTypes = #[t, t])
    (hr : compRow P t = some (e0, sz, by_, z)) (hsx : compX s = some l) (hx : compX x = some m) (ha : lxs slots [l, m] = some xs) (hact : (LOp.copy sz l m).act Γ o.dst C.gen xs (look C.mem) = some (r, up)) : Goal P o a Q w0 C r up := by
  obtain ⟨p, q, rfl, hp, hq⟩ := lxs_2 ha
  have h1 := x_sound M hs hsx hp
  have h2 := x_sound M hs hx hq
  cases p <;> (try simp only [reduceCtorEq, LOp.act] at hact)
  · rename_i nm ver
    refine sound_copyAt M ho hc hca hct hr h2 (fun e he _ _ => ?_) hact
    have hh := h1.own_inv.2.2 e he
    obtain ⟨ys, hown, _⟩ := M.rows nm ver e he
    simp only [Option.getD_none, Nat.sub_zero]
    rcases hown.2 with ⟨h3, h0⟩ | ⟨g, cap, cur, h3, _⟩
    · exact ⟨none, 0, by rw [hh, h3, h0], fun _ => h0, fun g cap hg hl => by omega⟩
    · refine ⟨_, cap, hh.trans h3, fun h => (by cases h), fun g' cap' hg _ => ?_⟩
      rw [h3] at hg
      injection hg with hg _ _
      injection hg with hg
      rw [hg]; simp
  · rename_i nm ver lo hi
    refine sound_copyAt M ho hc hca hct hr h2 (fun e he hlo hhi => ?_) hact
    have hh := h1.sub_inv.2.2 e he
    obtain ⟨ad, c1, hrow, hcap⟩ := row_len M he
    simp only [subHdr, hrow] at hh
    obtain ⟨b1, b2, hh⟩ := hh
    simp only [Option.getD_some] at *
    refine ⟨_, _, hh, fun hn => ?_, fun g cap hg hl => ?_⟩
    · rcases Nat.eq_zero_or_pos (hi - lo) with h0 | h0
      · exact h0
      · obtain ⟨g, cap, hg, _⟩ := row_hdr M he (by omega)
        rw [hg] at hrow
        injection hrow with r1 r2 r3
        rw [if_neg (by omega), ← r1] at hn
        cases hn
    · rw [hg] at hrow
      injection hrow with r1 r2 r3
      rw [if_neg (by omega), ← r1]
      simp only [Option.map_some, add0]
end
end Go.PW
namespace Go.PW
open Go.RowKit
section
variable {P : Program} {o : Oper} {a : Act} {Q : Exit → Act → World → Prop} {w0 : Base} {C : Ctx}
variable {N : Nat} {slots : List (Nat × PV)} {Γ : List (Nat × Fact P)} {xs : List PV} {r : PV} {up : List (Nat × Ent)}
theorem compIdxV_some {t : TypeId} {n s : Nat} {ag : Bool} (h : compIdxV P t = some (n, s, ag)) : ∃ e, P.underlying t = some (.array n e) ∧ sizeT P e = some s ∧ isAggT P e = some ag := by
  unfold compIdxV at h
  split at h
  · rename_i n' e hu
    split at h
    · rename_i s' ag' h1 h2
      simp only [Option.some.injEq, Prod.mk.injEq] at h
      obtain ⟨rfl, rfl, rfl⟩ := h
      exact ⟨e, hu, h1, h2⟩
    · cases h
  · cases h
theorem sound_vidx {t : TypeId} {x i : Operand} {n0 s : Nat} {ag : Bool} {l m : LX} (hs : SlotsOk C N slots a) (M : MemInv w0 C) (ho : o.op = .index t x i) (hc : compIdxV P t = some (n0, s, ag))
    (hx : compX x = some l) (hi : compX i = some m) (ha : lxs slots [l, m] = some xs) (hact : (LOp.vidx n0 s ag l m).act Γ o.dst C.gen xs (look C.mem) = some (r, up)) : Goal P o a Q w0 C r up := by
  obtain ⟨p, q, rfl, hp, hq⟩ := lxs_2 ha
  have h1 := x_sound M hs hx hp
  have h2 := x_sound M hs hi hq
  cases p <;> (try simp only [reduceCtorEq, LOp.act] at hact)
  cases q <;> (try simp only [reduceCtorEq] at hact)
  rename_i cs k n
  split at hact
  case isFalse => cases hact
  case isTrue h0 =>
  simp only [Option.map_eq_some_iff, Prod.mk.injEq] at hact
  obtain ⟨r', h3, rfl, rfl⟩ := hact
  obtain ⟨vs, e1, s1, o1, c1⟩ := h1.agg_inv
  obtain ⟨e, hu, hsz, hag⟩ := compIdxV_some hc
  obtain ⟨g1, g2⟩ := rd_sound s1 o1 c1 h3
  have hb : 0 ≤ n ∧ n < (n0 : Int) := ⟨h0.1, by have := h0.2; omega⟩
  cases ag
  · obtain ⟨v, hv, _, hr'⟩ := g2 rfl
    refine Goal.pure M (v := v) ?_ hr'
    simp [execOp, ho, e1, h2.int_inv, Instr.index, asIntOf, run_underlying hu, hb, part, isAggT_run hag, sizeT_run hsz, hv]
  · refine Goal.pure M (v := .agg (vs.extract (n.toNat * s) (n.toNat * s + s))) ?_ (g1 rfl)
    simp [execOp, ho, e1, h2.int_inv, Instr.index, asIntOf, run_underlying hu, hb, part, isAggT_run hag, sizeT_run hsz]
theorem compPartsA_sound {s : Nat} : ∀ {ps : List (Nat × Operand)} {ls : List (Nat × Nat × LX)}, compPartsA s ps = some ls → ps.length = ls.length ∧
    ∀ (k : Nat) (i : Nat) (x : Operand) (off n : Nat) (l : LX), ps[k]? = some (i, x) → ls[k]? = some (off, n, l) → compX x = some l ∧ off = i * s ∧ n = s
  | [], ls, h => by simp [compPartsA] at h; subst h; simp
  | (i, x) :: r, ls, h => by
    simp only [compPartsA] at h
    split at h
    · rename_i l ps h1 h2
      injection h with h; subst h
      obtain ⟨e1, e2⟩ := compPartsA_sound h2
      refine ⟨by simp [e1], fun k i' x' off n l' hk hl => ?_⟩
      cases k with
      | zero =>
        simp at hk hl
        obtain ⟨rfl, rfl⟩ := hk
        obtain ⟨rfl, rfl, rfl⟩ := hl
        exact ⟨h1, rfl, rfl⟩
      | succ k => exact e2 k i' x' off n l' (by simpa using hk) (by simpa using hl)
    · cases h
theorem sound_buildA {t e : TypeId} {len s : Nat} {parts : Array (Nat × Operand)} {z : List PV} {ls : List (Nat × Nat × LX)} (hs : SlotsOk C N slots a) (M : MemInv w0 C) (ho : o.op = .build t parts) (hu : P.underlying t = some (.array len e)) (hz : zeroT P t = some z)
    (hsz : sizeT P e = some s) (hc : compPartsA s parts.toList = some ls) (ha : lxs slots (ls.map (·.2.2)) = some xs)
    (hact : (LOp.build z ls).act Γ o.dst C.gen xs (look C.mem) = some (r, up)) : Goal P o a Q w0 C r up := by
  simp only [LOp.act] at hact
  split at hact
  case isFalse => cases hact
  case isTrue hlen =>
  simp only [Option.map_eq_some_iff, Prod.mk.injEq] at hact
  obtain ⟨cs, hf, rfl, rfl⟩ := hact
  obtain ⟨i, zv, h1, h2, h3⟩ := zeroT_some hz
  obtain ⟨e1, e2⟩ := compPartsA_sound hc
  obtain ⟨g1, g2⟩ := lxs_get ha
  obtain ⟨cells', hfill, hpw⟩ := fill_sound (C := C) (place := fun i => some (i * s, s)) (parts.toList.map fun x => (x.1, a.eval x.2)) _ zv.cells z cs (by simp at e1 hlen ⊢; omega)
    (fun k i v off n p hk hl => by
      rw [List.getElem?_map, Option.map_eq_some_iff] at hk hl
      obtain ⟨⟨i', x⟩, hk, he⟩ := hk
      obtain ⟨⟨⟨off', n', l⟩, p'⟩, hl, he'⟩ := hl
      simp at he he'
      obtain ⟨rfl, rfl⟩ := he
      obtain ⟨rfl, rfl, rfl⟩ := he'
      rw [List.getElem?_zip_eq_some] at hl
      obtain ⟨hl1, hl2⟩ := hl
      obtain ⟨k1, k3, k4⟩ := e2 k i' x off' n' l hk hl1
      refine ⟨by rw [k3, k4], x_sound M hs k1 (g2 k l p' (by simp [hl1]) hl2)⟩) (zero_pw h3) hf
  refine Goal.pure M (v := .agg cells') ?_ (.mk_agg hpw.1 hpw.2.1 hpw.2.2)
  have hzr : (zeroValue t).run P C.w = .ok zv C.w := by simp [zeroValue, typeInfo, h1, h2]
  have hfill' : Instr.fill (fun i => some (i * s, s)) zv.cells ((parts.map fun (x : Nat × Operand) => (x.1, a.eval x.2)).toList) = some cells' := by
    rw [Array.toList_map]; exact hfill
  have hb : (Instr.build t (parts.map fun (x : Nat × Operand) => (x.1, a.eval x.2))).run P C.w = .ok (.agg cells') C.w := by
    simp only [Instr.build, Sem.run_bind, hzr, Result.andThen_ok, run_underlying hu, sizeT_run hsz]
    split
    · rename_i cells hce
      rw [hfill'] at hce; injection hce with hce; subst hce; rfl
    · rename_i hce
      exact absurd hfill' (hce _)
  simp only [execOp, ho]
  simp only [Sem.run_bind]
  exact (congrArg (fun r => Result.andThen r _) hb).trans rfl
theorem sound_isnilI {op : BinOp} {t u : TypeId} {x y : Operand} {neg : Bool} {l : LX} (hs : SlotsOk C N slots a) (M : MemInv w0 C) (ho : o.op = .binOp op t x y u) (hop : op = if neg then .neq else .eql) (hu : isIfaceT P t = true) (hy : isNilI y = true)
    (hx : compX x = some l) (ha : lxs slots [l] = some xs) (hact : (LOp.isnilI neg l).act Γ o.dst C.gen xs (look C.mem) = some (r, up)) : Goal P o a Q w0 C r up := by
  obtain ⟨p, rfl, hp⟩ := lxs_1 ha
  have hr := x_sound M hs hx hp
  obtain ⟨ms, hu⟩ : ∃ ms, P.underlying t = some (.interface ms) := by
    unfold isIfaceT at hu
    split at hu
    · rename_i h; exact ⟨_, h⟩
    · cases hu
  obtain rfl : y = .const .nilIface := by
    unfold isNilI at hy
    split at hy
    · rfl
    · cases hy
  cases p <;> (try simp only [reduceCtorEq, LOp.act] at hact)
  rename_i b
  simp only [Option.some.injEq, Prod.mk.injEq] at hact
  obtain ⟨rfl, rfl⟩ := hact
  have hd := hr.isD rfl
  generalize hv : a.eval x = v at hd
  have run : ∀ (c : Bool), (Op.equal t v .nilIface).run P C.w = .ok c C.w → (eqGuard op t x (.const .nilIface) v .nilIface) = Pure.pure () → (execOp a.eval o).run P C.w = .ok (.value (.bool (c != neg))) C.w := by
    intro c he hg
    have hyv : a.eval (.const .nilIface) = .nilIface := rfl
    cases neg
    · simp only [Bool.false_eq_true, if_false] at hop
      subst hop
      simp only [execOp, ho, hv, hyv, hg]
      cases hd <;> simp [binOp, he]
    · simp only [if_true] at hop
      subst hop
      simp only [execOp, ho, hv, hyv, hg]
      cases hd <;> simp [binOp, he]
  cases hd with
  | nilI =>
    have he : (Op.equal t .nilIface .nilIface).run P C.w = .ok true C.w := by
      unfold Op.equal Op.maxDepth Op.equalIn
      simp only [Sem.run_bind, run_underlying hu, Result.andThen_ok]
      rfl
    exact Goal.pure M (run true he (by subst hop; cases neg <;> cases x <;> rfl)) (RV.bool _)
  | iface t' v' =>
    have he : (Op.equal t (.iface t' v') .nilIface).run P C.w = .ok false C.w := by
      unfold Op.equal Op.maxDepth Op.equalIn
      simp only [Sem.run_bind, run_underlying hu, Result.andThen_ok]
      rfl
    exact Goal.pure M (run false he (by subst hop; cases neg <;> rfl)) (RV.bool _)
theorem sound_isnil {op : BinOp} {t e u : TypeId} {x y : Operand} {neg : Bool} {l : LX} (hs : SlotsOk C N slots a) (M : MemInv w0 C) (ho : o.op = .binOp op t x y u) (hop : op = if neg then .neq else .eql) (hu : P.underlying t = some (.slice e)) (hy : isNilC y = true)
    (hx : compX x = some l) (ha : lxs slots [l] = some xs) (hact : (LOp.isnil neg l).act Γ o.dst C.gen xs (look C.mem) = some (r, up)) : Goal P o a Q w0 C r up := by
  obtain ⟨p, rfl, hp⟩ := lxs_1 ha
  have hr := x_sound M hs hx hp
  have hyv : a.eval y = .slice none 0 0 := by
    unfold isNilC at hy
    split at hy
    · rfl
    · cases hy
  have run : ∀ (A : Option Addr) (n c : Nat), a.eval x = .slice A n c → (execOp a.eval o).run P C.w = .ok (.value (.bool (A.isNone != neg))) C.w := by
    intro A n c hv
    have he := run_equal_slice_nil (P := P) (w := C.w) t e A n c hu
    have hg : (eqGuard op t x y (.slice A n c) (.slice none 0 0)) = Pure.pure () := by subst hop; cases neg <;> rfl
    cases neg
    · simp only [Bool.false_eq_true, if_false] at hop
      subst hop
      simp only [execOp, ho, hv, hyv, hg, binOp]
      simp [he]
    · simp only [if_true] at hop
      subst hop
      simp only [execOp, ho, hv, hyv, hg, binOp]
      simp [he]
  cases p <;> (try simp only [reduceCtorEq, LOp.act] at hact)
  · simp only [Option.some.injEq, Prod.mk.injEq] at hact
    obtain ⟨rfl, rfl⟩ := hact
    have := run none 0 0 hr.nils_inv
    exact Goal.pure M (v := .bool (!neg)) (by rw [this]; cases neg <;> rfl) (RV.bool _)
  · simp only [Option.some.injEq, Prod.mk.injEq] at hact
    obtain ⟨rfl, rfl⟩ := hact
    have hd := hr.isD rfl
    generalize hv : a.eval x = v at hd
    cases hd with
    | nz ad c =>
      have := run (some ad) 0 c hv
      exact Goal.pure M (v := .bool neg) (by rw [this]; cases neg <;> rfl) (RV.bool _)
  · rename_i sz es
    cases es with
    | nil => simp at hact
    | cons row es =>
      simp only [Option.some.injEq, Prod.mk.injEq] at hact
      obtain ⟨rfl, rfl⟩ := hact
      have hd := hr.list_inv
      generalize hv : a.eval x = v at hd
      cases hd with
      | list ad c _ _ f =>
        have := run (some ad) _ c hv
        exact Goal.pure M (v := .bool neg) (by rw [this]; cases neg <;> rfl) (RV.bool _)
theorem sound_toBytes {src dst e : TypeId} {x : Operand} {l : LX} (hs : SlotsOk C N slots a) (M : MemInv w0 C) (ho : o.op = .convert src dst x) (hc : compBytes P src dst = some e)
    (hx : compX x = some l) (ha : lxs slots [l] = some xs) (hact : (LOp.toBytes e l).act Γ o.dst C.gen xs (look C.mem) = some (r, up)) : Goal P o a Q w0 C r up := by
  obtain ⟨p, rfl, hp⟩ := lxs_1 ha
  have hr := x_sound M hs hx hp
  cases p <;> (try simp only [reduceCtorEq, LOp.act] at hact)
  rename_i s
  simp only [Option.some.injEq, Prod.mk.injEq] at hact
  obtain ⟨rfl, rfl⟩ := hact
  obtain ⟨e1, hbig⟩ := hr.str_inv
  unfold compBytes at hc
  split at hc
  case h_2 => cases hc
  rename_i e' hu1 hu2
  split at hc
  case h_2 => cases hc
  rename_i i hu3 hi
  split at hc
  case isFalse => cases hc
  injection hc with hc; subst hc
  have hrun := Lib.run_convert_string_bytes (P := P) C.w src dst e' ⟨s.toArray⟩ hu1 hu2 hu3
  have hz : (⟨s.toArray⟩ : ByteArray).size = s.length := by simp [ByteArray.size]
  rw [hz] at hrun
  have hb : Below C.w.heap.size C.w (Lib.bytesWorld C.w e' ⟨s.toArray⟩) := by
    refine ⟨rfl, rfl, rfl, ?_, fun k hk => Lib.bytesWorld_at_old _ _ _ k hk⟩
    rw [Lib.bytesWorld_size]; omega
  have hG := M.grow hb
  intro K hK
  unfold Oper.wp
  have : (execOp a.eval o).run P C.w = .ok (.value (.slice (some ⟨C.w.heap.size, 0, none⟩) s.length (grownCap C.w s.length 0 e'))) (Lib.bytesWorld C.w e' ⟨s.toArray⟩) := by
    simp only [execOp, ho, e1, Sem.run_bind, hrun, Result.andThen_ok, Sem.run_pure]
  rw [this]
  refine hK _ _ C.hd hG.1 hG.2 (.data _ _ ?_)
  by_cases h0 : s = []
  · subst h0
    exact .list0 _ _ _ fun e => by cases e
  have hcell : ∀ k, k < s.length → (Lib.bytesWorld C.w e' ⟨s.toArray⟩).cell? ⟨C.w.heap.size, k, none⟩ = some (.int .u8 (s.getD k 0).toNat) := fun k hk => by
    have := Lib.bytesWorld_cell C.w e' ⟨s.toArray⟩ k (by rw [hz]; exact hk)
    simpa using this
  have hd := DV.list (w := Lib.bytesWorld C.w e' ⟨s.toArray⟩) (I := imm C.mem C.hd C.I0) ⟨C.w.heap.size, 0, none⟩ (grownCap C.w s.length 0 e') 1 (s.map fun b => [PV.int .u8 b.toNat]) (fun i _ => .int .u8 (s.getD i 0).toNat)
    (by rw [List.length_map]; exact grownCap_ge _ _ _ _) (by rw [List.length_map]; exact hbig) (M.imm_new (Nat.le_refl _)) (by rw [Lib.bytesWorld_size]; exact Nat.lt_succ_self _)
    (fun i cs hi => by
      rw [List.getElem?_map, Option.map_eq_some_iff] at hi
      obtain ⟨b, _, rfl⟩ := hi
      exact ⟨rfl, by simp [PV.one]⟩)
    (fun i cs j p hi hj => by
      have hil := (List.getElem?_eq_some_iff.1 hi).1
      rw [List.length_map] at hil
      rw [List.getElem?_map, Option.map_eq_some_iff] at hi
      obtain ⟨b, _, rfl⟩ := hi
      have hj0 := (List.getElem?_eq_some_iff.1 hj).1
      simp at hj0
      subst hj0
      have := hcell i hil
      by_cases q : i = 0
      · subst q; simpa [Addr.add] using this
      · simpa [Addr.add, q] using this)
    (fun i cs j p hi hj => by
      rw [List.getElem?_map, Option.map_eq_some_iff] at hi
      obtain ⟨b, hb, rfl⟩ := hi
      have hj0 := (List.getElem?_eq_some_iff.1 hj).1
      simp at hj0
      subst hj0
      simp at hj
      subst hj
      rw [List.getD_eq_getElem?_getD, hb]
      exact .int _ _)
  rw [List.length_map] at hd
  exact hd
theorem run_clear {t e ty : TypeId} {i : TypeInfo} {zv : Value} (hu : P.underlying t = some (.slice e)) (hi : P.info? e = some i) (hz : i.zero = some zv) {w w' : World} {A : Option Addr} {n c : Nat}
    (h0 : n = 0 → w' = w) (hA : A = none → n = 0) (hs : ∀ ad, A = some ad → 0 < n → (storeCells ad (Builtin.zeroCells zv.cells n).toList 0).run P w = .ok () w') :
    (Builtin.clear_ #[t] ty #[.slice A n c]).run P w = .ok (.tuple #[]) w' := by
  cases A with
  | none =>
    have := h0 (hA rfl)
    subst this
    simp [Builtin.clear_, run_underlying hu]
  | some ad =>
    cases n with
    | zero =>
      have := h0 rfl
      subst this
      simp [Builtin.clear_, run_underlying hu]
    | succ n =>
      have := hs ad rfl (by omega)
      simp [Builtin.clear_, run_underlying hu, zeroValue, typeInfo, hi, hz, this]
theorem sound_clearAt {t e0 : TypeId} {sz by_ : Nat} {z : List PV} {s : Operand} {c : Call} {nm ver lo : Nat} {hi : Option Nat} (M : MemInv w0 C) (ho : o.op = .call c) (hc : c.callee = .builtin .clear) (hca : c.args = #[s]) (hct : c.argTypes = #[t])
    (hr : compRow P t = some (e0, sz, by_, z))
    (h1 : ∀ e, liveF (look C.mem) nm ver = some e → lo ≤ hi.getD e.es.length → hi.getD e.es.length ≤ e.es.length → ∃ (A : Option Addr) (cp : Nat), a.eval s = .slice A (hi.getD e.es.length - lo) cp ∧
      (A = none → hi.getD e.es.length - lo = 0) ∧ ∀ g cap, C.hd nm = .slice (some ⟨g, 0, none⟩) e.es.length cap → 0 < hi.getD e.es.length - lo → A = some ⟨g, lo * e.sz, none⟩)
    (hact : clearAt (look C.mem) sz nm ver lo hi z = some (r, up)) : Goal P o a Q w0 C r up := by
  obtain ⟨i, zv, hu, hinf, hz, hzs, hpos, hsz, hby, hb0, hzc⟩ := compRow_some hr
  unfold clearAt at hact
  split at hact
  case h_2 => cases hact
  rename_i e he
  split at hact
  case isFalse => cases hact
  case isTrue hcond =>
  obtain ⟨hesz, hlo, hhi⟩ := hcond
  simp only [Option.some.injEq, Prod.mk.injEq] at hact
  obtain ⟨rfl, rfl⟩ := hact
  obtain ⟨A, cp, hv, hA0, hA⟩ := h1 e he hlo hhi
  generalize hhd : hi.getD e.es.length = h at *
  obtain ⟨ys, hown, hbig2, hys⟩ := M.rows nm ver e he
  have hyl : ys.length = e.es.length * e.sz := hown.1
  obtain ⟨n, hn⟩ : ∃ n, n = h - lo := ⟨_, rfl⟩
  have hnle2 : lo + n ≤ e.es.length := by omega
  have hmul : (lo + n) * e.sz ≤ e.es.length * e.sz := Nat.mul_le_mul_right _ hnle2
  rw [Nat.add_mul] at hmul
  obtain ⟨vl, hvl⟩ : ∃ vl, vl = (Builtin.zeroCells zv.cells n).toList := ⟨_, rfl⟩
  have hrows : RowsPw C sz (madeCells zv.cells (n * sz)) (List.replicate n z) := madeCells_pw hzc hzs
  have hvm : vl = (madeCells zv.cells (n * sz)).toList := by rw [hvl]; unfold Builtin.zeroCells madeCells; rw [hzs]
  have hvlen : vl.length = n * sz := by rw [hvm, Array.length_toList, hrows.1, List.length_replicate]
  have hzl : z.length = sz := by
    obtain ⟨e1, _, _⟩ := compCells_sound hzc C.w (imm C.mem C.hd C.I0)
    rw [← hzs]; simpa using e1.symm
  have hvone : ∀ u ∈ vl, u.oneCell' = true := fun u hu => by
    obtain ⟨k, hk⟩ := List.getElem?_of_mem hu
    have hkl := (List.getElem?_eq_some_iff.1 hk).1
    have hin : k / sz < n := Nat.div_lt_of_lt_mul (by rw [Nat.mul_comm]; omega)
    have hj : k % sz < sz := Nat.mod_lt _ hpos
    obtain ⟨c1, c2, c3⟩ := hrows.2 (k / sz) z (by rw [List.getElem?_replicate, if_pos hin])
    obtain ⟨u', k1, k2⟩ := c3 (k % sz) _ (List.getElem?_eq_getElem (by omega))
    have : k / sz * sz + k % sz = k := by rw [Nat.mul_comm]; exact Nat.div_add_mod k sz
    rw [this, ← Array.getElem?_toList, ← hvm, hk] at k1
    injection k1 with k1
    subst k1
    exact k2.oneCell (c2 _ (List.getElem_mem _))
  -- the world behind it
  have hst : ∃ w', (∀ ad, A = some ad → 0 < n → (storeCells ad vl 0).run P C.w = .ok () w') ∧ (n = 0 → w' = C.w) ∧ C.w.grownBy w' (C.hd nm).ownBlock ∧
      w'.ownsRow w0.B e.elem e.sz (C.hd nm) e.es.length (ys.take (lo * e.sz) ++ vl ++ ys.drop (lo * e.sz + vl.length)) := by
    by_cases hn0 : n = 0
    · have hv0 : vl = [] := List.eq_nil_of_length_eq_zero (by rw [hvlen, hn0]; simp)
      refine ⟨C.w, fun ad _ h => by omega, fun _ => rfl, ⟨rfl, rfl, rfl, Nat.le_refl _, fun _ _ _ => rfl⟩, ?_⟩
      · rw [hv0]; simpa using hown
    · rcases hown.2 with ⟨_, h0⟩ | ⟨g, cap, cur, hh, hg, hheap, hnc, hcm, hcs', htake⟩
      · omega
      have hAe := hA g cap hh (by omega)
      subst hAe
      have hle2 : e.es.length * e.sz ≤ cap * e.sz := Nat.mul_le_mul_right _ hnc
      have hst := run_storeCells_at P g (lo * e.sz) e.elem vl 0 cur C.w hheap (by rw [hvlen, ← hesz]; omega) hvone
      simp only [Nat.add_zero] at hst
      have hcurlen : cur.toList.length = cap * e.sz := by simpa using hcs'
      have hys' : ∀ k, k < e.es.length * e.sz → ys[k]? = cur.toList[k]? := by
        intro k hk
        rw [← htake, List.getElem?_take, if_pos hk]
      refine ⟨_, fun ad hh _ => by injection hh with hh; rw [← hh]; exact hst, fun hh => absurd hh hn0, ?_, ?_⟩
      · rw [hh]
        exact ⟨rfl, rfl, rfl, by simp, fun k _ hk => setRow_other C.w g k _ (fun e => hk (by simp [Value.ownBlock, e]))⟩
      · have hvl2 : vl.length = n * e.sz := by rw [hvlen, hesz]
        refine ⟨by simp; omega, .inr ⟨g, cap, _, hh, hg, setRow_heap C.w g cur _ e.elem _ hheap, hnc, hcm, by simp; omega, ?_⟩⟩
        apply List.ext_getElem?
        intro k
        rw [List.getElem?_take]
        by_cases hk : k < e.es.length * e.sz
        · rw [if_pos hk, spl_get ys vl _ k (by omega), hys' k hk]
          exact spl_get cur.toList vl _ k (by omega)
        · rw [if_neg hk, List.getElem?_eq_none (by simp; omega)]
  obtain ⟨w', hstore, hstore0, hgrown, hown'⟩ := hst
  have hes : (e.es.take lo ++ List.replicate (h - lo) z ++ e.es.drop h).length = e.es.length := by
    simp; omega
  have hvl2 : vl.length = n * e.sz := by rw [hvlen, hesz]
  have hT := M.turn_row (nm := nm) (ver := ver) (e := e) (e' := { e with es := e.es.take lo ++ List.replicate (h - lo) z ++ e.es.drop h, data := e.data && z.all PV.isD }) (w' := w')
    (xs := ys.take (lo * e.sz) ++ vl ++ ys.drop (lo * e.sz + vl.length)) he rfl rfl hes rfl hgrown (by dsimp only; rw [hes]; exact hown') (by dsimp only; rw [hes]; exact hbig2) (fun i' cs' hi' => by
      dsimp only at hi' ⊢
      have hd2 : h = lo + (List.replicate (h - lo) z).length := by rw [List.length_replicate]; omega
      rw [show e.es.drop h = e.es.drop (lo + (List.replicate (h - lo) z).length) by rw [← hd2], spl_get e.es _ lo i' (by omega), List.length_replicate, ← hn] at hi'
      have hsame : e.es[i']? = some cs' → (i' < lo ∨ lo + n ≤ i') → cs'.length = e.sz ∧ (∀ p ∈ cs', p.one = true) ∧
          ∀ (j : Nat) (p : PV), cs'[j]? = some p → ∃ v, (ys.take (lo * e.sz) ++ vl ++ ys.drop (lo * e.sz + vl.length))[i' * e.sz + j]? = some v ∧ (RV C v p ∧ ((e.data && z.all PV.isD) = true → DV C.w (imm C.mem C.hd C.I0) v p)) := fun hi0 hor => by
        obtain ⟨c1, c2, c3⟩ := hys i' cs' hi0
        have hi0lt := (List.getElem?_eq_some_iff.1 hi0).1
        refine ⟨c1, c2, fun j p hj => ?_⟩
        obtain ⟨u, k1, k2, k3⟩ := c3 j p hj
        have hjlt := (List.getElem?_eq_some_iff.1 hj).1
        refine ⟨u, ?_, k2, fun hd => k3 (by simp at hd; exact hd.1)⟩
        rw [spl_get ys vl _ _ (by omega)]
        rcases hor with hor | hor
        · have := index_lt (j := j + 1) hor (show j + 1 ≤ e.sz by omega)
          rw [if_pos (by omega)]; exact k1
        · have : (lo + n) * e.sz ≤ i' * e.sz := Nat.mul_le_mul_right _ hor
          rw [Nat.add_mul] at this
          rw [if_neg (by omega), if_neg (by omega)]; exact k1
      split at hi'
      · rename_i hlt; exact hsame hi' (.inl hlt)
      · rename_i hlt
        split at hi'
        · rename_i hlt2
          have hz' : cs' = z := by
            rw [List.getElem?_replicate] at hi'
            split at hi'
            · injection hi' with hi'; exact hi'.symm
            · cases hi'
          subst hz'
          obtain ⟨c1, c2, c3⟩ := hrows.2 (i' - lo) cs' (by rw [List.getElem?_replicate, if_pos (by omega)])
          refine ⟨by rw [hesz]; exact c1, c2, fun j p hj => ?_⟩
          obtain ⟨u, k1, k2⟩ := c3 j p hj
          have hjlt := (List.getElem?_eq_some_iff.1 hj).1
          refine ⟨u, ?_, k2, fun hd => k2.isD (by simp only [Bool.and_eq_true, List.all_eq_true] at hd; exact hd.2 p (List.mem_of_getElem? hj))⟩
          have b1 := index_lt (i := i' - lo) (n := n) (j := j + 1) (by omega) (show j + 1 ≤ sz by omega)
          have b2 : i' * e.sz = lo * e.sz + (i' - lo) * sz := by
            rw [← hesz, ← Nat.add_mul]; congr 1; omega
          rw [spl_get ys vl _ _ (by omega), if_neg (by omega), if_pos (by omega), b2, show lo * e.sz + (i' - lo) * sz + j - lo * e.sz = (i' - lo) * sz + j by omega, hvm, Array.getElem?_toList]
          exact k1
        · exact hsame hi' (.inr (by omega)))
  intro K hK
  have hrun : (execOp a.eval o).run P C.w = .ok (.value (.tuple #[])) w' := by
    have := run_clear (P := P) (ty := o.type) (c := cp) (n := n) hu hinf hz (A := A) hstore0 (fun e => by rw [hn]; exact hA0 e) (by rw [← hvl]; exact hstore)
    rw [← hn] at hv
    simp only [execOp, ho, resolve, hc, hca, hct, invoke, builtin, Sem.run_bind, Sem.run_pure, Result.andThen_ok, List.map_toArray, List.map_cons, List.map_nil, hv, this]
  unfold Oper.wp
  rw [hrun]
  refine hK _ w' C.hd hT.1 hT.2 ?_
  exact .data _ _ (.tup _ _ rfl fun j v p h => by simp at h)
theorem sound_clear {t e0 : TypeId} {sz by_ : Nat} {z : List PV} {s : Operand} {l : LX} {c : Call} (hs : SlotsOk C N slots a) (M : MemInv w0 C) (ho : o.op = .call c) (hc : c.callee = .builtin .clear) (hca : c.args = #[s]) (hct : c.argTypes = #[t])
    (hr : compRow P t = some (e0, sz, by_, z)) (hsx : compX s = some l) (ha : lxs slots [l] = some xs) (hact : (LOp.clear sz z l).act Γ o.dst C.gen xs (look C.mem) = some (r, up)) : Goal P o a Q w0 C r up := by
  obtain ⟨p, rfl, hp⟩ := lxs_1 ha
  have h1 := x_sound M hs hsx hp
  cases p <;> (try simp only [reduceCtorEq, LOp.act] at hact)
  · simp only [Option.some.injEq, Prod.mk.injEq] at hact
    obtain ⟨rfl, rfl⟩ := hact
    obtain ⟨i, zv, hu, hinf, hz, hzs, hpos, hsz, hby, hb0, hzc⟩ := compRow_some hr
    refine Goal.pure M (v := .tuple #[]) ?_ (.data _ _ (.tup _ _ rfl fun j v p h => by simp at h))
    have := run_clear (P := P) (ty := o.type) (c := 0) (n := 0) (w := C.w) (w' := C.w) (A := none) hu hinf hz (fun _ => rfl) (fun _ => rfl) (fun ad e => by cases e)
    simp only [execOp, ho, resolve, hc, hca, hct, invoke, builtin, Sem.run_bind, Sem.run_pure, Result.andThen_ok, List.map_toArray, List.map_cons, List.map_nil, h1.nils_inv, this]
  · rename_i nm ver
    refine sound_clearAt M ho hc hca hct hr (fun e he _ _ => ?_) hact
    have hh := h1.own_inv.2.2 e he
    obtain ⟨ys, hown, _⟩ := M.rows nm ver e he
    simp only [Option.getD_none, Nat.sub_zero]
    rcases hown.2 with ⟨h3, h0⟩ | ⟨g, cap, cur, h3, _⟩
    · exact ⟨none, 0, by rw [hh, h3, h0], fun _ => h0, fun g cap hg hl => by omega⟩
    · refine ⟨_, cap, hh.trans h3, fun h => (by cases h), fun g' cap' hg _ => ?_⟩
      rw [h3] at hg
      injection hg with hg _ _
      injection hg with hg
      rw [hg]; simp
  · rename_i nm ver lo hi
    refine sound_clearAt M ho hc hca hct hr (fun e he hlo hhi => ?_) hact
    have hh := h1.sub_inv.2.2 e he
    obtain ⟨ad, c1, hrow, hcap⟩ := row_len M he
    simp only [subHdr, hrow] at hh
    obtain ⟨b1, b2, hh⟩ := hh
    simp only [Option.getD_some] at *
    refine ⟨_, _, hh, fun hn => ?_, fun g cap hg hl => ?_⟩
    · rcases Nat.eq_zero_or_pos (hi - lo) with h0 | h0
      · exact h0
      · obtain ⟨g, cap, hg, _⟩ := row_hdr M he (by omega)
        rw [hg] at hrow
        injection hrow with r1 r2 r3
        rw [if_neg (by omega), ← r1] at hn
        cases hn
    · rw [hg] at hrow
      injection hrow with r1 r2 r3
      rw [if_neg (by omega), ← r1]
      simp only [Option.map_some, add0]
end
end Go.PW
namespace Go.PW
open Go.RowKit
section
variable {P : Program} {o : Oper} {a : Act} {Q : Exit → Act → World → Prop} {w0 : Base} {C : Ctx}
variable {N : Nat} {slots : List (Nat × PV)} {Γ : List (Nat × Fact P)} {xs : List PV} {r : PV} {up : List (Nat × Ent)}
theorem comp2_some {x y : Operand} {k : LX → LX → LOp} {lo : LOp} (h : comp2 x y k = some lo) : ∃ l m, compX x = some l ∧ compX y = some m ∧ lo = k l m := by
  unfold comp2 at h
  split at h
  · rename_i l m h1 h2; injection h with h; exact ⟨l, m, h1, h2, h.symm⟩
  · cases h
theorem isBoolT_some {t : TypeId} (h : isBoolT P t = true) : P.underlying t = some .bool := by
  unfold isBoolT at h
  split at h
  · assumption
  · cases h
theorem isStrT_some {t : TypeId} (h : isStrT P t = true) : P.underlying t = some .string := by
  unfold isStrT at h
  split at h
  · assumption
  · cases h
theorem isSliceT_some {t : TypeId} (h : isSliceT P t = true) : ∃ e, P.underlying t = some (.slice e) := by
  unfold isSliceT at h
  split at h
  · exact ⟨_, by assumption⟩
  · cases h
theorem array1 {α : Type} {xs : Array α} {x : α} (h : xs.toList = [x]) : xs = #[x] := Array.ext' (by simpa using h)
theorem array2 {α : Type} {xs : Array α} {x y : α} (h : xs.toList = [x, y]) : xs = #[x, y] := Array.ext' (by simpa using h)
theorem op_sound {lo : LOp} (hc : compK P o.op = some lo) (hs : SlotsOk C N slots a) (M : MemInv w0 C) (ha : lxs slots lo.args = some xs)
    (hact : lo.act Γ o.dst C.gen xs (look C.mem) = some (r, up)) : Goal P o a Q w0 C r up := by
  cases ho : o.op with
  | move x =>
    rw [ho] at hc
    simp only [compK, Option.map_eq_some_iff] at hc
    obtain ⟨l, h1, rfl⟩ := hc
    exact sound_move hs M (.inl ho) h1 ha hact
  | assign x =>
    rw [ho] at hc
    simp only [compK, Option.map_eq_some_iff] at hc
    obtain ⟨l, h1, rfl⟩ := hc
    exact sound_move hs M (.inr ho) h1 ha hact
  | pick c x y =>
    rw [ho] at hc
    simp only [compK] at hc
    split at hc
    · rename_i h1 h2 h3
      injection hc with hc; subst hc
      exact sound_pick hs M ho h1 h2 h3 ha hact
    · cases hc
  | binOp op t x y u =>
    rw [ho] at hc
    simp only [compK] at hc
    split at hc
    · rename_i hsn
      simp only [Bool.and_eq_true] at hsn
      obtain ⟨e, hu⟩ := isSliceT_some hsn.1
      split at hc
      · simp only [Option.map_eq_some_iff] at hc
        obtain ⟨l, h1, rfl⟩ := hc
        exact sound_isnil (neg := false) hs M ho rfl hu hsn.2 h1 ha hact
      · simp only [Option.map_eq_some_iff] at hc
        obtain ⟨l, h1, rfl⟩ := hc
        exact sound_isnil (neg := true) hs M ho rfl hu hsn.2 h1 ha hact
      · cases hc
    split at hc
    · rename_i hsn
      simp only [Bool.and_eq_true] at hsn
      split at hc
      · simp only [Option.map_eq_some_iff] at hc
        obtain ⟨l, h1, rfl⟩ := hc
        exact sound_isnilI (neg := false) hs M ho rfl hsn.1 hsn.2 h1 ha hact
      · simp only [Option.map_eq_some_iff] at hc
        obtain ⟨l, h1, rfl⟩ := hc
        exact sound_isnilI (neg := true) hs M ho rfl hsn.1 hsn.2 h1 ha hact
      · cases hc
    simp only [compBin] at hc
    split at hc
    · obtain ⟨l, m, h1, h2, rfl⟩ := comp2_some hc
      exact sound_bin hs M ho h1 h2 ha hact
    · split at hc
      · split at hc
        · rename_i hb
          obtain ⟨l, m, h1, h2, rfl⟩ := comp2_some hc
          refine sound_eqb (neg := false) hs M ho rfl ?_ h1 h2 ha hact
          exact isBoolT_some hb
        · split at hc
          · rename_i ks hks
            obtain ⟨l, m, h1, h2, rfl⟩ := comp2_some hc
            exact sound_eqs (neg := false) hs M ho rfl hks h1 h2 ha hact
          · cases hc
      · split at hc
        · rename_i hb
          obtain ⟨l, m, h1, h2, rfl⟩ := comp2_some hc
          refine sound_eqb (neg := true) hs M ho rfl ?_ h1 h2 ha hact
          exact isBoolT_some hb
        · split at hc
          · rename_i ks hks
            obtain ⟨l, m, h1, h2, rfl⟩ := comp2_some hc
            exact sound_eqs (neg := true) hs M ho rfl hks h1 h2 ha hact
          · cases hc
      · cases hc
  | unOp op t x =>
    rw [ho] at hc
    simp only [compK] at hc
    split at hc
    · simp only [Option.map_eq_some_iff] at hc
      obtain ⟨l, h1, rfl⟩ := hc
      exact sound_un hs M ho h1 ha hact
    · simp only [Option.map_eq_some_iff] at hc
      obtain ⟨l, h1, rfl⟩ := hc
      exact sound_un hs M ho h1 ha hact
    · cases hc
  | convert src dst x =>
    rw [ho] at hc
    simp only [compK] at hc
    split at hc
    · rename_i e he
      simp only [Option.map_eq_some_iff] at hc
      obtain ⟨l, h1, rfl⟩ := hc
      exact sound_toBytes hs M ho he h1 ha hact
    split at hc
    · rename_i k' k h1 h2
      simp only [Option.map_eq_some_iff] at hc
      obtain ⟨l, h3, rfl⟩ := hc
      exact sound_conv hs M ho h1 h2 h3 ha hact
    · cases hc
  | field t x i =>
    rw [ho] at hc
    simp only [compK] at hc
    split at hc
    · rename_i off n ag l h1 h2
      injection hc with hc; subst hc
      exact sound_field hs M ho h1 h2 ha hact
    · cases hc
  | extract x i =>
    rw [ho] at hc
    simp only [compK, Option.map_eq_some_iff] at hc
    obtain ⟨l, h1, rfl⟩ := hc
    exact sound_extract hs M ho h1 ha hact
  | fieldAddr t x i =>
    rw [ho] at hc
    simp only [compK] at hc
    split at hc
    · rename_i off n ag l h1 h2
      split at hc
      · rename_i hn
        injection hc with hc; subst hc
        exact sound_fieldAddr hs M ho h1 hn h2 ha hact
      · cases hc
    · cases hc
  | indexAddr t x i =>
    rw [ho] at hc
    simp only [compK] at hc
    split at hc
    · rename_i n h1
      obtain ⟨l, m, h2, h3, rfl⟩ := comp2_some hc
      exact sound_idx hs M ho h1 h2 h3 ha hact
    · rename_i n0 n h1
      obtain ⟨l, m, h2, h3, rfl⟩ := comp2_some hc
      exact sound_idxA hs M ho h1 h2 h3 ha hact
    · cases hc
  | index t x i =>
    rw [ho] at hc
    simp only [compK] at hc
    split at hc
    · rename_i hb
      obtain ⟨l, m, h2, h3, rfl⟩ := comp2_some hc
      refine sound_sidx hs M ho ?_ h2 h3 ha hact
      exact isStrT_some hb
    · split at hc
      · rename_i n s ag hv
        obtain ⟨l, m, h2, h3, rfl⟩ := comp2_some hc
        exact sound_vidx hs M ho hv h2 h3 ha hact
      · cases hc
  | load t x =>
    rw [ho] at hc
    simp only [compK] at hc
    split at hc
    · rename_i h1 h2 h3
      injection hc with hc; subst hc
      exact sound_load hs M ho h1 h2 h3 ha hact
    · cases hc
  | store t x v =>
    rw [ho] at hc
    simp only [compK] at hc
    split at hc
    · rename_i h1 h2 h3
      injection hc with hc; subst hc
      exact sound_store hs M ho h1 h2 h3 ha hact
    · cases hc
  | alloc t =>
    rw [ho] at hc
    simp only [compK] at hc
    split at hc
    · rename_i n z h1 h2
      split at hc
      · injection hc with hc; subst hc
        exact sound_alloc M ho h2 ha hact
      · cases hc
    · cases hc
  | box t x =>
    rw [ho] at hc
    simp only [compK] at hc
    split at hc
    · rename_i h1 h2
      injection hc with hc; subst hc
      exact sound_box hs M ho h2 ha hact
    · cases hc
  | build t parts =>
    rw [ho] at hc
    simp only [compK] at hc
    split at hc
    · rename_i fs z h1 h2
      split at hc
      · rename_i h3
        simp only [Option.map_eq_some_iff] at hc
        obtain ⟨ls, h4, rfl⟩ := hc
        exact sound_build hs M ho h1 h2 h3 h4 ha hact
      · cases hc
    · rename_i n e z h1 h2
      split at hc
      · rename_i s h3
        simp only [Option.map_eq_some_iff] at hc
        obtain ⟨ls, h4, rfl⟩ := hc
        exact sound_buildA hs M ho h1 h2 h3 h4 ha hact
      · cases hc
    · cases hc
  | buildSlice t len parts =>
    rw [ho] at hc
    simp only [compK] at hc
    split at hc
    · rename_i e sz by_ z ps h1 h2
      split at hc
      · rename_i h3
        injection hc with hc; subst hc
        exact sound_mkSlice hs M ho h1 h2 h3 ha hact
      · cases hc
    · cases hc
  | makeSlice t l c =>
    rw [ho] at hc
    simp only [compK] at hc
    split at hc
    · rename_i hsame
      split at hc
      · rename_i e sz by_ z l' h1 h2
        injection hc with hc; subst hc
        refine sound_make hs M ho ?_ h1 h2 ha hact
        unfold sameX at hsame
        split at hsame
        · simp at hsame; rw [hsame]
        · simp at hsame; rw [hsame]
        · cases hsame
      · cases hc
    · cases hc
  | slice t x lo hi mx =>
    rw [ho] at hc
    cases mx with
    | some m => simp [compK] at hc
    | none =>
      simp only [compK] at hc
      split at hc
      · rename_i lx' l h h1 h2 h3
        split at hc
        · rename_i hu
          injection hc with hc; subst hc
          exact sound_sslice (ty := 0) rfl hs M ho hu h1 h2 h3 ha hact
        · rename_i e hu
          simp only [Option.map_eq_some_iff] at hc
          obtain ⟨n, h4, rfl⟩ := hc
          exact sound_slice hs M ho hu h4 h1 h2 h3 ha hact
        · cases hc
      · cases hc
  | nilCheck x =>
    rw [ho] at hc
    simp only [compK, Option.map_eq_some_iff] at hc
    obtain ⟨l, h1, rfl⟩ := hc
    exact sound_nilCheck hs M ho h1 ha hact
  | makeFunc fn first caps =>
    rw [ho] at hc
    cases fn <;> simp only [compK, reduceCtorEq] at hc
    split at hc
    · rename_i h1 h2
      injection hc with hc; subst hc
      exact sound_mkfn hs M ho h1 h2 ha hact
    · cases hc
  | call c =>
    rw [ho] at hc
    simp only [compK] at hc
    split at hc
    · rename_i f hcal
      split at hc
      · rename_i hb
        simp only [Option.map_eq_some_iff] at hc
        obtain ⟨ls, h1, rfl⟩ := hc
        exact sound_call hs M ho hcal hb h1 ha hact
      · cases hc
    · rename_i x _ hcal
      split at hc
      · rename_i h1 h2
        injection hc with hc; subst hc
        exact sound_callv hs M ho hcal h1 h2 ha hact
      · cases hc
    · rename_i b hcal
      unfold compBuiltin at hc
      split at hc
      · rename_i t x ht hx
        split at hc
        · rename_i hu
          simp only [Option.map_eq_some_iff] at hc
          obtain ⟨l, h1, rfl⟩ := hc
          exact sound_slen hs M ho hcal (array1 hx) (array1 ht) hu h1 ha hact
        · rename_i e hu
          simp only [Option.map_eq_some_iff] at hc
          obtain ⟨l, h1, rfl⟩ := hc
          exact sound_len hs M ho hcal (array1 hx) (array1 ht) e hu h1 ha hact
        · cases hc
      · rename_i t u s x ht hx
        split at hc
        · rename_i htu
          subst htu
          split at hc
          · rename_i e sz by_ z h1
            obtain ⟨l, m, h2, h3, rfl⟩ := comp2_some hc
            exact sound_append hs M ho hcal (array2 hx) (array2 ht) h1 h2 h3 ha hact
          · cases hc
        · cases hc
      · rename_i t u s x ht hx
        split at hc
        · rename_i htu
          subst htu
          split at hc
          · rename_i e sz by_ z h1
            obtain ⟨l, m, h2, h3, rfl⟩ := comp2_some hc
            exact sound_copy hs M ho hcal (array2 hx) (array2 ht) h1 h2 h3 ha hact
          · cases hc
        · cases hc
      · rename_i t x ht hx
        split at hc
        · rename_i e sz by_ z h1
          simp only [Option.map_eq_some_iff] at hc
          obtain ⟨l, h2, rfl⟩ := hc
          exact sound_clear hs M ho hcal (array1 hx) (array1 ht) h1 h2 ha hact
        · cases hc
      · rename_i x y hx
        obtain ⟨l, m, h2, h3, rfl⟩ := comp2_some hc
        exact sound_mx false hs M ho hcal (array2 hx) h2 h3 ha hact
      · rename_i x y hx
        obtain ⟨l, m, h2, h3, rfl⟩ := comp2_some hc
        exact sound_mx true hs M ho hcal (array2 hx) h2 h3 ha hact
      · cases hc
    · cases hc
  | _ => rw [ho] at hc; simp [compK] at hc
end
structure Fri where
  I0 : Nat → Prop
  fr : Nat → Option Obj
  gh : Nat → Value
instance : CoeFun Fri (fun _ => Nat → Prop) := ⟨Fri.I0⟩
theorem Later.frame {C C' : Ctx} (L : Later C C') {fr : Nat → Option Obj} (h : ∀ b o, fr b = some o → b < C.w.heap.size ∧ C.w.heap[b]? = some o ∧ PW.free C.mem C.hd b) :
    ∀ b o, fr b = some o → b < C'.w.heap.size ∧ C'.w.heap[b]? = some o ∧ PW.free C'.mem C'.hd b := fun b o e => by
  obtain ⟨h1, h2, h3⟩ := h b o e
  exact ⟨Nat.lt_of_lt_of_le h1 L.size, by rw [(L.free_ b h1 h3).2]; exact h2, (L.free_ b h1 h3).1⟩
structure Rep (w0 : Base) (I0 : Fri) (N : Nat) (st : St) (a : Act) (w : World) (hd : Nat → Value) : Prop where
  mem : MemInv w0 { w, mem := st.mem, hd, gen := st.gen, I0 := fun b => I0 b ∨ w0.w.heap.size ≤ b, gh := I0.gh }
  defers : a.defers = []
  size : a.tmps.size = N
  top : N ≤ gst
  slot : SlotsOk { w, mem := st.mem, hd, gen := st.gen, I0 := fun b => I0 b ∨ w0.w.heap.size ≤ b, gh := I0.gh } N st.slots a
  frame : ∀ b o, I0.fr b = some o → b < w.heap.size ∧ w.heap[b]? = some o ∧ free st.mem hd b
section
variable {P : Program} {o : Oper} {a : Act} {Q : Exit → Act → World → Prop} {w0 : Base} {w : World} {I0 : Fri}
variable {N : Nat} {st st' : St} {hd : Nat → Value} {Γ : List (Nat × Fact P)}
theorem getD_put {a : Act} {d t : Nat} {v : Value} (h : d < a.tmps.size) : (a.put (some d) v).tmps.getD t undef = if d = t then v else a.tmps.getD t undef := by
  simp only [Act.put, Array.getD_eq_getD_getElem?, Array.getElem?_setIfInBounds]
  by_cases hd : d = t
  · subst hd; simp [h]
  · simp [hd]
theorem Rep.put {d : Option Nat} {v : Value} {p : PV} {w' : World} {hd' : Nat → Value} {mem' : List (Nat × Ent)} (R : Rep w0 I0 N st a w hd) (hdn : ∀ x, d = some x → x < N)
    (M : MemInv w0 { w := w', mem := mem', hd := hd', gen := st.gen, I0 := fun b => I0 b ∨ w0.w.heap.size ≤ b, gh := I0.gh })
    (L : Later { w, mem := st.mem, hd, gen := st.gen, I0 := fun b => I0 b ∨ w0.w.heap.size ≤ b, gh := I0.gh } { w := w', mem := mem', hd := hd', gen := st.gen, I0 := fun b => I0 b ∨ w0.w.heap.size ≤ b, gh := I0.gh })
    (h : RV { w := w', mem := mem', hd := hd', gen := st.gen, I0 := fun b => I0 b ∨ w0.w.heap.size ≤ b, gh := I0.gh } v p) :
    Rep w0 I0 N { slots := PW.put st.slots d p, mem := mem', gen := st.gen } (a.put d v) w' hd' := by
  cases d with
  | none => exact ⟨M, R.defers, R.size, R.top, fun t q ht => ⟨(R.slot t q ht).1, L.rv (R.slot t q ht).2⟩, L.frame R.frame⟩
  | some d =>
    have hdl := hdn d rfl
    refine ⟨M, R.defers, by simpa [Act.put] using R.size, R.top, fun t q ht => ?_, L.frame R.frame⟩
    by_cases hdt : d = t
    · subst hdt
      rw [PW.put, look_same] at ht
      injection ht with ht; subst ht
      refine ⟨.inl hdl, ?_⟩
      rw [slotV_lt (Nat.lt_of_lt_of_le hdl R.top), getD_put (by rw [R.size]; exact hdl), if_pos rfl]
      exact h
    · rw [PW.put, look_ne _ _ hdt] at ht
      refine ⟨(R.slot t q ht).1, ?_⟩
      have h2 := L.rv (R.slot t q ht).2
      unfold slotV at h2 ⊢
      rw [getD_put (by rw [R.size]; exact hdl), if_neg hdt]
      exact h2
theorem op_soundB {k lo : LOp} (hk : k = (compK P o.op).getD .bad) (hlo : lo = k) {slots : List (Nat × PV)} {C : Ctx} {xs : List PV} {r : PV} {up : List (Nat × Ent)} (hs : SlotsOk C N slots a) (M : MemInv w0 C) (ha : lxs slots lo.args = some xs)
    (hact : lo.act Γ o.dst C.gen xs (look C.mem) = some (r, up)) : Goal P o a Q w0 C r up := by
  subst hlo
  cases h : compK P o.op with
  | none => rw [h] at hk; subst hk; simp [LOp.act] at hact
  | some k' => rw [h] at hk; subst hk; exact op_sound h hs M ha hact
theorem step_sound {ops : Array Oper} {lo : LOper} (R : Rep w0 I0 N st a w hd) (hc : compOper P N ops.toList o = some lo) (hstep : step Γ lo st = some st') {K : Act → World → Prop}
    (hK : ∀ a' w' hd', Rep w0 I0 N st' a' w' hd' → K a' w') :
    if Region.wanted o (yielded ops a.tmps) then o.wp P a w K Q ∨ (o.asks P a w ∧ LetsOut Q) else K (a.put o.dst undef) w := by
  unfold compOper at hc
  split at hc
  case h_2 => cases hc
  rename_i g hg
  obtain ⟨k, hk⟩ : ∃ k, k = (compK P o.op).getD .bad := ⟨_, rfl⟩
  rw [← hk] at hc
  -- the slots
  have hdst : lo.dst = o.dst ∧ lo.guard = g ∧ lo.op = k ∧ ∀ x, o.dst = some x → x < N := by
    split at hc
    · rename_i d hd
      split at hc
      · rename_i hlt
        injection hc with hc; subst hc
        exact ⟨hd.symm, rfl, rfl, fun x hx => by rw [hd] at hx; injection hx with hx; subst hx; exact hlt⟩
      · cases hc
    · rename_i hd
      injection hc with hc; subst hc
      exact ⟨hd.symm, rfl, rfl, fun x hx => by rw [hd] at hx; cases hx⟩
  obtain ⟨e1, e2, e3, hdn⟩ := hdst
  -- the operation itself
  have go : ∀ s, (match lxs st.slots lo.op.args with
      | none => none
      | some xs => (lo.op.act Γ lo.dst st.gen xs (look st.mem)).map fun r => { st with slots := PW.put st.slots lo.dst r.1, mem := r.2 ++ st.mem }) = some s →
      (∀ a' w' hd', Rep w0 I0 N s a' w' hd' → K a' w') → o.wp P a w K Q := by
    intro s hgo hK
    split at hgo
    · cases hgo
    · rename_i xs hxs
      simp only [Option.map_eq_some_iff] at hgo
      obtain ⟨⟨r, up⟩, hact, rfl⟩ := hgo
      rw [e1, e3] at hact
      rw [e3] at hxs
      refine op_soundB (Γ := Γ) hk rfl R.slot R.mem hxs hact K fun v w' hd' M L h => ?_
      refine hK _ w' hd' ?_
      rw [e1]
      exact R.put hdn M L h
  have skip : (∀ a' w' hd', Rep w0 I0 N { st with slots := PW.put st.slots lo.dst (.tup []) } a' w' hd' → K a' w') → K (a.put o.dst undef) w := by
    intro hK
    refine hK _ w hd ?_
    rw [e1]
    exact R.put hdn R.mem (Later.refl _) (.data _ _ (.tup #[] [] rfl (by simp)))
  unfold step at hstep
  unfold compGuard at hg
  split at hg
  · rename_i hgd
    injection hg with hg; subst hg
    have hw : Region.wanted o (yielded ops a.tmps) = true := by simp [Region.wanted, hgd]
    rw [if_pos hw]
    rw [e2] at hstep
    exact .inl (go _ hstep hK)
  · rename_i j b hgd
    split at hg
    case h_2 => cases hg
    rename_i oj hoj
    split at hg
    case h_2 => cases hg
    rename_i d hdj
    split at hg
    case isFalse => cases hg
    rename_i hdg
    injection hg with hg; subst hg
    rw [e2] at hstep
    simp only at hstep
    have hy : ∀ v, a.tmps.getD d undef = v → d < N → yielded ops a.tmps j = match v with | .bool b => some b | _ => none := by
      intro v hv hlt
      have h1 : ops[j]? = some oj := by simpa using hoj
      have h2 : a.tmps[d]? = some v := by
        rw [← hv]
        have : d < a.tmps.size := by rw [R.size]; exact hlt
        simp [this]
      simp [yielded, h1, hdj, h2]
      cases v <;> rfl
    split at hstep
    · rename_i c hc'
      obtain ⟨hlt, hrv⟩ := R.slot.real hc' hdg
      have hyc := hy _ hrv.bool_inv hlt
      simp only at hyc
      by_cases hcb : c = b
      · have hw : Region.wanted o (yielded ops a.tmps) = true := by simp [Region.wanted, hgd, hyc, hcb]
        rw [if_pos hw]
        rw [if_pos hcb] at hstep
        exact .inl (go _ hstep hK)
      · have hw : Region.wanted o (yielded ops a.tmps) = false := by simp [Region.wanted, hgd, hyc, hcb]
        rw [if_neg (by simp [hw])]
        rw [if_neg hcb] at hstep
        injection hstep with hstep; subst hstep
        exact skip hK
    · rename_i hc'
      obtain ⟨hlt, hrv⟩ := R.slot.real hc' hdg
      obtain ⟨vs, hv, _⟩ := hrv.tup_inv
      have hyc := hy _ hv hlt
      simp only at hyc
      have hw : Region.wanted o (yielded ops a.tmps) = false := by simp [Region.wanted, hgd, hyc]
      rw [if_neg (by simp [hw])]
      injection hstep with hstep; subst hstep
      exact skip hK
    · cases hstep
end
end Go.PW
