/-
 PwSound8: append.
-/
import Derived.Test.YtlkknmhhefjmjaaGreatDoorPwSound7
namespace Go.PW
open Go.RowKit
section
variable {P : Program} (w : World)
theorem run_append_of_nil (base : Nat) (t ty e : TypeId) (i : TypeInfo) (size : Nat) (ht : P.underlying t = some (.slice e)) (hi : P.info? e = some i)
  (v : Value) (n : Nat) (xs : List Value) (hown : w.ownsRow base e size v n xs) (c : Nat) : (Builtin.append_ #[t, t] ty #[v, .slice none 0 c]).run P w = .ok v w := by
 rcases hown.2 with ⟨rfl, rfl⟩ | ⟨g, cap, cur, rfl, _, _, hnc, _⟩
 ·simp [Builtin.append_, run_underlying ht, sizeOf, typeInfo, hi, Builtin.lenOf, Builtin.firstCells]
 ·simp [Builtin.append_, run_underlying ht, sizeOf, typeInfo, hi, Builtin.lenOf, Builtin.firstCells, hnc, storeCells]
theorem run_append_src (base : Nat) (t ty e : TypeId) (i : TypeInfo) (z : Value) (size bytes : Nat) (ht : P.underlying t = some (.slice e)) (hi : P.info? e = some i) (hz : i.zero = some z)
  (hsize : i.size = size) (hby : i.bytes = bytes) (hzs : z.cells.size = size) (hsz : 0 < size)
  (v : Value) (n : Nat) (xs : List Value) (hown : w.ownsRow base e size v n xs)
  (A : Option Addr) (m c : Nat) (news : List Value) (hl : news.length = m * size) (hr : 0 < m → ∃ ad, A = some ad ∧ ∀ j u, news[j]? = some u → w.cell? (ad.add j) = some u) (h1 : ∀ u ∈ news, u.oneCell' = true)
  (h63 : n + m ≤ maxLen) (hbytes : (n + m) * bytes ≤ 140737488355328) (hbase : base ≤ w.heap.size) :
  ∃ v' w', (Builtin.append_ #[t, t] ty #[v, .slice A m c]).run P w = .ok v' w' ∧ w'.ownsRow base e size v' (n + m) (xs ++ news) ∧ w.grownBy w' v.ownBlock ∧
   (v'.ownBlock = v.ownBlock ∨ v'.ownBlock = some w.heap.size) := by
 rcases A with _ | ad
 ·have hm : m = 0 := by
   rcases Nat.eq_zero_or_pos m with h0 | h0
   ·exact h0
   ·obtain ⟨ad, h, _⟩ := hr h0
    cases h
  subst hm
  have hn : news = [] := List.eq_nil_of_length_eq_zero (by simpa using hl)
  subst hn
  exact ⟨v, w, run_append_of_nil w base t ty e i size ht hi v n xs hown c, by simpa using hown, ⟨rfl, rfl, rfl, Nat.le_refl _, fun _ _ _ => rfl⟩, .inl rfl⟩
 ·have hcells : ∀ j u, news[j]? = some u → w.cell? (ad.add j) = some u := by
   intro j u hu
   rcases Nat.eq_zero_or_pos m with h0 | h0
   ·subst h0
    have hn : news = [] := List.eq_nil_of_length_eq_zero (by simpa using hl)
    subst hn
    simp at hu
   ·obtain ⟨ad', h, hc⟩ := hr h0
    injection h with h
    subst h
    exact hc j u hu
  obtain ⟨v', w', hrun, h2, h3, _, h5⟩ := run_append_own_at (P := P) w base t ty e i z size bytes ht hi hz hsize hby hzs hsz v n xs hown ad m c news hl hcells h1 h63 hbytes hbase
  exact ⟨v', w', hrun, h2, h3, h5⟩
end
section
variable {P : Program} {o : Oper} {a : Act} {Q : Exit → Act → World → Prop} {w0 : Base} {C : Ctx}
variable {N : Nat} {slots : List (Nat × PV)} {Γ : List (Nat × Fact P)} {xs : List PV} {r : PV} {up : List (Nat × Ent)}
theorem div_mod_ix {sz i j : Nat} (hj : j < sz) : (i * sz + j) / sz = i ∧ (i * sz + j) % sz = j := by
 constructor
 ·rw [Nat.mul_comm, Nat.mul_add_div (by omega), Nat.div_eq_of_lt hj]; omega
 ·rw [Nat.mul_comm, Nat.mul_add_mod]; exact Nat.mod_eq_of_lt hj
theorem src_news {v : Value} {x : PV} {sz : Nat} {news : List (List PV)} (M : MemInv w0 C) (hv : RV C v x) (hs : srcRows (look C.mem) sz x = some (sz, news)) (h0 : 0 < sz) :
  ∃ (A : Option Addr) (c : Nat) (us : List Value), v = .slice A news.length c ∧ us.length = news.length * sz ∧
   (0 < news.length → ∃ ad, A = some ad ∧ ∀ j u, us[j]? = some u → C.w.cell? (ad.add j) = some u) ∧ (∀ u ∈ us, u.oneCell' = true) ∧ news.length ≤ big ∧
   ∀ (i : Nat) (cs : List PV), news[i]? = some cs → cs.length = sz ∧ (∀ p ∈ cs, p.one = true) ∧
    ∀ (j : Nat) (p : PV), cs[j]? = some p → ∃ u, us[i * sz + j]? = some u ∧ RV C u p ∧ (srcData (look C.mem) x = true → DV C.w (imm C.mem C.hd C.I0) u p) := by
 have small : ∀ (es : List (List PV)) (us : List Value), us.length = es.length * sz → (∀ (i : Nat) (cs : List PV), es[i]? = some cs → cs.length = sz ∧ (∀ p ∈ cs, p.one = true) ∧
    ∀ (j : Nat) (p : PV), cs[j]? = some p → ∃ u, us[i * sz + j]? = some u ∧ RV C u p) → ∀ u ∈ us, u.oneCell' = true := by
  intro es us hl hc u hu
  obtain ⟨k, hk⟩ := List.getElem?_of_mem hu
  have hkl := (List.getElem?_eq_some_iff.1 hk).1
  have hi : k / sz < es.length := Nat.div_lt_of_lt_mul (by rw [Nat.mul_comm]; omega)
  obtain ⟨c1, c2, c3⟩ := hc (k / sz) _ (List.getElem?_eq_getElem hi)
  have hj : k % sz < (es[k / sz]).length := by rw [c1]; exact Nat.mod_lt _ h0
  obtain ⟨u', h1, h2⟩ := c3 (k % sz) _ (List.getElem?_eq_getElem hj)
  have : k / sz * sz + k % sz = k := by rw [Nat.mul_comm]; exact Nat.div_add_mod k sz
  rw [this, hk] at h1
  injection h1 with h1; subst h1
  exact h2.oneCell (c2 _ (List.getElem_mem hj))
 cases x <;> (try simp only [srcRows, asList, reduceCtorEq, Option.some.injEq, Prod.mk.injEq, true_and, Option.map_eq_some_iff] at hs)
 ·subst hs
  refine ⟨none, 0, [], hv.nils_inv, by simp, by simp, by simp, by simp, by simp⟩
 ·obtain ⟨rfl, rfl⟩ := hs
  rename_i sz es
  have hd := hv.list_inv
  cases hd with
  | list0 A c _ _ => exact ⟨A, c, [], rfl, by simp, by simp, by simp, by simp, by simp⟩
  | list ad c _ _ f hc hb hI hlt hsz' hcell hval =>
   have hget : ∀ (i j : Nat) (cs : List PV), es[i]? = some cs → j < sz → ((List.range (es.length * sz)).map fun k => f (k / sz) (k % sz))[i * sz + j]? = some (f i j) := by
    intro i j cs hi hj
    have hil := (List.getElem?_eq_some_iff.1 hi).1
    have hb := index_lt (j := j + 1) hil (show j + 1 ≤ sz by omega)
    obtain ⟨d1, d2⟩ := div_mod_ix (i := i) hj
    rw [List.getElem?_map, List.getElem?_range (by omega)]
    simp [d1, d2]
   have hrows : ∀ (i : Nat) (cs : List PV), es[i]? = some cs → cs.length = sz ∧ (∀ p ∈ cs, p.one = true) ∧
     ∀ (j : Nat) (p : PV), cs[j]? = some p → ∃ u, ((List.range (es.length * sz)).map fun k => f (k / sz) (k % sz))[i * sz + j]? = some u ∧ RV C u p ∧ DV C.w (imm C.mem C.hd C.I0) u p := by
    intro i cs hi
    refine ⟨(hsz' i cs hi).1, (hsz' i cs hi).2, fun j p hj => ?_⟩
    have hjl := (List.getElem?_eq_some_iff.1 hj).1
    have := hval i cs j p hi hj
    exact ⟨f i j, hget i j cs hi (by rw [(hsz' i cs hi).1] at hjl; exact hjl), .data _ _ this, this⟩
   refine ⟨some ad, c, (List.range (es.length * sz)).map fun k => f (k / sz) (k % sz), rfl, by simp, fun _ => ⟨ad, rfl, fun k u hk => ?_⟩,
    small es _ (by simp) (fun i cs hi => ⟨(hrows i cs hi).1, (hrows i cs hi).2.1, fun j p hj => by obtain ⟨u, a1, a2, _⟩ := (hrows i cs hi).2.2 j p hj; exact ⟨u, a1, a2⟩⟩), hb,
    fun i cs hi => ⟨(hrows i cs hi).1, (hrows i cs hi).2.1, fun j p hj => by obtain ⟨u, a1, a2, a3⟩ := (hrows i cs hi).2.2 j p hj; exact ⟨u, a1, a2, fun _ => a3⟩⟩⟩
   have hkl := (List.getElem?_eq_some_iff.1 hk).1
   simp only [List.length_map, List.length_range] at hkl
   have hi : k / sz < es.length := Nat.div_lt_of_lt_mul (by rw [Nat.mul_comm]; omega)
   have hj : k % sz < (es[k / sz]).length := by rw [(hsz' _ _ (List.getElem?_eq_getElem hi)).1]; exact Nat.mod_lt _ h0
   have := hcell (k / sz) _ (k % sz) _ (List.getElem?_eq_getElem hi) (List.getElem?_eq_getElem hj)
   have hdm : k / sz * sz + k % sz = k := by rw [Nat.mul_comm]; exact Nat.div_add_mod k sz
   rw [hdm] at this
   rw [List.getElem?_map, List.getElem?_range hkl] at hk
   simp at hk
   rw [this, hk]
 ·rename_i nm ver
  obtain ⟨e, he, rfl, rfl⟩ := hs
  have hh := hv.own_inv.2.2 e he
  obtain ⟨ys, ho, hb, hc⟩ := M.rows nm ver e he
  have hd : srcData (look C.mem) (.own nm ver) = e.data := by simp [srcData, he]
  have hone := small e.es ys ho.1 fun i cs hi => ⟨(hc i cs hi).1, (hc i cs hi).2.1, fun j p hj => by obtain ⟨u, a1, a2, _⟩ := (hc i cs hi).2.2 j p hj; exact ⟨u, a1, a2⟩⟩
  rw [hd]
  rcases ho.2 with ⟨h1, h2⟩ | ⟨g, cap, cur, h1, _⟩
  ·exact ⟨none, 0, ys, by rw [hh, h1, h2], ho.1, fun h => by omega, hone, hb, hc⟩
  ·exact ⟨_, cap, ys, hh.trans h1, ho.1, fun _ => ⟨_, rfl, ho.cells (g := g) (by rw [h1]; rfl)⟩, hone, hb, hc⟩
 ·rename_i nm ver lo hi
  obtain ⟨e, he, rfl, rfl⟩ := hs
  have hh := hv.sub_inv.2.2 e he
  obtain ⟨ys, ho, hb, hc⟩ := M.rows nm ver e he
  obtain ⟨ad, c, hrow, hcap⟩ := row_len M he
  simp only [subHdr, hrow] at hh
  obtain ⟨b1, b2, hh⟩ := hh
  have hd : srcData (look C.mem) (.sub nm ver lo hi) = e.data := by simp [srcData, he]
  have hlen : ((e.es.take hi).drop lo).length = hi - lo := by simp; omega
  have hget : ∀ (i : Nat) (cs : List PV), ((e.es.take hi).drop lo)[i]? = some cs → e.es[lo + i]? = some cs ∧ lo + i < hi := by
   intro i cs h
   rw [List.getElem?_drop, List.getElem?_take] at h
   split at h
   ·rename_i hx; exact ⟨h, hx⟩
   ·cases h
  have hyl := ho.1
  have hle : hi * e.sz ≤ e.es.length * e.sz := Nat.mul_le_mul_right _ b2
  have hle2 : lo * e.sz ≤ hi * e.sz := Nat.mul_le_mul_right _ b1
  have hul : ((ys.take (hi * e.sz)).drop (lo * e.sz)).length = (hi - lo) * e.sz := by
   rw [List.length_drop, List.length_take, Nat.sub_mul]; omega
  have hug : ∀ k, k < (hi - lo) * e.sz → ((ys.take (hi * e.sz)).drop (lo * e.sz))[k]? = ys[lo * e.sz + k]? := by
   intro k hk
   rw [Nat.sub_mul] at hk
   rw [List.getElem?_drop, List.getElem?_take, if_pos (by omega)]
  have hrows : ∀ (i : Nat) (cs : List PV), ((e.es.take hi).drop lo)[i]? = some cs → cs.length = e.sz ∧ (∀ p ∈ cs, p.one = true) ∧
    ∀ (j : Nat) (p : PV), cs[j]? = some p → ∃ u, ((ys.take (hi * e.sz)).drop (lo * e.sz))[i * e.sz + j]? = some u ∧ RV C u p ∧ (e.data = true → DV C.w (imm C.mem C.hd C.I0) u p) := by
   intro i cs h
   obtain ⟨g1, g2⟩ := hget i cs h
   obtain ⟨c1, c2, c3⟩ := hc _ cs g1
   refine ⟨c1, c2, fun j p hj => ?_⟩
   obtain ⟨u, a1, a2, a3⟩ := c3 j p hj
   have hjl := (List.getElem?_eq_some_iff.1 hj).1
   have hb := index_lt (i := i) (n := hi - lo) (j := j + 1) (by omega) (show j + 1 ≤ e.sz by omega)
   refine ⟨u, ?_, a2, a3⟩
   rw [hug _ (by omega), ← a1]
   congr 1
   rw [Nat.add_mul]; omega
  have hone := small ((e.es.take hi).drop lo) _ (by rw [hul, hlen]) fun i cs hi => ⟨(hrows i cs hi).1, (hrows i cs hi).2.1, fun j p hj => by obtain ⟨u, a1, a2, _⟩ := (hrows i cs hi).2.2 j p hj; exact ⟨u, a1, a2⟩⟩
  rw [hd]
  refine ⟨_, _, (ys.take (hi * e.sz)).drop (lo * e.sz), by rw [hlen]; exact hh, by rw [hlen]; exact hul, fun h => ?_, hone, by rw [hlen]; omega, hrows⟩
  rw [hlen] at h
  obtain ⟨g, cap, hg, _⟩ := row_hdr M he (by omega)
  rw [hg] at hrow
  injection hrow with r1 r2 r3
  rw [if_neg (by omega), ← r1]
  refine ⟨_, rfl, fun k u hk => ?_⟩
  have hkl := (List.getElem?_eq_some_iff.1 hk).1
  rw [hug k (by omega)] at hk
  rw [add_add]
  exact ho.cells (g := g) (by rw [hg]; rfl) _ u hk
theorem sound_append {t e : TypeId} {sz by_ : Nat} {z : List PV} {s x : Operand} {l m : LX} {c : Call} (hs : SlotsOk C N slots a) (M : MemInv w0 C) (ho : o.op = .call c) (hc : c.callee = .builtin .append) (hca : c.args = #[s, x]) (hct : c.argTypes = #[t, t])
  (hr : compRow P t = some (e, sz, by_, z)) (hsx : compX s = some l) (hx : compX x = some m) (ha : lxs slots [l, m] = some xs) (hact : (LOp.append e sz by_ l m).act Γ o.dst C.gen xs (look C.mem) = some (r, up)) : Goal P o a Q w0 C r up := by
 obtain ⟨p, q, rfl, hp, hq⟩ := lxs_2 ha
 have h1 := x_sound hs hsx hp
 have h2 := x_sound hs hx hq
 obtain ⟨i, zv, hu, hi, hz, hzs, hpos, hsz, hby, hb0, hzc⟩ := compRow_some hr
 simp only [LOp.act] at hact
 split at hact
 case h_1 => cases hact
 rename_i d hd
 split at hact
 case h_1 => cases hact
 rename_i sz2 news hsrc
 split at hact
 case isFalse => cases hact
 case isTrue hcond =>
 obtain ⟨rfl, hf⟩ := hcond
 obtain ⟨A, c', us, e2, hul, hadr, hone, hbig, hrows⟩ := src_news M h2 hsrc hpos
 have hexec : ∀ v v' w', a.eval s = v → (Builtin.append_ #[t, t] o.type #[v, .slice A news.length c']).run P C.w = .ok v' w' → (execOp a.eval o).run P C.w = .ok (.value v') w' := by
  intro v v' w' hv hrun
  simp only [execOp, ho, resolve, hc, hca, hct, invoke, builtin, Sem.run_bind, Sem.run_pure, Result.andThen_ok, List.map_toArray, List.map_cons, List.map_nil, hv, e2, hrun]
 split at hact
 · -- onto nil
  split at hact
  case isFalse => cases hact
  case isTrue hbytes =>
  simp only [Option.some.injEq, Prod.mk.injEq] at hact
  obtain ⟨rfl, rfl⟩ := hact
  have hle : news.length ≤ news.length * by_ := Nat.le_mul_of_pos_right _ hb0
  obtain ⟨v', w', hrun, hown, hg, hat⟩ := run_append_src (P := P) C.w w0.B t o.type e i zv _ by_ hu hi hz hsz hby hzs hpos (.slice none 0 0) 0 [] (World.ownsRow_nil C.w _ e _) A news.length c' us hul hadr hone
   (by unfold maxLen; unfold big at hbytes; omega) (by unfold big at hbytes; simpa using hbytes) (Nat.le_trans w0.hB M.below.size)
  simp only [Nat.zero_add, List.nil_append] at hown
  have hbel : Below C.w.heap.size C.w w' := (Below.refl _ _).grown hg (Nat.le_refl _) (by simp [Value.ownBlock])
  have hN := M.new_row (d := d) (ent := { ver := C.gen, elem := e, sz := _, es := news, data := srcData (look C.mem) q, new := true, dead := false }) hf rfl rfl hbel hown (by omega)
   (fun b hb => by
    rcases hat with h | h
    ·rw [h] at hb; simp [Value.ownBlock] at hb
    ·rw [h] at hb; injection hb with hb; omega)
   (fun i cs hi => ⟨(hrows i cs hi).1, (hrows i cs hi).2.1, fun j p hj => by obtain ⟨u, a1, a2, a3⟩ := (hrows i cs hi).2.2 j p hj; exact ⟨u, a1, .inl ⟨a2, a3⟩⟩⟩)
  intro K hK
  unfold Oper.wp
  rw [hexec _ _ _ h1.nils_inv hrun]
  refine hK _ _ _ hN.1 hN.2 (.own d C.gen _ ?_ (.inr ⟨rfl, _, look_same _ _ _, rfl⟩) fun e he => ?_)
  ·rcases hown.2 with ⟨h, _⟩ | ⟨g, cap, cur, h, _⟩ <;> rw [h] <;> rfl
  ·show _ = upd C.hd d _ d
   rw [upd_same]
 ·rename_i nm ver
  split at hact
  case h_2 => cases hact
  rename_i e' he
  split at hact
  case isFalse => cases hact
  case isTrue hcond =>
  obtain ⟨hel, hsz', hbytes⟩ := hcond
  simp only [Option.some.injEq, Prod.mk.injEq] at hact
  obtain ⟨rfl, rfl⟩ := hact
  obtain ⟨ys, hoy, hby', hcy⟩ := M.rows nm ver e' he
  have hv := h1.own_inv.2.2 e' he
  have hle : e'.es.length + news.length ≤ (e'.es.length + news.length) * by_ := Nat.le_mul_of_pos_right _ hb0
  rw [hel, hsz'] at hoy
  obtain ⟨v', w', hrun, hown, hg, hat⟩ := run_append_src (P := P) C.w w0.B t o.type e i zv _ by_ hu hi hz hsz hby hzs hpos (C.hd nm) _ ys hoy A news.length c' us hul hadr hone
   (by unfold maxLen; unfold big at hbytes; omega) (by unfold big at hbytes; exact hbytes) (Nat.le_trans w0.hB M.below.size)
  have hlen : (e'.es ++ news).length = e'.es.length + news.length := List.length_append
  have hN := M.append_row (nm := nm) (ver := ver) (d := d) (e := e') (ent := { ver := C.gen, elem := e, sz := _, es := e'.es ++ news, data := e'.data && srcData (look C.mem) q, new := true, dead := false }) (hdr := v') (xs := ys ++ us) he hf rfl rfl hg
   (by rw [hlen]; exact hown) (by rw [hlen]; omega) hat (fun i cs hi => by
    dsimp only at hi ⊢
    by_cases hlt : i < e'.es.length
    ·rw [List.getElem?_append_left hlt] at hi
     obtain ⟨c1, c2, c3⟩ := hcy i cs hi
     rw [hsz'] at c1 c3
     refine ⟨c1, c2, fun j p hj => ?_⟩
     obtain ⟨u, a1, a2, a3⟩ := c3 j p hj
     have := (List.getElem?_eq_some_iff.1 a1).1
     exact ⟨u, by rw [List.getElem?_append_left this]; exact a1, a2, fun hd => a3 (by simp at hd; exact hd.1)⟩
    ·rw [List.getElem?_append_right (by omega)] at hi
     obtain ⟨c1, c2, c3⟩ := hrows _ cs hi
     refine ⟨c1, c2, fun j p hj => ?_⟩
     obtain ⟨u, a1, a2, a3⟩ := c3 j p hj
     refine ⟨u, ?_, a2, fun hd => a3 (by simp at hd; exact hd.2)⟩
     have hmul : e'.es.length * sz2 ≤ i * sz2 := Nat.mul_le_mul_right _ (by omega)
     rw [List.getElem?_append_right (by rw [hoy.1]; omega), hoy.1, ← a1]
     congr 1
     rw [Nat.sub_mul]; omega)
  intro K hK
  unfold Oper.wp
  rw [hexec _ _ _ hv hrun]
  refine hK _ _ _ hN.1 hN.2 (.own d C.gen _ ?_ (.inr ⟨rfl, _, look_same _ _ _, rfl⟩) fun e he => ?_)
  ·rcases hown.2 with ⟨h, _⟩ | ⟨g, cap, cur, h, _⟩ <;> rw [h] <;> rfl
  ·show _ = upd C.hd d _ d
   rw [upd_same]
 ·cases hact
end
end Go.PW
