/-
  PwSound6: struct values, literal slices, function values, make.
-/
import Derived.Test.YtjmmlddioeehbaaGreatDoorPwSound5
namespace Go.PW
open Go.RowKit
theorem set_all (off : Nat) : ∀ (vl : List Value) (j0 : Nat) (cells : Array Value) (k : Nat),
    ((vl.zipIdx j0).foldl (fun cs x => cs.setIfInBounds (off + x.2) x.1) cells)[k]? = if off + j0 ≤ k ∧ k < off + j0 + vl.length ∧ k < cells.size then vl[k - (off + j0)]? else cells[k]?
  | [], j0, cells, k => by
    have : ¬ (off + j0 ≤ k ∧ k < off + j0 + ([] : List Value).length ∧ k < cells.size) := by simp; omega
    rw [if_neg this]; rfl
  | v :: vl, j0, cells, k => by
    rw [List.zipIdx_cons, List.foldl_cons, set_all off vl (j0 + 1)]
    simp only [Array.size_setIfInBounds, List.length_cons]
    by_cases h1 : k = off + j0
    · subst h1
      rw [if_neg (by omega)]
      by_cases h2 : off + j0 < cells.size
      · rw [if_pos ⟨Nat.le_refl _, by omega, h2⟩]
        simp [h2]
      · rw [if_neg (by omega)]
        rw [Array.getElem?_eq_none (by simp; omega), Array.getElem?_eq_none (by omega)]
    · by_cases h2 : off + (j0 + 1) ≤ k ∧ k < off + (j0 + 1) + vl.length ∧ k < cells.size
      · rw [if_pos h2, if_pos (by omega)]
        rw [show k - (off + j0) = (k - (off + (j0 + 1))) + 1 by omega, List.getElem?_cons_succ]
      · rw [if_neg h2, if_neg (by omega), Array.getElem?_setIfInBounds_ne (by omega)]
theorem set_all_size (off : Nat) : ∀ (vl : List Value) (j0 : Nat) (cells : Array Value), ((vl.zipIdx j0).foldl (fun cs x => cs.setIfInBounds (off + x.2) x.1) cells).size = cells.size
  | [], _, _ => rfl
  | v :: vl, j0, cells => by rw [List.zipIdx_cons, List.foldl_cons, set_all_size off vl (j0 + 1)]; simp
theorem fill_cons {place : Nat → Option (Nat × Nat)} {cells : Array Value} {i off n : Nat} {v : Value} {vl : List Value} {rest : List (Nat × Value)} (hp : place i = some (off, n)) (hv : v.cells = vl.toArray) (hn : vl.length = n) (hfit : off + n ≤ cells.size) :
    Instr.fill place cells ((i, v) :: rest) = Instr.fill place ((vl.zipIdx 0).foldl (fun cs x => cs.setIfInBounds (off + x.2) x.1) cells) rest := by
  have hc : ¬ ((decide (vl.toArray.size ≠ n) || decide (off + vl.toArray.size > cells.size)) = true) := by simp; omega
  rw [Instr.fill]
  simp only [hp, hv]
  rw [if_neg (by simpa using hc)]
  congr 1
  rw [← Array.foldl_toList]
  simp
section
variable {P : Program} {o : Oper} {a : Act} {Q : Exit → Act → World → Prop} {w0 : Base} {C : Ctx}
variable {N : Nat} {slots : List (Nat × PV)} {Γ : List (Nat × Fact P)} {xs : List PV} {r : PV} {up : List (Nat × Ent)}
def Pw (C : Ctx) (cells : Array Value) (cs : List PV) : Prop :=
  cells.size = cs.length ∧ (∀ p ∈ cs, p.one = true) ∧ ∀ (j : Nat) (v : Value) (p : PV), cells[j]? = some v → cs[j]? = some p → RV C v p
theorem val_ok {p : PV} (h : p.val = true) : ∀ q ∈ p.cells, q.one = true := by
  cases p <;> simp_all [PV.val, PV.cells]
theorem Pw.put {cells : Array Value} {cs : List PV} {off : Nat} {p : PV} {vl : List Value} (h : Pw C cells cs) (hfit : off + p.cells.length ≤ cs.length) (hone : ∀ q ∈ p.cells, q.one = true) (hl : vl.length = p.cells.length)
    (hv : ∀ (j : Nat) (u : Value) (q : PV), vl[j]? = some u → p.cells[j]? = some q → RV C u q) :
    Pw C ((vl.zipIdx 0).foldl (fun cs x => cs.setIfInBounds (off + x.2) x.1) cells) (splice cs off p.cells) := by
  obtain ⟨h1, h2, h3⟩ := h
  refine ⟨by rw [set_all_size, splice_length _ _ _ hfit, h1], fun q hq => ?_, fun j v q hj hq => ?_⟩
  · unfold splice at hq
    rcases List.mem_append.1 hq with hq | hq
    · rcases List.mem_append.1 hq with hq | hq
      · exact h2 q (List.mem_of_mem_take hq)
      · exact hone q hq
    · exact h2 q (List.mem_of_mem_drop hq)
  · rw [set_all] at hj
    rw [splice_get _ _ _ _ hfit] at hq
    by_cases hin : off + 0 ≤ j ∧ j < off + 0 + vl.length ∧ j < cells.size
    · rw [if_pos hin] at hj
      rw [if_neg (by omega), if_pos (by omega)] at hq
      exact hv _ v q hj (by simpa using hq)
    · rw [if_neg hin] at hj
      by_cases h4 : j < off
      · rw [if_pos h4] at hq; exact h3 j v q hj hq
      · have hjs : j < cells.size := (Array.getElem?_eq_some_iff.1 hj).1
        rw [if_neg h4, if_neg (by omega)] at hq; exact h3 j v q hj hq
theorem fill_sound {place : Nat → Option (Nat × Nat)} : ∀ (ps : List (Nat × Value)) (ls : List (Nat × Nat × PV)) (cells : Array Value) (cs cs' : List PV), ps.length = ls.length →
    (∀ (k : Nat) (i : Nat) (v : Value) (off n : Nat) (p : PV), ps[k]? = some (i, v) → ls[k]? = some (off, n, p) → place i = some (off, n) ∧ RV C v p) →
    Pw C cells cs → fillCells cs ls = some cs' → ∃ cells', Instr.fill place cells ps = some cells' ∧ Pw C cells' cs'
  | [], ls, cells, cs, cs', hl, _, hp, hf => by
    cases ls with
    | nil => simp [fillCells] at hf; subst hf; exact ⟨cells, rfl, hp⟩
    | cons => simp at hl
  | (i, v) :: ps, ls, cells, cs, cs', hl, hrel, hp, hf => by
    cases ls with
    | nil => simp at hl
    | cons x ls =>
      obtain ⟨off, n, p⟩ := x
      unfold fillCells at hf
      split at hf
      case isFalse => cases hf
      case isTrue hc =>
      obtain ⟨c1, c2, c3⟩ := hc
      obtain ⟨hpl, hr⟩ := hrel 0 i v off n p rfl rfl
      obtain ⟨vl, hvc, hvl, hvr, hvo⟩ := val_cells hr (val_ok c3)
      rw [fill_cons hpl hvc (by omega) (by rw [hp.1]; exact c2)]
      exact fill_sound ps ls _ _ _ (by simpa using hl) (fun k i v off n p h1 h2 => hrel (k + 1) i v off n p (by simpa using h1) (by simpa using h2)) (hp.put (by omega) (val_ok c3) hvl hvr) hf
theorem compParts_sound {fs : List Field} : ∀ {ps : List (Nat × Operand)} {ls : List (Nat × Nat × LX)}, compParts P fs ps = some ls → ps.length = ls.length ∧
    ∀ (k i : Nat) (x : Operand) (off n : Nat) (l : LX), ps[k]? = some (i, x) → ls[k]? = some (off, n, l) → compX x = some l ∧ ∃ f, fs[i]? = some f ∧ f.offset = off ∧ sizeT P f.type = some n
  | [], ls, h => by simp [compParts] at h; subst h; simp
  | (i, x) :: ps, ls, h => by
    unfold compParts at h
    split at h
    · rename_i f l qs h1 h2 h3
      split at h
      · rename_i n h4
        injection h with h; subst h
        obtain ⟨e1, e2⟩ := compParts_sound h3
        refine ⟨by simp [e1], fun k i' x' off n' l' hk hl => ?_⟩
        match k with
        | 0 =>
          simp at hk hl
          obtain ⟨rfl, rfl⟩ := hk
          obtain ⟨rfl, rfl, rfl⟩ := hl
          exact ⟨h2, f, h1, rfl, h4⟩
        | k + 1 => exact e2 k i' x' off n' l' (by simpa using hk) (by simpa using hl)
      · cases h
    · cases h
theorem lxs_get {slots : List (Nat × PV)} : ∀ {ls : List LX} {ps : List PV}, lxs slots ls = some ps → ls.length = ps.length ∧ ∀ (k : Nat) (l : LX) (p : PV), ls[k]? = some l → ps[k]? = some p → lx slots l = some p
  | [], ps, h => by simp [lxs] at h; subst h; simp
  | l :: ls, ps, h => by
    obtain ⟨p, qs, rfl, h1, h2⟩ := lxs_cons h
    obtain ⟨e1, e2⟩ := lxs_get h2
    refine ⟨by simp [e1], fun k l' p' hk hp => ?_⟩
    match k with
    | 0 => simp at hk hp; subst hk hp; exact h1
    | k + 1 => exact e2 k l' p' (by simpa using hk) (by simpa using hp)
theorem places_run (fs : List Field) (h : fs.all (fun f => (sizeT P f.type).isSome) = true) (w : World) :
    (fs.mapM fun f => do Pure.pure (f.offset, ← sizeOf f.type) : Sem (List (Nat × Nat))).run P w = .ok (fs.map fun f => (f.offset, (sizeT P f.type).getD 0)) w := by
  induction fs with
  | nil => simp
  | cons f fs ih =>
    simp only [List.all_cons, Bool.and_eq_true] at h
    obtain ⟨n, hn⟩ := Option.isSome_iff_exists.1 h.1
    have := ih h.2
    simp only [List.mapM_cons, Sem.run_bind, sizeT_run hn, Result.andThen_ok, Sem.run_pure, this, List.map_cons, hn, Option.getD_some]
theorem zero_pw {zv : Value} {z : List PV} (h : compCells zv.cells.toList = some z) : Pw C zv.cells z := by
  obtain ⟨e1, e2, e3⟩ := compCells_sound h C.w (imm C.mem C.hd C.I0)
  exact ⟨by simpa using e1, e2, fun j v p h1 h2 => .data _ _ (e3 j v p (by simpa using h1) h2)⟩
theorem sound_build {t : TypeId} {parts : Array (Nat × Operand)} {fs : Array Field} {z : List PV} {ls : List (Nat × Nat × LX)} (hs : SlotsOk C N slots a) (M : MemInv w0 C) (ho : o.op = .build t parts) (hu : P.underlying t = some (.struct fs)) (hz : zeroT P t = some z)
    (hall : fs.toList.all (fun f => (sizeT P f.type).isSome) = true) (hc : compParts P fs.toList parts.toList = some ls) (ha : lxs slots (ls.map (·.2.2)) = some xs)
    (hact : (LOp.build z ls).act Γ o.dst C.gen xs (look C.mem) = some (r, up)) : Goal P o a Q w0 C r up := by
  simp only [LOp.act] at hact
  split at hact
  case isFalse => cases hact
  case isTrue hlen =>
  simp only [Option.map_eq_some_iff, Prod.mk.injEq] at hact
  obtain ⟨cs, hf, rfl, rfl⟩ := hact
  obtain ⟨i, zv, h1, h2, h3⟩ := zeroT_some hz
  obtain ⟨e1, e2⟩ := compParts_sound hc
  obtain ⟨g1, g2⟩ := lxs_get ha
  have hpl : ∀ k : Nat, (fs.toList.map fun f => (f.offset, (sizeT P f.type).getD 0)).toArray[k]? = (fs.toList[k]?).map fun f => (f.offset, (sizeT P f.type).getD 0) := by intro k; simp
  obtain ⟨cells', hfill, hpw⟩ := fill_sound (C := C) (place := fun k => (fs.toList.map fun f => (f.offset, (sizeT P f.type).getD 0)).toArray[k]?) (parts.toList.map fun x => (x.1, a.eval x.2)) _ zv.cells z cs (by simp at e1 hlen ⊢; omega)
    (fun k i v off n p hk hl => by
      rw [List.getElem?_map, Option.map_eq_some_iff] at hk hl
      obtain ⟨⟨i', x⟩, hk, he⟩ := hk
      obtain ⟨⟨⟨off', n', l⟩, p'⟩, hl, he'⟩ := hl
      simp at he he'
      obtain ⟨rfl, rfl⟩ := he
      obtain ⟨rfl, rfl, rfl⟩ := he'
      rw [List.getElem?_zip_eq_some] at hl
      obtain ⟨hl1, hl2⟩ := hl
      obtain ⟨k1, f, k2, k3, k4⟩ := e2 k i' x off' n' l hk hl1
      refine ⟨by rw [hpl, k2]; simp [k3, k4], x_sound M hs k1 (g2 k l p' (by simp [hl1]) hl2)⟩) (zero_pw h3) hf
  refine Goal.pure M (v := .agg cells') ?_ (.mk_agg hpw.1 hpw.2.1 hpw.2.2)
  have hzr : (zeroValue t).run P C.w = .ok zv C.w := by simp [zeroValue, typeInfo, h1, h2]
  have hpr := places_run (P := P) fs.toList hall C.w
  have hpa : (fs.mapM fun f => do Pure.pure (f.offset, ← sizeOf f.type) : Sem (Array (Nat × Nat))).run P C.w = .ok (fs.toList.map fun f => (f.offset, (sizeT P f.type).getD 0)).toArray C.w := by
    rw [Array.mapM_eq_mapM_toList]
    simp only [Sem.run_map, hpr, Result.andThen_ok]
  have hfill' : Instr.fill (fun k => (fs.toList.map fun f => (f.offset, (sizeT P f.type).getD 0)).toArray[k]?) zv.cells ((parts.map fun (x : Nat × Operand) => (x.1, a.eval x.2)).toList) = some cells' := by
    rw [Array.toList_map]; exact hfill
  have hb : (Instr.build t (parts.map fun (x : Nat × Operand) => (x.1, a.eval x.2))).run P C.w = .ok (.agg cells') C.w := by
    simp only [Instr.build, Sem.run_bind, hzr, Result.andThen_ok, run_underlying hu, hpa]
    split
    · rename_i cells hce
      rw [hfill'] at hce; injection hce with hce; subst hce; rfl
    · rename_i hce
      exact absurd hfill' (hce _)
  simp only [execOp, ho]
  simp only [Sem.run_bind]
  exact (congrArg (fun r => Result.andThen r _) hb).trans rfl
end
end Go.PW
namespace Go.PW
open Go.RowKit
section
variable {P : Program} {o : Oper} {a : Act} {Q : Exit → Act → World → Prop} {w0 : Base} {C : Ctx}
variable {N : Nat} {slots : List (Nat × PV)} {Γ : List (Nat × Fact P)} {xs : List PV} {r : PV} {up : List (Nat × Ent)}
def RowsPw (C : Ctx) (sz : Nat) (cells : Array Value) (es : List (List PV)) : Prop :=
  cells.size = es.length * sz ∧ ∀ (i : Nat) (cs : List PV), es[i]? = some cs → cs.length = sz ∧ (∀ p ∈ cs, p.one = true) ∧
    ∀ (j : Nat) (p : PV), cs[j]? = some p → ∃ v, cells[i * sz + j]? = some v ∧ RV C v p
theorem RowsPw.put {sz : Nat} {cells : Array Value} {es : List (List PV)} {i : Nat} {p : PV} {vl : List Value} (h : RowsPw C sz cells es) (hi : i < es.length) (hlen : p.cells.length = sz) (hone : ∀ q ∈ p.cells, q.one = true) (hl : vl.length = p.cells.length)
    (hv : ∀ (j : Nat) (u : Value) (q : PV), vl[j]? = some u → p.cells[j]? = some q → RV C u q) :
    RowsPw C sz ((vl.zipIdx 0).foldl (fun cs x => cs.setIfInBounds (i * sz + x.2) x.1) cells) (es.set i p.cells) := by
  obtain ⟨h1, h2⟩ := h
  refine ⟨by rw [set_all_size, List.length_set, h1], fun i' cs hi' => ?_⟩
  rw [List.getElem?_set] at hi'
  split at hi'
  · rename_i hii
    subst hii
    injection hi' with hi'; subst hi'
    refine ⟨hlen, hone, fun j q hj => ?_⟩
    have hjl := (List.getElem?_eq_some_iff.1 hj).1
    have hjv : j < vl.length := by omega
    refine ⟨vl[j], ?_, hv j _ q (List.getElem?_eq_getElem hjv) hj⟩
    have hb := index_lt (j := j + 1) hi (show j + 1 ≤ sz by omega)
    rw [set_all, if_pos ⟨by omega, by omega, by omega⟩, show i * sz + j - (i * sz + 0) = j by omega]
    exact List.getElem?_eq_getElem hjv
  · rename_i hii
    obtain ⟨k1, k2, k3⟩ := h2 i' cs hi'
    refine ⟨k1, k2, fun j q hj => ?_⟩
    obtain ⟨u, m1, m2⟩ := k3 j q hj
    refine ⟨u, ?_, m2⟩
    have hjl := (List.getElem?_eq_some_iff.1 hj).1
    rw [set_all, if_neg ?_]
    · exact m1
    · rintro ⟨g1, g2, _⟩
      exact ne_index (sz := sz) (i := i') (j := j) (i' := i) (j' := i' * sz + j - i * sz) (by omega) (by omega) (Ne.symm hii) (by omega)
theorem fillRows_sound {sz : Nat} : ∀ (ps : List (Nat × Value)) (ls : List (Nat × PV)) (cells : Array Value) (es es' : List (List PV)), ps.length = ls.length →
    (∀ (k : Nat) (i : Nat) (v : Value) (i' : Nat) (p : PV), ps[k]? = some (i, v) → ls[k]? = some (i', p) → i = i' ∧ RV C v p) →
    RowsPw C sz cells es → fillRows sz es ls = some es' → ∃ cells', Instr.fill (fun i => some (i * sz, sz)) cells ps = some cells' ∧ RowsPw C sz cells' es' ∧ es'.length = es.length
  | [], ls, cells, es, es', hl, _, hp, hf => by
    cases ls with
    | nil => simp [fillRows] at hf; subst hf; exact ⟨cells, rfl, hp, rfl⟩
    | cons => simp at hl
  | (i, v) :: ps, ls, cells, es, es', hl, hrel, hp, hf => by
    cases ls with
    | nil => simp at hl
    | cons x ls =>
      obtain ⟨i', p⟩ := x
      unfold fillRows at hf
      split at hf
      case isFalse => cases hf
      case isTrue hc =>
      obtain ⟨c1, c2, c3⟩ := hc
      obtain ⟨hii, hr⟩ := hrel 0 i v i' p rfl rfl
      subst hii
      obtain ⟨vl, hvc, hvl, hvr, hvo⟩ := val_cells hr (val_ok c3)
      have hb := index_lt (j := sz) c2 (Nat.le_refl sz)
      rw [fill_cons (off := i * sz) (n := sz) rfl hvc (by omega) (by rw [hp.1]; exact hb)]
      obtain ⟨cells', g1, g2, g3⟩ := fillRows_sound ps ls _ _ _ (by simpa using hl) (fun k i v i' p h1 h2 => hrel (k + 1) i v i' p (by simpa using h1) (by simpa using h2)) (hp.put c2 c1 (val_ok c3) hvl hvr) hf
      exact ⟨cells', g1, g2, by rw [g3, List.length_set]⟩
theorem madeCells_pw {sz n : Nat} {zv : Value} {z : List PV} (hz : compCells zv.cells.toList = some z) (hs : zv.cells.size = sz) : RowsPw C sz (madeCells zv.cells (n * sz)) (List.replicate n z) := by
  obtain ⟨e1, e2, e3⟩ := compCells_sound hz C.w (imm C.mem C.hd C.I0)
  have hzl : z.length = sz := by rw [← e1]; simpa using hs
  refine ⟨by rw [size_madeCells, List.length_replicate], fun i cs hi => ?_⟩
  rw [List.getElem?_replicate] at hi
  split at hi
  case isFalse => cases hi
  case isTrue hin =>
  injection hi with hi; subst hi
  refine ⟨hzl, e2, fun j p hj => ?_⟩
  have hjl := (List.getElem?_eq_some_iff.1 hj).1
  have hb := index_lt (j := j + 1) hin (show j + 1 ≤ sz by omega)
  have hm : (i * sz + j) % sz = j := by rw [Nat.mul_comm, Nat.mul_add_mod]; exact Nat.mod_eq_of_lt (by omega)
  have hjz : j < zv.cells.size := by omega
  refine ⟨zv.cells[j], ?_, .data _ _ (e3 j _ p (by simp [hjz]) hj)⟩
  unfold madeCells
  rw [Array.getElem?_map, Array.getElem?_range, if_pos (by omega)]
  simp only [Option.map_some, hs, hm]
  exact congrArg some (getElem!_pos zv.cells j hjz)
theorem new_row_goal {d elem sz : Nat} {es : List (List PV)} {cells : Array Value} {len cap : Nat} {dt : Bool} (M : MemInv w0 C) (hf : freshF (look C.mem) d = true) (hpw : RowsPw C sz cells es) (hlen : len = es.length) (hcap : cap = es.length)
    (hbig : es.length ≤ big) (hdt : dt = true → ∀ cs ∈ es, ∀ p ∈ cs, p.isD = true)
    (hrun : (execOp a.eval o).run P C.w = .ok (.value (.slice (some ⟨C.w.heap.size, 0, none⟩) len cap)) (C.w.alloc (.cells cells elem))) :
    Goal P o a Q w0 C (.own d C.gen) [(d, { ver := C.gen, elem, sz, es, data := dt, new := true, dead := false })] := by
  subst hlen
  have hmax : es.length ≤ maxLen := by unfold big at hbig; unfold maxLen; omega
  have hown : (C.w.alloc (.cells cells elem)).ownsRow w0.B elem sz (.slice (some ⟨C.w.heap.size, 0, none⟩) es.length cap) es.length cells.toList :=
    ⟨by simpa using hpw.1, .inr ⟨C.w.heap.size, cap, cells, rfl, (Nat.le_trans w0.hB M.below.size), heap_alloc_new C.w _, by omega, by omega, by rw [hcap]; exact hpw.1, List.take_of_length_le (by have := hpw.1; simp; omega)⟩⟩
  have hN := M.new_row (d := d) (ent := { ver := C.gen, elem, sz, es, data := dt, new := true, dead := false }) hf rfl rfl (Below.alloc' C.w _) hown hbig
    (fun b hb => by simp [Value.ownBlock] at hb; omega) (fun i cs hi => by
      obtain ⟨k1, k2, k3⟩ := hpw.2 i cs hi
      refine ⟨k1, k2, fun j p hj => ?_⟩
      obtain ⟨u, m1, m2⟩ := k3 j p hj
      exact ⟨u, by simpa using m1, .inl ⟨m2, fun hd => m2.isD (hdt hd cs (List.mem_of_getElem? hi) p (List.mem_of_getElem? hj))⟩⟩)
  intro K hK
  unfold Oper.wp
  rw [hrun]
  refine hK _ _ _ hN.1 hN.2 (.own d C.gen _ rfl (.inr ⟨rfl, _, look_same _ _ _, rfl⟩) fun e he => ?_)
  show _ = upd C.hd d _ d
  rw [upd_same]
theorem compRow_some {t : TypeId} {e : TypeId} {sz by_ : Nat} {z : List PV} (h : compRow P t = some (e, sz, by_, z)) :
    ∃ i zv, P.underlying t = some (.slice e) ∧ P.info? e = some i ∧ i.zero = some zv ∧ zv.cells.size = sz ∧ 0 < sz ∧ i.size = sz ∧ i.bytes = by_ ∧ 0 < by_ ∧ compCells zv.cells.toList = some z := by
  unfold compRow at h
  split at h
  · rename_i e' hu
    split at h
    · rename_i i hi
      split at h
      · rename_i zv hz
        split at h
        · rename_i hc
          simp only [Option.map_eq_some_iff, Prod.mk.injEq] at h
          obtain ⟨z', h1, rfl, rfl, rfl, rfl⟩ := h
          exact ⟨i, zv, hu, hi, hz, hc.1, hc.2.1, rfl, rfl, hc.2.2, h1⟩
        · cases h
      · cases h
    · cases h
  · cases h
theorem compElems_sound : ∀ {ps : List (Nat × Operand)} {ls : List (Nat × LX)}, compElems ps = some ls → ps.length = ls.length ∧
    ∀ (k i : Nat) (x : Operand) (i' : Nat) (l : LX), ps[k]? = some (i, x) → ls[k]? = some (i', l) → i = i' ∧ compX x = some l
  | [], ls, h => by simp [compElems] at h; subst h; simp
  | (i, x) :: ps, ls, h => by
    unfold compElems at h
    split at h
    · rename_i l qs h1 h2
      injection h with h; subst h
      obtain ⟨e1, e2⟩ := compElems_sound h2
      refine ⟨by simp [e1], fun k i' x' i2 l' hk hl => ?_⟩
      match k with
      | 0 =>
        simp at hk hl
        obtain ⟨rfl, rfl⟩ := hk
        obtain ⟨rfl, rfl⟩ := hl
        exact ⟨rfl, h1⟩
      | k + 1 => exact e2 k i' x' i2 l' (by simpa using hk) (by simpa using hl)
    · cases h
theorem sound_mkSlice {t e : TypeId} {sz by_ n0 : Nat} {z : List PV} {parts : Array (Nat × Operand)} {ls : List (Nat × LX)} (hs : SlotsOk C N slots a) (M : MemInv w0 C) (ho : o.op = .buildSlice t n0 parts) (hr : compRow P t = some (e, sz, by_, z))
    (hc : compElems parts.toList = some ls) (hsmall : n0 * sz ≤ 2 ^ 24) (ha : lxs slots (ls.map (·.2)) = some xs)
    (hact : (LOp.mkSlice e sz n0 z ls).act Γ o.dst C.gen xs (look C.mem) = some (r, up)) : Goal P o a Q w0 C r up := by
  simp only [LOp.act] at hact
  split at hact
  case h_2 => cases hact
  rename_i d hd
  split at hact
  case isFalse => cases hact
  case isTrue hcond =>
  obtain ⟨hlen, hf⟩ := hcond
  split at hact
  case h_2 => cases hact
  rename_i es hfr
  split at hact
  case isFalse => cases hact
  case isTrue hone =>
  simp only [Option.some.injEq, Prod.mk.injEq] at hact
  obtain ⟨rfl, rfl⟩ := hact
  obtain ⟨i, zv, hu, hi, hz, hzs, hpos, hsz, hby, _, hzc⟩ := compRow_some hr
  obtain ⟨e1, e2⟩ := compElems_sound hc
  obtain ⟨g1, g2⟩ := lxs_get ha
  obtain ⟨cells', hfill, hpw, hel⟩ := fillRows_sound (C := C) (sz := sz) (parts.toList.map fun x => (x.1, a.eval x.2)) _ (madeCells zv.cells (n0 * sz)) _ es (by simp at e1 hlen ⊢; omega)
    (fun k i v i' p hk hl => by
      rw [List.getElem?_map, Option.map_eq_some_iff] at hk hl
      obtain ⟨⟨i1, x⟩, hk, he⟩ := hk
      obtain ⟨⟨⟨i2, l⟩, p'⟩, hl, he'⟩ := hl
      simp at he he'
      obtain ⟨rfl, rfl⟩ := he
      obtain ⟨rfl, rfl⟩ := he'
      rw [List.getElem?_zip_eq_some] at hl
      obtain ⟨hl1, hl2⟩ := hl
      obtain ⟨k1, k2⟩ := e2 k i1 x i2 l hk hl1
      exact ⟨k1, x_sound M hs k2 (g2 k l p' (by simp [hl1]) hl2)⟩) (madeCells_pw hzc hzs) hfr
  rw [List.length_replicate] at hel
  have hbl : es.length ≤ big := by
    have : n0 ≤ n0 * sz := Nat.le_mul_of_pos_right _ hpos
    unfold big; omega
  refine new_row_goal (len := n0) (cap := n0) M hf hpw hel.symm hel.symm hbl (fun hdt cs hcs p hp => ?_) ?_
  · rw [List.all_eq_true] at hdt
    have := hdt cs hcs
    rw [List.all_eq_true] at this
    exact this p hp
  · have hsr : (sizeOf e).run P C.w = .ok sz C.w := by simp [sizeOf, typeInfo, hi, hsz]
    have hzr : (zeroValue e).run P C.w = .ok zv C.w := by simp [zeroValue, typeInfo, hi, hz]
    have hfill' : Instr.fill (fun i => some (i * sz, sz)) (Array.map (fun x => zv.cells[x % zv.cells.size]!) (Array.range (n0 * sz))) (parts.map fun (x : Nat × Operand) => (x.1, a.eval x.2)).toList = some cells' := by
      rw [Array.toList_map]; exact hfill
    have hb : (Instr.buildSlice t n0 (parts.map fun (x : Nat × Operand) => (x.1, a.eval x.2))).run P C.w = .ok (.slice (some ⟨C.w.heap.size, 0, none⟩) n0 n0) (C.w.alloc (.cells cells' e)) := by
      unfold Instr.buildSlice
      simp only [Sem.run_bind, run_underlying hu, Result.andThen_ok, hsr]
      rw [if_neg (by omega)]
      by_cases hne : n0 * sz = 0
      · rw [if_pos hne]
        simp only [Sem.run_bind, Sem.run_pure, Result.andThen_ok]
        rw [hne] at hfill' ⊢
        have e0 : ∀ f : Nat → Value, Array.map f (Array.range 0) = #[] := fun f => by simp
        rw [e0] at hfill'
        simp only [e0]
        split
        · rename_i cells hce
          rw [hfill'] at hce; injection hce with hce; subst hce
          simp [newRow]
        · rename_i hce
          exact absurd hfill' (hce _)
      rw [if_neg hne]
      simp only [Sem.run_bind, Sem.run_pure, hzr, Result.andThen_ok]
      split
      · rename_i cells hce
        rw [hfill'] at hce; injection hce with hce; subst hce
        simp [newRow]
      · rename_i hce
        exact absurd hfill' (hce _)
    simp only [execOp, ho]
    simp only [Sem.run_bind]
    exact (congrArg (fun r => Result.andThen r _) hb).trans rfl
theorem sound_make {t e : TypeId} {sz by_ : Nat} {z : List PV} {x y : Operand} {l : LX} (hs : SlotsOk C N slots a) (M : MemInv w0 C) (ho : o.op = .makeSlice t x y) (hxy : a.eval y = a.eval x) (hr : compRow P t = some (e, sz, by_, z))
    (hx : compX x = some l) (ha : lxs slots [l] = some xs) (hact : (LOp.make e sz by_ z l).act Γ o.dst C.gen xs (look C.mem) = some (r, up)) : Goal P o a Q w0 C r up := by
  obtain ⟨p, rfl, hp⟩ := lxs_1 ha
  have hv := x_sound M hs hx hp
  cases p <;> (try simp only [reduceCtorEq, LOp.act] at hact)
  rename_i k n
  cases k <;> (try simp only [reduceCtorEq] at hact)
  split at hact
  case h_2 => cases hact
  rename_i d hd
  split at hact
  case isFalse => cases hact
  case isTrue hc =>
  obtain ⟨hf, hn0, hbig⟩ := hc
  simp only [Option.some.injEq, Prod.mk.injEq] at hact
  obtain ⟨rfl, rfl⟩ := hact
  obtain ⟨i, zv, hu, hi, hz, hzs, hpos, hsz, hby, hb0, hzc⟩ := compRow_some hr
  have hle : n.toNat ≤ n.toNat * by_ := Nat.le_mul_of_pos_right _ hb0
  have hbb : n.toNat ≤ big := by omega
  have hnn : (n.toNat : Int) = n := by omega
  have e1 := hv.int_inv
  have hmk := run_make (P := P) C.w t e i zv hu hi hz .i64 .i64 n n hn0 (Int.le_refl _) (by
    rw [hby]
    have : (by_ : Int) * n = ((n.toNat * by_ : Nat) : Int) := by rw [Int.natCast_mul, hnn, Int.mul_comm]
    rw [this]; unfold big at hbig; omega) (by unfold big at hbb; omega)
  rw [hsz] at hmk
  refine new_row_goal (es := List.replicate n.toNat z) (cells := madeCells zv.cells (n.toNat * sz)) (len := n.toNat) (cap := n.toNat) M hf (madeCells_pw hzc hzs) (by simp) (by simp) (by simpa using hbb) (fun hdt cs hcs p hp => ?_) ?_
  · rw [List.all_eq_true] at hdt
    have := List.eq_of_mem_replicate hcs
    subst this
    exact hdt p hp
  · simp only [execOp, ho, e1, hxy, Sem.run_bind, hmk, Result.andThen_ok, Sem.run_pure]
theorem compXs_sound (M : MemInv w0 C) (hs : SlotsOk C N slots a) : ∀ {os : List Operand} {ls : List LX} {ps : List PV}, compXs os = some ls → lxs slots ls = some ps →
    os.length = ps.length ∧ ls.length = ps.length ∧ ∀ (j : Nat) (x : Operand) (p : PV), os[j]? = some x → ps[j]? = some p → RV C (a.eval x) p
  | [], ls, ps, h, hl => by simp [compXs] at h; subst h; simp [lxs] at hl; subst hl; simp
  | x :: os, ls, ps, h, hl => by
    unfold compXs at h
    split at h
    · rename_i l ls' h1 h2
      injection h with h; subst h
      obtain ⟨p, qs, rfl, g1, g2⟩ := lxs_cons hl
      obtain ⟨e1, e2, e3⟩ := compXs_sound M hs h2 g2
      refine ⟨by simp [e1], by simp [e2], fun j y q hj hq => ?_⟩
      match j with
      | 0 => simp at hj hq; subst hj hq; exact x_sound M hs h1 g1
      | j + 1 => exact e3 j y q (by simpa using hj) (by simpa using hq)
    · cases h
theorem lxs_append {slots : List (Nat × PV)} : ∀ {ls ms : List LX} {ps : List PV}, lxs slots (ls ++ ms) = some ps → lxs slots ls = some (ps.take ls.length) ∧ lxs slots ms = some (ps.drop ls.length)
  | [], ms, ps, h => by simpa [lxs] using h
  | l :: ls, ms, ps, h => by
    obtain ⟨p, qs, rfl, h1, h2⟩ := lxs_cons (by simpa using h)
    obtain ⟨g1, g2⟩ := lxs_append h2
    refine ⟨?_, by simpa using g2⟩
    simp only [List.length_cons, List.take_succ_cons, lxs, h1, g1]
theorem sound_mkfn {f : FuncId} {first caps : Array Operand} {ls ms : List LX} (hs : SlotsOk C N slots a) (M : MemInv w0 C) (ho : o.op = .makeFunc (.func f) first caps) (h1 : compXs first.toList = some ls) (h2 : compXs caps.toList = some ms)
    (ha : lxs slots (ls ++ ms) = some xs) (hact : (LOp.mkfn f ls ms).act Γ o.dst C.gen xs (look C.mem) = some (r, up)) : Goal P o a Q w0 C r up := by
  simp only [LOp.act, Option.some.injEq, Prod.mk.injEq] at hact
  obtain ⟨rfl, rfl⟩ := hact
  obtain ⟨g1, g2⟩ := lxs_append ha
  obtain ⟨a1, a2, a3⟩ := compXs_sound M hs h1 g1
  obtain ⟨b1, b2, b3⟩ := compXs_sound M hs h2 g2
  have hl : ∀ (n : Nat), (xs.take n).length = (xs.take n).length := fun _ => rfl
  refine Goal.pure M (v := .func (.func f) (first.map a.eval) (caps.map a.eval)) (by simp [execOp, ho, Instr.makeFunc]) (.fn f _ _ _ _ (by simpa using a1) (by simpa using b1) (fun j v p hj hp => ?_) fun j v p hj hp => ?_)
  · rw [Array.getElem?_map, Option.map_eq_some_iff] at hj
    obtain ⟨x, hx, rfl⟩ := hj
    exact a3 j x p (by simpa using hx) hp
  · rw [Array.getElem?_map, Option.map_eq_some_iff] at hj
    obtain ⟨x, hx, rfl⟩ := hj
    exact b3 j x p (by simpa using hx) hp
end
end Go.PW
namespace Go.PW
open Go.RowKit
section
variable {P : Program} (w : World)
theorem run_append_of_nil (base : Nat) (t ty e : TypeId) (i : TypeInfo) (size : Nat) (ht : P.underlying t = some (.slice e)) (hi : P.info? e = some i)
    (v : Value) (n : Nat) (xs : List Value) (hown : w.ownsRow base e size v n xs) (c : Nat) : (Builtin.append_ #[t, t] ty #[v, .slice none 0 c]).run P w = .ok v w := by
  rcases hown.2 with ⟨rfl, rfl⟩ | ⟨g, cap, cur, rfl, _, _, hnc, _⟩
  · simp [Builtin.append_, run_underlying ht, sizeOf, typeInfo, hi, Builtin.lenOf, Builtin.firstCells]
  · simp [Builtin.append_, run_underlying ht, sizeOf, typeInfo, hi, Builtin.lenOf, Builtin.firstCells, hnc, storeCells]
theorem run_append_src (base : Nat) (t ty e : TypeId) (i : TypeInfo) (z : Value) (size bytes : Nat) (ht : P.underlying t = some (.slice e)) (hi : P.info? e = some i) (hz : i.zero = some z)
    (hsize : i.size = size) (hby : i.bytes = bytes) (hzs : z.cells.size = size) (hsz : 0 < size)
    (v : Value) (n : Nat) (xs : List Value) (hown : w.ownsRow base e size v n xs)
    (A : Option Addr) (m c : Nat) (news : List Value) (hl : news.length = m * size) (hr : 0 < m → ∃ ad, A = some ad ∧ ∀ j u, news[j]? = some u → w.cell? (ad.add j) = some u) (h1 : ∀ u ∈ news, u.oneCell' = true)
    (h63 : n + m ≤ maxLen) (hbytes : (n + m) * bytes ≤ 140737488355328) (hbase : base ≤ w.heap.size) :
    ∃ v' w', (Builtin.append_ #[t, t] ty #[v, .slice A m c]).run P w = .ok v' w' ∧ w'.ownsRow base e size v' (n + m) (xs ++ news) ∧ w.grownBy w' v.ownBlock ∧
      (v'.ownBlock = v.ownBlock ∨ v'.ownBlock = some w.heap.size) := by
  rcases A with _ | ad
  · have hm : m = 0 := by
      rcases Nat.eq_zero_or_pos m with h0 | h0
      · exact h0
      · obtain ⟨ad, h, _⟩ := hr h0
        cases h
    subst hm
    have hn : news = [] := List.eq_nil_of_length_eq_zero (by simpa using hl)
    subst hn
    exact ⟨v, w, run_append_of_nil w base t ty e i size ht hi v n xs hown c, by simpa using hown, ⟨rfl, rfl, rfl, Nat.le_refl _, fun _ _ _ => rfl⟩, .inl rfl⟩
  · have hcells : ∀ j u, news[j]? = some u → w.cell? (ad.add j) = some u := by
      intro j u hu
      rcases Nat.eq_zero_or_pos m with h0 | h0
      · subst h0
        have hn : news = [] := List.eq_nil_of_length_eq_zero (by simpa using hl)
        subst hn
        simp at hu
      · obtain ⟨ad', h, hc⟩ := hr h0
        injection h with h
        subst h
        exact hc j u hu
    obtain ⟨v', w', hrun, h2, h3, _, h5⟩ := run_append_own_at (P := P) w base t ty e i z size bytes ht hi hz hsize hby hzs hsz v n xs hown ad m c news hl hcells h1 h63 hbytes hbase
    exact ⟨v', w', hrun, h2, h3, h5⟩
end
section
variable {P : Program} {o : Oper} {a : Act} {Q : Exit → Act → World → Prop} {w0 : Base} {C : Ctx}
variable {N : Nat} {slots : List (Nat × PV)} {Γ : List (Nat × Fact P)} {xs : List PV} {r : PV} {up : List (Nat × Ent)}
theorem div_mod_ix {sz i j : Nat} (hj : j < sz) : (i * sz + j) / sz = i ∧ (i * sz + j) % sz = j := by
  constructor
  · rw [Nat.mul_comm, Nat.mul_add_div (by omega), Nat.div_eq_of_lt hj]; omega
  · rw [Nat.mul_comm, Nat.mul_add_mod]; exact Nat.mod_eq_of_lt hj
theorem src_news {v : Value} {x : PV} {sz : Nat} {news : List (List PV)} (M : MemInv w0 C) (hv : RV C v x) (hs : srcRows (look C.mem) sz x = some (sz, news)) (h0 : 0 < sz) :
    ∃ (A : Option Addr) (c : Nat) (us : List Value), v = .slice A news.length c ∧ us.length = news.length * sz ∧
      (0 < news.length → ∃ ad, A = some ad ∧ ∀ j u, us[j]? = some u → C.w.cell? (ad.add j) = some u) ∧ (∀ u ∈ us, u.oneCell' = true) ∧ news.length ≤ big ∧
      ∀ (i : Nat) (cs : List PV), news[i]? = some cs → cs.length = sz ∧ (∀ p ∈ cs, p.one = true) ∧
        ∀ (j : Nat) (p : PV), cs[j]? = some p → ∃ u, us[i * sz + j]? = some u ∧ RV C u p ∧ (srcData (look C.mem) x = true → DV C.w (imm C.mem C.hd C.I0) u p) := by
  have small : ∀ (es : List (List PV)) (us : List Value), us.length = es.length * sz → (∀ (i : Nat) (cs : List PV), es[i]? = some cs → cs.length = sz ∧ (∀ p ∈ cs, p.one = true) ∧
        ∀ (j : Nat) (p : PV), cs[j]? = some p → ∃ u, us[i * sz + j]? = some u ∧ RV C u p) → ∀ u ∈ us, u.oneCell' = true := by
    intro es us hl hc u hu
    obtain ⟨k, hk⟩ := List.getElem?_of_mem hu
    have hkl := (List.getElem?_eq_some_iff.1 hk).1
    have hi : k / sz < es.length := Nat.div_lt_of_lt_mul (by rw [Nat.mul_comm]; omega)
    obtain ⟨c1, c2, c3⟩ := hc (k / sz) _ (List.getElem?_eq_getElem hi)
    have hj : k % sz < (es[k / sz]).length := by rw [c1]; exact Nat.mod_lt _ h0
    obtain ⟨u', h1, h2⟩ := c3 (k % sz) _ (List.getElem?_eq_getElem hj)
    have : k / sz * sz + k % sz = k := by rw [Nat.mul_comm]; exact Nat.div_add_mod k sz
    rw [this, hk] at h1
    injection h1 with h1; subst h1
    exact h2.oneCell (c2 _ (List.getElem_mem hj))
  cases x <;> (try simp only [srcRows, asList, reduceCtorEq, Option.some.injEq, Prod.mk.injEq, true_and, Option.map_eq_some_iff] at hs)
  · subst hs
    refine ⟨none, 0, [], hv.nils_inv, by simp, by simp, by simp, by simp, by simp⟩
  · obtain ⟨rfl, rfl⟩ := hs
    rename_i sz es
    have hd := hv.list_inv
    cases hd with
    | list0 A c _ _ => exact ⟨A, c, [], rfl, by simp, by simp, by simp, by simp, by simp⟩
    | list ad c _ _ f hc hb hI hlt hsz' hcell hval =>
      have hget : ∀ (i j : Nat) (cs : List PV), es[i]? = some cs → j < sz → ((List.range (es.length * sz)).map fun k => f (k / sz) (k % sz))[i * sz + j]? = some (f i j) := by
        intro i j cs hi hj
        have hil := (List.getElem?_eq_some_iff.1 hi).1
        have hb := index_lt (j := j + 1) hil (show j + 1 ≤ sz by omega)
        obtain ⟨d1, d2⟩ := div_mod_ix (i := i) hj
        rw [List.getElem?_map, List.getElem?_range (by omega)]
        simp [d1, d2]
      have hrows : ∀ (i : Nat) (cs : List PV), es[i]? = some cs → cs.length = sz ∧ (∀ p ∈ cs, p.one = true) ∧
          ∀ (j : Nat) (p : PV), cs[j]? = some p → ∃ u, ((List.range (es.length * sz)).map fun k => f (k / sz) (k % sz))[i * sz + j]? = some u ∧ RV C u p ∧ DV C.w (imm C.mem C.hd C.I0) u p := by
        intro i cs hi
        refine ⟨(hsz' i cs hi).1, (hsz' i cs hi).2, fun j p hj => ?_⟩
        have hjl := (List.getElem?_eq_some_iff.1 hj).1
        have := hval i cs j p hi hj
        exact ⟨f i j, hget i j cs hi (by rw [(hsz' i cs hi).1] at hjl; exact hjl), .data _ _ this, this⟩
      refine ⟨some ad, c, (List.range (es.length * sz)).map fun k => f (k / sz) (k % sz), rfl, by simp, fun _ => ⟨ad, rfl, fun k u hk => ?_⟩,
        small es _ (by simp) (fun i cs hi => ⟨(hrows i cs hi).1, (hrows i cs hi).2.1, fun j p hj => by obtain ⟨u, a1, a2, _⟩ := (hrows i cs hi).2.2 j p hj; exact ⟨u, a1, a2⟩⟩), hb,
        fun i cs hi => ⟨(hrows i cs hi).1, (hrows i cs hi).2.1, fun j p hj => by obtain ⟨u, a1, a2, a3⟩ := (hrows i cs hi).2.2 j p hj; exact ⟨u, a1, a2, fun _ => a3⟩⟩⟩
      have hkl := (List.getElem?_eq_some_iff.1 hk).1
      simp only [List.length_map, List.length_range] at hkl
      have hi : k / sz < es.length := Nat.div_lt_of_lt_mul (by rw [Nat.mul_comm]; omega)
      have hj : k % sz < (es[k / sz]).length := by rw [(hsz' _ _ (List.getElem?_eq_getElem hi)).1]; exact Nat.mod_lt _ h0
      have := hcell (k / sz) _ (k % sz) _ (List.getElem?_eq_getElem hi) (List.getElem?_eq_getElem hj)
      have hdm : k / sz * sz + k % sz = k := by rw [Nat.mul_comm]; exact Nat.div_add_mod k sz
      rw [hdm] at this
      rw [List.getElem?_map, List.getElem?_range hkl] at hk
      simp at hk
      rw [this, hk]
  · rename_i nm ver
    obtain ⟨e, he, rfl, rfl⟩ := hs
    have hh := hv.own_inv.2.2 e he
    obtain ⟨ys, ho, hb, hc⟩ := M.rows nm ver e he
    have hd : srcData (look C.mem) (.own nm ver) = e.data := by simp [srcData, he]
    have hone := small e.es ys ho.1 fun i cs hi => ⟨(hc i cs hi).1, (hc i cs hi).2.1, fun j p hj => by obtain ⟨u, a1, a2, _⟩ := (hc i cs hi).2.2 j p hj; exact ⟨u, a1, a2⟩⟩
    rw [hd]
    rcases ho.2 with ⟨h1, h2⟩ | ⟨g, cap, cur, h1, _⟩
    · exact ⟨none, 0, ys, by rw [hh, h1, h2], ho.1, fun h => by omega, hone, hb, hc⟩
    · exact ⟨_, cap, ys, hh.trans h1, ho.1, fun _ => ⟨_, rfl, ho.cells (g := g) (by rw [h1]; rfl)⟩, hone, hb, hc⟩
  · rename_i nm ver lo hi
    obtain ⟨e, he, rfl, rfl⟩ := hs
    have hh := hv.sub_inv.2.2 e he
    obtain ⟨ys, ho, hb, hc⟩ := M.rows nm ver e he
    obtain ⟨ad, c, hrow, hcap⟩ := row_len M he
    simp only [subHdr, hrow] at hh
    obtain ⟨b1, b2, hh⟩ := hh
    have hd : srcData (look C.mem) (.sub nm ver lo hi) = e.data := by simp [srcData, he]
    have hlen : ((e.es.take hi).drop lo).length = hi - lo := by simp; omega
    have hget : ∀ (i : Nat) (cs : List PV), ((e.es.take hi).drop lo)[i]? = some cs → e.es[lo + i]? = some cs ∧ lo + i < hi := by
      intro i cs h
      rw [List.getElem?_drop, List.getElem?_take] at h
      split at h
      · rename_i hx; exact ⟨h, hx⟩
      · cases h
    have hyl := ho.1
    have hle : hi * e.sz ≤ e.es.length * e.sz := Nat.mul_le_mul_right _ b2
    have hle2 : lo * e.sz ≤ hi * e.sz := Nat.mul_le_mul_right _ b1
    have hul : ((ys.take (hi * e.sz)).drop (lo * e.sz)).length = (hi - lo) * e.sz := by
      rw [List.length_drop, List.length_take, Nat.sub_mul]; omega
    have hug : ∀ k, k < (hi - lo) * e.sz → ((ys.take (hi * e.sz)).drop (lo * e.sz))[k]? = ys[lo * e.sz + k]? := by
      intro k hk
      rw [Nat.sub_mul] at hk
      rw [List.getElem?_drop, List.getElem?_take, if_pos (by omega)]
    have hrows : ∀ (i : Nat) (cs : List PV), ((e.es.take hi).drop lo)[i]? = some cs → cs.length = e.sz ∧ (∀ p ∈ cs, p.one = true) ∧
        ∀ (j : Nat) (p : PV), cs[j]? = some p → ∃ u, ((ys.take (hi * e.sz)).drop (lo * e.sz))[i * e.sz + j]? = some u ∧ RV C u p ∧ (e.data = true → DV C.w (imm C.mem C.hd C.I0) u p) := by
      intro i cs h
      obtain ⟨g1, g2⟩ := hget i cs h
      obtain ⟨c1, c2, c3⟩ := hc _ cs g1
      refine ⟨c1, c2, fun j p hj => ?_⟩
      obtain ⟨u, a1, a2, a3⟩ := c3 j p hj
      have hjl := (List.getElem?_eq_some_iff.1 hj).1
      have hb := index_lt (i := i) (n := hi - lo) (j := j + 1) (by omega) (show j + 1 ≤ e.sz by omega)
      refine ⟨u, ?_, a2, a3⟩
      rw [hug _ (by omega), ← a1]
      congr 1
      rw [Nat.add_mul]; omega
    have hone := small ((e.es.take hi).drop lo) _ (by rw [hul, hlen]) fun i cs hi => ⟨(hrows i cs hi).1, (hrows i cs hi).2.1, fun j p hj => by obtain ⟨u, a1, a2, _⟩ := (hrows i cs hi).2.2 j p hj; exact ⟨u, a1, a2⟩⟩
    rw [hd]
    refine ⟨_, _, (ys.take (hi * e.sz)).drop (lo * e.sz), by rw [hlen]; exact hh, by rw [hlen]; exact hul, fun h => ?_, hone, by rw [hlen]; omega, hrows⟩
    rw [hlen] at h
    obtain ⟨g, cap, hg, _⟩ := row_hdr M he (by omega)
    rw [hg] at hrow
    injection hrow with r1 r2 r3
    rw [if_neg (by omega), ← r1]
    refine ⟨_, rfl, fun k u hk => ?_⟩
    have hkl := (List.getElem?_eq_some_iff.1 hk).1
    rw [hug k (by omega)] at hk
    rw [add_add]
    exact ho.cells (g := g) (by rw [hg]; rfl) _ u hk
theorem sound_append {t e : TypeId} {sz by_ : Nat} {z : List PV} {s x : Operand} {l m : LX} {c : Call} (hs : SlotsOk C N slots a) (M : MemInv w0 C) (ho : o.op = .call c) (hc : c.callee = .builtin .append) (hca : c.args = #[s, x]) (hct : c.argTypes = #[t, t])
    (hr : compRow P t = some (e, sz, by_, z)) (hsx : compX s = some l) (hx : compX x = some m) (ha : lxs slots [l, m] = some xs) (hact : (LOp.append e sz by_ l m).act Γ o.dst C.gen xs (look C.mem) = some (r, up)) : Goal P o a Q w0 C r up := by
  obtain ⟨p, q, rfl, hp, hq⟩ := lxs_2 ha
  have h1 := x_sound M hs hsx hp
  have h2 := x_sound M hs hx hq
  obtain ⟨i, zv, hu, hi, hz, hzs, hpos, hsz, hby, hb0, hzc⟩ := compRow_some hr
  simp only [LOp.act] at hact
  split at hact
  case h_1 => cases hact
  rename_i d hd
  split at hact
  case h_1 => cases hact
  rename_i sz2 news hsrc
  split at hact
  case isFalse => cases hact
  case isTrue hcond =>
  obtain ⟨rfl, hf⟩ := hcond
  obtain ⟨A, c', us, e2, hul, hadr, hone, hbig, hrows⟩ := src_news M h2 hsrc hpos
  have hexec : ∀ v v' w', a.eval s = v → (Builtin.append_ #[t, t] o.type #[v, .slice A news.length c']).run P C.w = .ok v' w' → (execOp a.eval o).run P C.w = .ok (.value v') w' := by
    intro v v' w' hv hrun
    simp only [execOp, ho, resolve, hc, hca, hct, invoke, builtin, Sem.run_bind, Sem.run_pure, Result.andThen_ok, List.map_toArray, List.map_cons, List.map_nil, hv, e2, hrun]
  split at hact
  · -- onto nil
    split at hact
    case isFalse => cases hact
    case isTrue hbytes =>
    simp only [Option.some.injEq, Prod.mk.injEq] at hact
    obtain ⟨rfl, rfl⟩ := hact
    have hle : news.length ≤ news.length * by_ := Nat.le_mul_of_pos_right _ hb0
    obtain ⟨v', w', hrun, hown, hg, hat⟩ := run_append_src (P := P) C.w w0.B t o.type e i zv _ by_ hu hi hz hsz hby hzs hpos (.slice none 0 0) 0 [] (World.ownsRow_nil C.w _ e _) A news.length c' us hul hadr hone
      (by unfold maxLen; unfold big at hbytes; omega) (by unfold big at hbytes; simpa using hbytes) (Nat.le_trans w0.hB M.below.size)
    simp only [Nat.zero_add, List.nil_append] at hown
    have hbel : Below C.w.heap.size C.w w' := (Below.refl _ _).grown hg (Nat.le_refl _) (by simp [Value.ownBlock])
    have hN := M.new_row (d := d) (ent := { ver := C.gen, elem := e, sz := _, es := news, data := srcData (look C.mem) q, new := true, dead := false }) hf rfl rfl hbel hown (by omega)
      (fun b hb => by
        rcases hat with h | h
        · rw [h] at hb; simp [Value.ownBlock] at hb
        · rw [h] at hb; injection hb with hb; omega)
      (fun i cs hi => ⟨(hrows i cs hi).1, (hrows i cs hi).2.1, fun j p hj => by obtain ⟨u, a1, a2, a3⟩ := (hrows i cs hi).2.2 j p hj; exact ⟨u, a1, .inl ⟨a2, a3⟩⟩⟩)
    intro K hK
    unfold Oper.wp
    rw [hexec _ _ _ h1.nils_inv hrun]
    refine hK _ _ _ hN.1 hN.2 (.own d C.gen _ ?_ (.inr ⟨rfl, _, look_same _ _ _, rfl⟩) fun e he => ?_)
    · rcases hown.2 with ⟨h, _⟩ | ⟨g, cap, cur, h, _⟩ <;> rw [h] <;> rfl
    · show _ = upd C.hd d _ d
      rw [upd_same]
  · rename_i nm ver
    split at hact
    case h_2 => cases hact
    rename_i e' he
    split at hact
    case isFalse => cases hact
    case isTrue hcond =>
    obtain ⟨hel, hsz', hbytes⟩ := hcond
    simp only [Option.some.injEq, Prod.mk.injEq] at hact
    obtain ⟨rfl, rfl⟩ := hact
    obtain ⟨ys, hoy, hby', hcy⟩ := M.rows nm ver e' he
    have hv := h1.own_inv.2.2 e' he
    have hle : e'.es.length + news.length ≤ (e'.es.length + news.length) * by_ := Nat.le_mul_of_pos_right _ hb0
    rw [hel, hsz'] at hoy
    obtain ⟨v', w', hrun, hown, hg, hat⟩ := run_append_src (P := P) C.w w0.B t o.type e i zv _ by_ hu hi hz hsz hby hzs hpos (C.hd nm) _ ys hoy A news.length c' us hul hadr hone
      (by unfold maxLen; unfold big at hbytes; omega) (by unfold big at hbytes; exact hbytes) (Nat.le_trans w0.hB M.below.size)
    have hlen : (e'.es ++ news).length = e'.es.length + news.length := List.length_append
    have hN := M.append_row (nm := nm) (ver := ver) (d := d) (e := e') (ent := { ver := C.gen, elem := e, sz := _, es := e'.es ++ news, data := e'.data && srcData (look C.mem) q, new := true, dead := false }) (hdr := v') (xs := ys ++ us) he hf rfl rfl hg
      (by rw [hlen]; exact hown) (by rw [hlen]; omega) hat (fun i cs hi => by
        dsimp only at hi ⊢
        by_cases hlt : i < e'.es.length
        · rw [List.getElem?_append_left hlt] at hi
          obtain ⟨c1, c2, c3⟩ := hcy i cs hi
          rw [hsz'] at c1 c3
          refine ⟨c1, c2, fun j p hj => ?_⟩
          obtain ⟨u, a1, a2, a3⟩ := c3 j p hj
          have := (List.getElem?_eq_some_iff.1 a1).1
          exact ⟨u, by rw [List.getElem?_append_left this]; exact a1, a2, fun hd => a3 (by simp at hd; exact hd.1)⟩
        · rw [List.getElem?_append_right (by omega)] at hi
          obtain ⟨c1, c2, c3⟩ := hrows _ cs hi
          refine ⟨c1, c2, fun j p hj => ?_⟩
          obtain ⟨u, a1, a2, a3⟩ := c3 j p hj
          refine ⟨u, ?_, a2, fun hd => a3 (by simp at hd; exact hd.2)⟩
          have hmul : e'.es.length * sz2 ≤ i * sz2 := Nat.mul_le_mul_right _ (by omega)
          rw [List.getElem?_append_right (by rw [hoy.1]; omega), hoy.1, ← a1]
          congr 1
          rw [Nat.sub_mul]; omega)
    intro K hK
    unfold Oper.wp
    rw [hexec _ _ _ hv hrun]
    refine hK _ _ _ hN.1 hN.2 (.own d C.gen _ ?_ (.inr ⟨rfl, _, look_same _ _ _, rfl⟩) fun e he => ?_)
    · rcases hown.2 with ⟨h, _⟩ | ⟨g, cap, cur, h, _⟩ <;> rw [h] <;> rfl
    · show _ = upd C.hd d _ d
      rw [upd_same]
  · cases hact
end
end Go.PW
