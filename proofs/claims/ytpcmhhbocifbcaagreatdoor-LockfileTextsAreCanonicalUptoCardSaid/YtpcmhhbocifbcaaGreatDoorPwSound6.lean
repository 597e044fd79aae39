/-
  PwSound6: struct values, literal slices, function values, make.
-/
import Derived.Test.YtpcmhhbocifbcaaGreatDoorPwSound5
namespace Go.PW
open Go.RowKit
theorem set_all (off : Nat) : ∀ (vl : List Value) (j0 : Nat) (cells : Array Value) (k : Nat),
    ((vl.zipIdx j0).foldl (fun cs x => cs.setIfInBounds (off + x.2) x.1) cells)[k]? = if off + j0 ≤ k ∧ k < off + j0 + vl.length ∧ k < cells.size then vl[k - (off + j0)]? else cells[k]?
  | [], j0, cells, k => by
    have : ¬ (off + j0 ≤ k ∧ k < off + j0 + ([] : List Value).length ∧ k < cells.size) := by simp; omega
    rw [if_neg this]; rfl
  | v :: vl, j0, cells, k => by
    rw [List.zipIdx_cons, List.foldl_cons, set_all off vl (j0 + 1)]
    simp only [Array.size_setIfInBounds, List.length_cons]
    by_cases h1 : k = off + j0
    · subst h1
      rw [if_neg (by omega)]
      by_cases h2 : off + j0 < cells.size
      · rw [if_pos ⟨Nat.le_refl _, by omega, h2⟩]
        simp [h2]
      · rw [if_neg (by omega)]
        rw [Array.getElem?_eq_none (by simp; omega), Array.getElem?_eq_none (by omega)]
    · by_cases h2 : off + (j0 + 1) ≤ k ∧ k < off + (j0 + 1) + vl.length ∧ k < cells.size
      · rw [if_pos h2, if_pos (by omega)]
        rw [show k - (off + j0) = (k - (off + (j0 + 1))) + 1 by omega, List.getElem?_cons_succ]
      · rw [if_neg h2, if_neg (by omega), Array.getElem?_setIfInBounds_ne (by omega)]
theorem set_all_size (off : Nat) : ∀ (vl : List Value) (j0 : Nat) (cells : Array Value), ((vl.zipIdx j0).foldl (fun cs x => cs.setIfInBounds (off + x.2) x.1) cells).size = cells.size
  | [], _, _ => rfl
  | v :: vl, j0, cells => by rw [List.zipIdx_cons, List.foldl_cons, set_all_size off vl (j0 + 1)]; simp
theorem fill_cons {place : Nat → Option (Nat × Nat)} {cells : Array Value} {i off n : Nat} {v : Value} {vl : List Value} {rest : List (Nat × Value)} (hp : place i = some (off, n)) (hv : v.cells = vl.toArray) (hn : vl.length = n) (hfit : off + n ≤ cells.size) :
    Instr.fill place cells ((i, v) :: rest) = Instr.fill place ((vl.zipIdx 0).foldl (fun cs x => cs.setIfInBounds (off + x.2) x.1) cells) rest := by
  have hc : ¬ ((decide (vl.toArray.size ≠ n) || decide (off + vl.toArray.size > cells.size)) = true) := by simp; omega
  rw [Instr.fill]
  simp only [hp, hv]
  rw [if_neg (by simpa using hc)]
  congr 1
  rw [← Array.foldl_toList]
  simp
section
variable {P : Program} {o : Oper} {a : Act} {Q : Exit → Act → World → Prop} {w0 : Base} {C : Ctx}
variable {N : Nat} {slots : List (Nat × PV)} {Γ : List (Nat × Fact P)} {xs : List PV} {r : PV} {up : List (Nat × Ent)}
def Pw (C : Ctx) (cells : Array Value) (cs : List PV) : Prop :=
  cells.size = cs.length ∧ (∀ p ∈ cs, p.one = true) ∧ ∀ (j : Nat) (v : Value) (p : PV), cells[j]? = some v → cs[j]? = some p → RV C v p
theorem val_ok {p : PV} (h : p.val = true) : ∀ q ∈ p.cells, q.one = true := by
  cases p <;> simp_all [PV.val, PV.cells]
theorem Pw.put {cells : Array Value} {cs : List PV} {off : Nat} {p : PV} {vl : List Value} (h : Pw C cells cs) (hfit : off + p.cells.length ≤ cs.length) (hone : ∀ q ∈ p.cells, q.one = true) (hl : vl.length = p.cells.length)
    (hv : ∀ (j : Nat) (u : Value) (q : PV), vl[j]? = some u → p.cells[j]? = some q → RV C u q) :
    Pw C ((vl.zipIdx 0).foldl (fun cs x => cs.setIfInBounds (off + x.2) x.1) cells) (splice cs off p.cells) := by
  obtain ⟨h1, h2, h3⟩ := h
  refine ⟨by rw [set_all_size, splice_length _ _ _ hfit, h1], fun q hq => ?_, fun j v q hj hq => ?_⟩
  · unfold splice at hq
    rcases List.mem_append.1 hq with hq | hq
    · rcases List.mem_append.1 hq with hq | hq
      · exact h2 q (List.mem_of_mem_take hq)
      · exact hone q hq
    · exact h2 q (List.mem_of_mem_drop hq)
  · rw [set_all] at hj
    rw [splice_get _ _ _ _ hfit] at hq
    by_cases hin : off + 0 ≤ j ∧ j < off + 0 + vl.length ∧ j < cells.size
    · rw [if_pos hin] at hj
      rw [if_neg (by omega), if_pos (by omega)] at hq
      exact hv _ v q hj (by simpa using hq)
    · rw [if_neg hin] at hj
      by_cases h4 : j < off
      · rw [if_pos h4] at hq; exact h3 j v q hj hq
      · have hjs : j < cells.size := (Array.getElem?_eq_some_iff.1 hj).1
        rw [if_neg h4, if_neg (by omega)] at hq; exact h3 j v q hj hq
theorem fill_sound {place : Nat → Option (Nat × Nat)} : ∀ (ps : List (Nat × Value)) (ls : List (Nat × Nat × PV)) (cells : Array Value) (cs cs' : List PV), ps.length = ls.length →
    (∀ (k : Nat) (i : Nat) (v : Value) (off n : Nat) (p : PV), ps[k]? = some (i, v) → ls[k]? = some (off, n, p) → place i = some (off, n) ∧ RV C v p) →
    Pw C cells cs → fillCells cs ls = some cs' → ∃ cells', Instr.fill place cells ps = some cells' ∧ Pw C cells' cs'
  | [], ls, cells, cs, cs', hl, _, hp, hf => by
    cases ls with
    | nil => simp [fillCells] at hf; subst hf; exact ⟨cells, rfl, hp⟩
    | cons => simp at hl
  | (i, v) :: ps, ls, cells, cs, cs', hl, hrel, hp, hf => by
    cases ls with
    | nil => simp at hl
    | cons x ls =>
      obtain ⟨off, n, p⟩ := x
      unfold fillCells at hf
      split at hf
      case isFalse => cases hf
      case isTrue hc =>
      obtain ⟨c1, c2, c3⟩ := hc
      obtain ⟨hpl, hr⟩ := hrel 0 i v off n p rfl rfl
      obtain ⟨vl, hvc, hvl, hvr, hvo⟩ := val_cells hr (val_ok c3)
      rw [fill_cons hpl hvc (by omega) (by rw [hp.1]; exact c2)]
      exact fill_sound ps ls _ _ _ (by simpa using hl) (fun k i v off n p h1 h2 => hrel (k + 1) i v off n p (by simpa using h1) (by simpa using h2)) (hp.put (by omega) (val_ok c3) hvl hvr) hf
theorem compParts_sound {fs : List Field} : ∀ {ps : List (Nat × Operand)} {ls : List (Nat × Nat × LX)}, compParts P fs ps = some ls → ps.length = ls.length ∧
    ∀ (k i : Nat) (x : Operand) (off n : Nat) (l : LX), ps[k]? = some (i, x) → ls[k]? = some (off, n, l) → compX x = some l ∧ ∃ f, fs[i]? = some f ∧ f.offset = off ∧ sizeT P f.type = some n
  | [], ls, h => by simp [compParts] at h; subst h; simp
  | (i, x) :: ps, ls, h => by
    unfold compParts at h
    split at h
    · rename_i f l qs h1 h2 h3
      split at h
      · rename_i n h4
        injection h with h; subst h
        obtain ⟨e1, e2⟩ := compParts_sound h3
        refine ⟨by simp [e1], fun k i' x' off n' l' hk hl => ?_⟩
        match k with
        | 0 =>
          simp at hk hl
          obtain ⟨rfl, rfl⟩ := hk
          obtain ⟨rfl, rfl, rfl⟩ := hl
          exact ⟨h2, f, h1, rfl, h4⟩
        | k + 1 => exact e2 k i' x' off n' l' (by simpa using hk) (by simpa using hl)
      · cases h
    · cases h
theorem lxs_get {slots : List (Nat × PV)} : ∀ {ls : List LX} {ps : List PV}, lxs slots ls = some ps → ls.length = ps.length ∧ ∀ (k : Nat) (l : LX) (p : PV), ls[k]? = some l → ps[k]? = some p → lx slots l = some p
  | [], ps, h => by simp [lxs] at h; subst h; simp
  | l :: ls, ps, h => by
    obtain ⟨p, qs, rfl, h1, h2⟩ := lxs_cons h
    obtain ⟨e1, e2⟩ := lxs_get h2
    refine ⟨by simp [e1], fun k l' p' hk hp => ?_⟩
    match k with
    | 0 => simp at hk hp; subst hk hp; exact h1
    | k + 1 => exact e2 k l' p' (by simpa using hk) (by simpa using hp)
theorem places_run (fs : List Field) (h : fs.all (fun f => (sizeT P f.type).isSome) = true) (w : World) :
    (fs.mapM fun f => do Pure.pure (f.offset, ← sizeOf f.type) : Sem (List (Nat × Nat))).run P w = .ok (fs.map fun f => (f.offset, (sizeT P f.type).getD 0)) w := by
  induction fs with
  | nil => simp
  | cons f fs ih =>
    simp only [List.all_cons, Bool.and_eq_true] at h
    obtain ⟨n, hn⟩ := Option.isSome_iff_exists.1 h.1
    have := ih h.2
    simp only [List.mapM_cons, Sem.run_bind, sizeT_run hn, Result.andThen_ok, Sem.run_pure, this, List.map_cons, hn, Option.getD_some]
theorem zero_pw {zv : Value} {z : List PV} (h : compCells zv.cells.toList = some z) : Pw C zv.cells z := by
  obtain ⟨e1, e2, e3⟩ := compCells_sound h C.w (imm C.mem C.hd C.I0)
  exact ⟨by simpa using e1, e2, fun j v p h1 h2 => .data _ _ (e3 j v p (by simpa using h1) h2)⟩
theorem sound_build {t : TypeId} {parts : Array (Nat × Operand)} {fs : Array Field} {z : List PV} {ls : List (Nat × Nat × LX)} (hs : SlotsOk C N slots a) (M : MemInv w0 C) (ho : o.op = .build t parts) (hu : P.underlying t = some (.struct fs)) (hz : zeroT P t = some z)
    (hall : fs.toList.all (fun f => (sizeT P f.type).isSome) = true) (hc : compParts P fs.toList parts.toList = some ls) (ha : lxs slots (ls.map (·.2.2)) = some xs)
    (hact : (LOp.build z ls).act Γ o.dst C.gen xs (look C.mem) = some (r, up)) : Goal P o a Q w0 C r up := by
  simp only [LOp.act] at hact
  split at hact
  case isFalse => cases hact
  case isTrue hlen =>
  simp only [Option.map_eq_some_iff, Prod.mk.injEq] at hact
  obtain ⟨cs, hf, rfl, rfl⟩ := hact
  obtain ⟨i, zv, h1, h2, h3⟩ := zeroT_some hz
  obtain ⟨e1, e2⟩ := compParts_sound hc
  obtain ⟨g1, g2⟩ := lxs_get ha
  have hpl : ∀ k : Nat, (fs.toList.map fun f => (f.offset, (sizeT P f.type).getD 0)).toArray[k]? = (fs.toList[k]?).map fun f => (f.offset, (sizeT P f.type).getD 0) := by intro k; simp
  obtain ⟨cells', hfill, hpw⟩ := fill_sound (C := C) (place := fun k => (fs.toList.map fun f => (f.offset, (sizeT P f.type).getD 0)).toArray[k]?) (parts.toList.map fun x => (x.1, a.eval x.2)) _ zv.cells z cs (by simp at e1 hlen ⊢; omega)
    (fun k i v off n p hk hl => by
      rw [List.getElem?_map, Option.map_eq_some_iff] at hk hl
      obtain ⟨⟨i', x⟩, hk, he⟩ := hk
      obtain ⟨⟨⟨off', n', l⟩, p'⟩, hl, he'⟩ := hl
      simp at he he'
      obtain ⟨rfl, rfl⟩ := he
      obtain ⟨rfl, rfl, rfl⟩ := he'
      rw [List.getElem?_zip_eq_some] at hl
      obtain ⟨hl1, hl2⟩ := hl
      obtain ⟨k1, f, k2, k3, k4⟩ := e2 k i' x off' n' l hk hl1
      refine ⟨by rw [hpl, k2]; simp [k3, k4], x_sound M hs k1 (g2 k l p' (by simp [hl1]) hl2)⟩) (zero_pw h3) hf
  refine Goal.pure M (v := .agg cells') ?_ (.mk_agg hpw.1 hpw.2.1 hpw.2.2)
  have hzr : (zeroValue t).run P C.w = .ok zv C.w := by simp [zeroValue, typeInfo, h1, h2]
  have hpr := places_run (P := P) fs.toList hall C.w
  have hpa : (fs.mapM fun f => do Pure.pure (f.offset, ← sizeOf f.type) : Sem (Array (Nat × Nat))).run P C.w = .ok (fs.toList.map fun f => (f.offset, (sizeT P f.type).getD 0)).toArray C.w := by
    rw [Array.mapM_eq_mapM_toList]
    simp only [Sem.run_map, hpr, Result.andThen_ok]
  have hfill' : Instr.fill (fun k => (fs.toList.map fun f => (f.offset, (sizeT P f.type).getD 0)).toArray[k]?) zv.cells ((parts.map fun (x : Nat × Operand) => (x.1, a.eval x.2)).toList) = some cells' := by
    rw [Array.toList_map]; exact hfill
  have hb : (Instr.build t (parts.map fun (x : Nat × Operand) => (x.1, a.eval x.2))).run P C.w = .ok (.agg cells') C.w := by
    simp only [Instr.build, Sem.run_bind, hzr, Result.andThen_ok, run_underlying hu, hpa]
    split
    · rename_i cells hce
      rw [hfill'] at hce; injection hce with hce; subst hce; rfl
    · rename_i hce
      exact absurd hfill' (hce _)
  simp only [execOp, ho]
  simp only [Sem.run_bind]
  exact (congrArg (fun r => Result.andThen r _) hb).trans rfl
end
end Go.PW
