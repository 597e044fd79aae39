/-
  PwOrder1: a region that draws its order may be run in the text's order, where operations that are not ordered do not meet.
-/
import Derived.Test.YtjmmlddioeehbaaGreatDoorPwCa
namespace Go.PW
open Go.RowKit
section
variable {P : Program} {Γ : List (Nat × Fact P)}
theorem liveF_congr {f g : Look} {nm ver : Nat} (h : f nm = g nm) : liveF f nm ver = liveF g nm ver := by simp [liveF, h]
theorem freshF_congr {f g : Look} {d : Nat} (h : f d = g d) : freshF f d = freshF g d := by simp [freshF, h]
theorem nameOf_1 {p : PV} {n : Nat} (h : n ∈ nameOf1 p) : n ∈ nameOf p := by
  cases p <;> first | exact h | simp [nameOf1] at h
theorem asList_congr {f g : Look} {p : PV} (h : ∀ n ∈ nameOf1 p, f n = g n) : asList f p = asList g p := by
  cases p <;> simp only [asList] <;> (try rw [liveF_congr (h _ (by simp [nameOf1]))])
theorem argD_congr {f g : Look} {p : PV} (h : ∀ n ∈ nameOf1 p, f n = g n) : argD f p = argD g p := by
  cases p <;> simp only [argD] <;> (try rw [liveF_congr (h _ (by simp [nameOf1]))])
theorem argsD_congr {f g : Look} : ∀ {ps : List PV}, (∀ n ∈ ps.flatMap nameOf1, f n = g n) → argsD f ps = argsD g ps
  | [], _ => rfl
  | p :: ps, h => by
    simp only [List.flatMap_cons, List.mem_append] at h
    simp only [argsD, argD_congr (fun n hn => h n (.inl hn)), argsD_congr (fun n hn => h n (.inr hn))]
theorem srcRows_congr {f g : Look} {sz : Nat} {p : PV} (h : ∀ n ∈ nameOf1 p, f n = g n) : srcRows f sz p = srcRows g sz p := by
  cases p <;> simp only [srcRows] <;> exact asList_congr h
theorem srcData_congr {f g : Look} {p : PV} (h : ∀ n ∈ nameOf1 p, f n = g n) : srcData f p = srcData g p := by
  cases p <;> simp only [srcData] <;> (try rw [liveF_congr (h _ (by simp [nameOf1]))])
theorem mutOk_congr {u : Mut} {f g : Look} {gen : Nat} {xs args : List PV} {res : PV} (h : ∀ n ∈ u.foot, f n = g n) (ok : MutOk f gen xs args res u) : MutOk g gen xs args res u := by
  have h1 : ∀ x ∈ u.mem, f (u.τ x.1).1 = g (u.τ x.1).1 := fun x hx => h _ (List.mem_append_left _ (List.mem_map_of_mem (f := fun x => (u.τ x.1).1) hx))
  have h2 : ∀ x ∈ u.mem', f (u.ν x.1) = g (u.ν x.1) := fun x hx => h _ (List.mem_append_right _ (List.mem_map_of_mem (f := fun x => u.ν x.1) hx))
  refine ⟨ok.len, ok.args, ok.nd, ok.nd', ok.inj, ok.inj', fun x hx => ?_, fun x hx => ?_, ok.res⟩
  · have G := ok.given x hx
    refine ⟨G.hdr, ?_⟩
    rw [← liveF_congr (h1 x hx)]
    exact G.there
  · have G := ok.left x hx
    refine ⟨G.hdr, G.kept, fun hn => ?_, G.cells⟩
    rw [← freshF_congr (h2 x hx)]
    exact G.fresh hn
theorem fm_congr {α β : Type} {f g : α → Option β} : ∀ {l : List α}, (∀ x ∈ l, f x = g x) → l.filterMap f = l.filterMap g
  | [], _ => rfl
  | x :: l, h => by
    rw [List.filterMap_cons, List.filterMap_cons, h x (by simp), fm_congr fun y hy => h y (List.mem_cons_of_mem _ hy)]
theorem mutUp_congr {u : Mut} {f g : Look} {gen : Nat} (h : ∀ n ∈ u.foot, f n = g n) : u.up f gen = u.up g gen := by
  have h1 : ∀ x ∈ u.mem, f (u.τ x.1).1 = g (u.τ x.1).1 := fun x hx => h _ (List.mem_append_left _ (List.mem_map_of_mem (f := fun x => (u.τ x.1).1) hx))
  unfold Mut.up Mut.gone
  congr 1
  · refine List.map_congr_left fun x _ => ?_
    unfold Mut.ent
    by_cases hk : u.mem.any (fun y => y.1 == x.1) = true
    · have hk' := hk
      rw [List.any_eq_true] at hk'
      obtain ⟨z, hz, hzx⟩ := hk'
      simp only [beq_iff_eq] at hzx
      have := h1 z hz
      rw [hzx] at this
      simp only [hk, if_true, this]
    · simp only [if_neg hk]
  · exact fm_congr fun x hx => by rw [h1 x hx]
theorem callD_congr {dst : Option Nat} {gen : Nat} {fn : FuncId} {args : List PV} {f g : Look} (h : ∀ n ∈ dst.toList ++ (foot Γ dst ++ args.flatMap nameOf1), f n = g n) :
    callD P Γ dst gen fn args f = callD P Γ dst gen fn args g := by
  simp only [List.mem_append] at h
  unfold callD
  rw [argsD_congr (fun n hn => h n (.inr (.inr hn)))]
  cases dst with
  | none => rfl
  | some d =>
    simp only
    cases hc : look Γ d with
    | none => rfl
    | some c =>
      simp only
      cases hu : c.chg with
      | none => rfl
      | some u =>
        have hf : ∀ n ∈ u.foot, f n = g n := fun n hn => h n (.inr (.inl (by simpa [foot, hc, hu] using hn)))
        have he : MutOk f gen args c.args c.res u ↔ MutOk g gen args c.args c.res u := ⟨mutOk_congr hf, mutOk_congr fun n hn => (hf n hn).symm⟩
        simp only [mutUp_congr hf]
        by_cases h1 : MutOk g gen args c.args c.res u
        · simp only [h1, he.2 h1]
        · have h2 : ¬ MutOk f gen args c.args c.res u := fun h => h1 (he.1 h)
          simp only [h1, h2]
theorem names_1 {ps : List PV} {n : Nat} (h : n ∈ ps.flatMap nameOf1) : n ∈ ps.flatMap nameOf := by
  rw [List.mem_flatMap] at h ⊢
  obtain ⟨p, h1, h2⟩ := h
  exact ⟨p, h1, nameOf_1 h2⟩
theorem act_congr {o : LOp} {dst : Option Nat} {gen : Nat} {xs : List PV} {f g : Look} (h : ∀ n ∈ o.reads (foot Γ dst) dst xs, f n = g n) : o.act Γ dst gen xs f = o.act Γ dst gen xs g := by
  have fr : ∀ d, dst = some d → dst.toList ⊆ o.reads (foot Γ dst) dst xs → freshF f d = freshF g d := by
    rintro d rfl hsub
    exact freshF_congr (h d (hsub (by simp)))
  cases o with
  | len x =>
    match xs with
    | [p] => cases p <;> simp only [LOp.act] <;> rw [asList_congr (fun n hn => h n (by simpa [LOp.reads] using nameOf_1 hn))]
    | [] => rfl
    | _ :: _ :: _ => simp [LOp.act]
  | idx sz x i =>
    match xs with
    | [p, q] => cases p <;> cases q <;> simp only [LOp.act] <;> rw [liveF_congr (h _ (by simp [LOp.reads, nameOf, nameOf1]))]
    | [] => rfl
    | [_] => simp [LOp.act]
    | _ :: _ :: _ :: _ => simp [LOp.act]
  | idxA n0 sz x i =>
    match xs with
    | [p, q] => cases p <;> cases q <;> simp only [LOp.act] <;> rw [liveF_congr (h _ (by simp [LOp.reads, nameOf, nameOf1]))]
    | [] => rfl
    | [_] => simp [LOp.act]
    | _ :: _ :: _ :: _ => simp [LOp.act]
  | fieldAddr off x =>
    match xs with
    | [p] => cases p <;> simp only [LOp.act] <;> rw [liveF_congr (h _ (by simp [LOp.reads, nameOf, nameOf1]))]
    | [] => rfl
    | _ :: _ :: _ => simp [LOp.act]
  | nilCheck x =>
    match xs with
    | [p] => cases p <;> simp only [LOp.act] <;> rw [liveF_congr (h _ (by simp [LOp.reads, nameOf, nameOf1]))]
    | [] => rfl
    | _ :: _ :: _ => simp [LOp.act]
  | load n ag x =>
    match xs with
    | [p] => cases p <;> simp only [LOp.act] <;> rw [liveF_congr (h _ (by simp [LOp.reads, nameOf, nameOf1]))]
    | [] => rfl
    | _ :: _ :: _ => simp [LOp.act]
  | store n x v =>
    match xs with
    | [p, q] => cases p <;> simp only [LOp.act] <;> rw [liveF_congr (h _ (by simp [LOp.reads, nameOf, nameOf1]))]
    | [] => rfl
    | [_] => simp [LOp.act]
    | _ :: _ :: _ :: _ => simp [LOp.act]
  | bad => rfl
  | copy sz x y =>
    have hc : ∀ (nm ver lo : Nat) (hi : Option Nat) (q : PV), f nm = g nm → (∀ n ∈ nameOf1 q, f n = g n) → copyAt f sz nm ver lo hi q = copyAt g sz nm ver lo hi q := fun nm ver lo hi q h1 h2 => by
      unfold copyAt
      rw [liveF_congr h1, srcRows_congr h2, srcData_congr h2]
    match xs with
    | [p, q] =>
      cases p <;> simp only [LOp.act]
      all_goals exact hc _ _ _ _ _ (h _ (by simp [LOp.reads, nameOf, nameOf1])) (fun n hn => h n (by simp only [LOp.reads, List.flatMap_cons, List.mem_append]; exact .inr (.inl (nameOf_1 hn))))
    | [] => rfl
    | [p] => cases p <;> rfl
    | p :: _ :: _ :: _ => cases p <;> rfl
  | isnilI neg x =>
    match xs with
    | [] => rfl
    | [p] => cases p <;> rfl
    | p :: _ :: _ => cases p <;> first
        | rfl
        | simp [LOp.act]
  | isnil neg x =>
    match xs with
    | [] => rfl
    | [p] =>
      cases p <;> first
        | rfl
        | (rename_i sz es; cases es <;> rfl)
    | p :: _ :: _ => cases p <;> first
        | rfl
        | simp [LOp.act]
  | clear sz z x =>
    have hc : ∀ (nm ver lo : Nat) (hi : Option Nat), f nm = g nm → clearAt f sz nm ver lo hi z = clearAt g sz nm ver lo hi z := fun nm ver lo hi h1 => by
      unfold clearAt
      rw [liveF_congr h1]
    match xs with
    | [p] =>
      cases p <;> simp only [LOp.act]
      all_goals exact hc _ _ _ _ (h _ (by simp [LOp.reads, nameOf, nameOf1]))
    | [] => rfl
    | p :: _ :: _ => cases p <;> rfl
  | slice sz x lo hi =>
    match xs with
    | p :: r => cases p <;> simp only [LOp.act] <;> rw [liveF_congr (h _ (by simp [LOp.reads, nameOf, nameOf1]))]
    | [] => rfl
  | alloc e n z =>
    cases dst with
    | none => match xs with
      | [] => rfl
      | _ :: _ => rfl
    | some d => match xs with
      | [] => simp only [LOp.act, fr d rfl (by simp [LOp.reads])]
      | _ :: _ => rfl
  | box e n x =>
    cases dst with
    | none => match xs with
      | [] => rfl
      | [_] => rfl
      | _ :: _ :: _ => rfl
    | some d => match xs with
      | [] => rfl
      | [_] => simp only [LOp.act, fr d rfl (by simp [LOp.reads])]
      | _ :: _ :: _ => rfl
  | mkSlice e sz n z ps =>
    cases dst with
    | none => rfl
    | some d => simp only [LOp.act, fr d rfl (by simp [LOp.reads])]
  | make e sz by_ z l =>
    cases dst with
    | none => match xs with
      | [] => rfl
      | [p] => cases p <;> first | rfl | (rename_i k n; cases k <;> rfl)
      | _ :: _ :: _ => simp [LOp.act]
    | some d => match xs with
      | [] => rfl
      | [p] => cases p <;> first | rfl | (rename_i k n; cases k <;> first | rfl | simp only [LOp.act, fr d rfl (by simp [LOp.reads])])
      | _ :: _ :: _ => simp [LOp.act]
  | append e sz by_ s x =>
    match xs with
    | [p, q] =>
      cases dst with
      | none => rfl
      | some d =>
        have hq : ∀ n ∈ nameOf1 q, f n = g n := fun n hn => h n (by simp [LOp.reads]; exact .inr (.inr (nameOf_1 hn)))
        cases p <;> simp only [LOp.act, srcRows_congr hq, srcData_congr hq, fr d rfl (by simp [LOp.reads])] <;> (try rw [liveF_congr (h _ (by simp [LOp.reads, nameOf, nameOf1]))])
    | [] => rfl
    | [_] => simp [LOp.act]
    | _ :: _ :: _ :: _ => simp [LOp.act]
  | call fn as =>
    simp only [LOp.act]
    refine callD_congr fun n hn => h n ?_
    simp only [LOp.reads, List.mem_append] at hn ⊢
    exact hn.imp id (Or.imp id names_1)
  | callv x as =>
    match xs with
    | [] => rfl
    | p :: r =>
      cases p with
      | fn fn a b =>
        simp only [LOp.act]
        rw [callD_congr (f := f) (g := g) fun n hn => h n ?_]
        simp only [LOp.reads, List.mem_append, List.flatMap_cons, nameOf, List.flatMap_append] at hn ⊢
        rcases hn with hn | hn | (hn | hn) | hn
        · exact .inl hn
        · exact .inr (.inl hn)
        · exact .inr (.inr (.inl (.inl hn)))
        · exact .inr (.inr (.inr (names_1 hn)))
        · exact .inr (.inr (.inl (.inr hn)))
      | _ => simp only [LOp.act]
  | sslice x lo hi =>
    match xs with
    | [] => rfl
    | p :: r => cases p <;> rfl
  | build => rfl
  | mkfn => rfl
  | un op x =>
    cases op <;> (
      rcases xs with _ | ⟨p, _ | ⟨q, r⟩⟩
      all_goals first
        | rfl
        | (cases p <;> rfl))
  | _ =>
    rcases xs with _ | ⟨p, _ | ⟨q, _ | ⟨s, _ | ⟨t, r⟩⟩⟩⟩
    all_goals first
      | rfl
      | (cases p <;> first
          | rfl
          | (cases q <;> rfl))
end
end Go.PW
namespace Go.PW
open Go.RowKit
section
variable {P : Program} {Γ : List (Nat × Fact P)}
def LOp.pure : LOp → Bool
  | .mv _ | .pick .. | .bin .. | .eqb .. | .eqs .. | .mx .. | .mn .. | .conv .. | .un .. | .field .. | .extract .. | .slen _ | .sidx .. | .vidx .. | .toBytes .. | .sslice .. | .build .. | .mkfn .. | .isnilI .. => true
  | _ => false
theorem map_nil {α : Type} {x : Option α} {p : α} {up : List (Nat × Ent)} (h : x.map (fun y => (y, ([] : List (Nat × Ent)))) = some (p, up)) : up = [] := by
  cases x <;> simp at h
  exact h.2
theorem act_pure {o : LOp} {dst : Option Nat} {gen : Nat} {xs : List PV} {f : Look} {p : PV} {up : List (Nat × Ent)} (ho : o.pure = true) (h : o.act Γ dst gen xs f = some (p, up)) : up = [] ∧ ∀ ft, o.reads ft dst xs = [] := by
  refine ⟨?_, fun ft => by cases o <;> first | rfl | simp [LOp.pure] at ho⟩
  cases o <;> simp only [LOp.pure, Bool.false_eq_true] at ho
  case build z ps =>
    simp only [LOp.act] at h
    split at h
    · simp only [Option.map_eq_some_iff, Prod.mk.injEq] at h
      obtain ⟨_, _, _, rfl⟩ := h; rfl
    · cases h
  case isnilI ng x =>
    match xs with
    | [] => simp [LOp.act] at h
    | [p] =>
      cases p <;> simp only [LOp.act, reduceCtorEq, Option.some.injEq, Prod.mk.injEq] at h
      exact h.2.symm
    | p :: _ :: _ => cases p <;> simp [LOp.act] at h
  case mkfn => simp only [LOp.act, Option.some.injEq, Prod.mk.injEq] at h; exact h.2.symm
  case sslice x lo hi =>
    match xs with
    | [] => simp [LOp.act] at h
    | p :: r =>
      cases p <;> simp only [LOp.act, reduceCtorEq] at h
      split at h
      · split at h
        · simp only [Option.some.injEq, Prod.mk.injEq] at h; exact h.2.symm
        · cases h
      · cases h
  case un op x =>
    cases op <;> rcases xs with _ | ⟨p, _ | ⟨q, r⟩⟩ <;> (try simp only [LOp.act, reduceCtorEq] at h) <;> cases p <;> simp only [reduceCtorEq, Option.some.injEq, Prod.mk.injEq] at h <;> exact h.2.symm
  all_goals
    rcases xs with _ | ⟨p, _ | ⟨q, _ | ⟨s, _ | ⟨t, r⟩⟩⟩⟩
    all_goals try (simp only [LOp.act, reduceCtorEq] at h; done)
    all_goals try (simp only [LOp.act, Option.some.injEq, Prod.mk.injEq] at h; exact h.2.symm)
    all_goals try (simp only [LOp.act] at h; exact map_nil h)
  · cases p <;> simp only [LOp.act, reduceCtorEq, Option.some.injEq, Prod.mk.injEq] at h
    exact h.2.symm
  · cases p <;> (try simp only [LOp.act, reduceCtorEq] at h)
    cases q <;> simp only [reduceCtorEq, Option.some.injEq, Prod.mk.injEq] at h
    exact h.2.symm
  · cases p <;> (try simp only [LOp.act, reduceCtorEq] at h)
    cases q <;> (try simp only [reduceCtorEq] at h)
    simp only [Option.map_eq_some_iff, Prod.mk.injEq] at h
    obtain ⟨_, _, _, rfl⟩ := h; rfl
  · cases p <;> (try simp only [LOp.act, reduceCtorEq] at h)
    cases q <;> (try simp only [reduceCtorEq] at h)
    split at h
    · simp only [Option.some.injEq, Prod.mk.injEq] at h; exact h.2.symm
    · cases h
  · cases p <;> (try simp only [LOp.act, reduceCtorEq] at h)
    cases q <;> (try simp only [reduceCtorEq] at h)
    split at h
    · simp only [Option.some.injEq, Prod.mk.injEq] at h; exact h.2.symm
    · cases h
  · cases p <;> simp only [LOp.act, reduceCtorEq, Option.some.injEq, Prod.mk.injEq] at h
    exact h.2.symm
  · cases p <;> (try simp only [LOp.act, reduceCtorEq] at h)
    exact map_nil h
  · cases p <;> (try simp only [LOp.act, reduceCtorEq] at h)
    simp only [Option.map_eq_some_iff, Prod.mk.injEq] at h
    obtain ⟨_, _, _, rfl⟩ := h; rfl
  · cases p <;> simp only [LOp.act, reduceCtorEq, Option.some.injEq, Prod.mk.injEq] at h
    exact h.2.symm
  · cases p <;> (try simp only [LOp.act, reduceCtorEq] at h)
    cases q <;> (try simp only [reduceCtorEq] at h)
    split at h
    · split at h
      · simp only [Option.some.injEq, Prod.mk.injEq] at h; exact h.2.symm
      · cases h
    · cases h
  · cases p <;> (try simp only [LOp.act, reduceCtorEq] at h)
    cases q <;> (try simp only [reduceCtorEq] at h)
    split at h
    · exact map_nil h
    · cases h
  · cases p <;> simp only [LOp.act, reduceCtorEq, Option.some.injEq, Prod.mk.injEq] at h
    exact h.2.symm
end
end Go.PW
namespace Go.PW
open Go.RowKit
noncomputable section
section
variable {P : Program} {Γ : List (Nat × Fact P)}
abbrev Slots := Nat → Option PV
def lxF (sl : Slots) : LX → Option PV
  | .t n => sl n
  | .c p => some p
def lxsF (sl : Slots) : List LX → Option (List PV)
  | [] => some []
  | x :: r => match lxF sl x, lxsF sl r with
    | some p, some ps => some (p :: ps)
    | _, _ => none
theorem lxsF_look (slots : List (Nat × PV)) : ∀ ls, lxsF (look slots) ls = lxs slots ls
  | [] => rfl
  | x :: r => by
    have : lxF (look slots) x = lx slots x := by cases x <;> rfl
    simp only [lxsF, lxs, this, lxsF_look slots r]
    rfl
def core (Γ : List (Nat × Fact P)) (o : LOper) (sl : Slots) (m : Look) (gen : Nat) : Option (PV × List (Nat × Ent) × List Nat) :=
  let go : Option (PV × List (Nat × Ent) × List Nat) := match lxsF sl o.op.args with
    | none => none
    | some xs => (o.op.act Γ o.dst gen xs m).map fun r => (r.1, r.2, o.op.reads (foot Γ o.dst) o.dst xs)
  match o.guard with
  | none => go
  | some (g, b) => match sl g with
    | some (.bool c) => if c = b then go else some (.tup [], [], [])
    | some (.tup []) => some (.tup [], [], [])
    | _ => none
theorem step_core (o : LOper) (st : St) : step Γ o st = (core Γ o (look st.slots) (look st.mem) st.gen).map fun r => { st with slots := put st.slots o.dst r.1, mem := r.2.1 ++ st.mem } := by
  have hgo : (match lxs st.slots o.op.args with
      | none => none
      | some xs => (o.op.act Γ o.dst st.gen xs (look st.mem)).map fun (r : PV × List (Nat × Ent)) => { st with slots := put st.slots o.dst r.1, mem := r.2 ++ st.mem }) =
      (match lxsF (look st.slots) o.op.args with
        | none => none
        | some xs => (o.op.act Γ o.dst st.gen xs (look st.mem)).map fun (r : PV × List (Nat × Ent)) => (r.1, r.2, o.op.reads (foot Γ o.dst) o.dst xs)).map fun (r : PV × List (Nat × Ent) × List Nat) => { st with slots := put st.slots o.dst r.1, mem := r.2.1 ++ st.mem } := by
    rw [lxsF_look]
    cases lxs st.slots o.op.args with
    | none => rfl
    | some xs => simp only [Option.map_map]; rfl
  unfold step core
  cases hg : o.guard with
  | none => exact hgo
  | some gb =>
    obtain ⟨g, b⟩ := gb
    simp only
    cases hs : look st.slots g with
    | none => rfl
    | some p =>
      cases p with
      | bool c =>
        simp only
        by_cases hcb : c = b
        · rw [if_pos hcb, if_pos hcb]; exact hgo
        · rw [if_neg hcb, if_neg hcb]; rfl
      | tup l =>
        cases l with
        | nil => rfl
        | cons => rfl
      | _ => rfl
def lxSlot : LX → List Nat
  | .t n => [n]
  | .c _ => []
def LOper.looks (o : LOper) : List Nat := o.op.args.flatMap lxSlot ++ (match o.guard with | some (g, _) => [g] | none => [])
def putF (sl : Slots) (dst : Option Nat) (p : PV) : Slots := match dst with
  | some d => fun n => if d = n then some p else sl n
  | none => sl
def putM (m : Look) (up : List (Nat × Ent)) : Look := fun n => match look up n with
  | some e => some e
  | none => m n
theorem lxsF_congr {sl sl' : Slots} : ∀ {ls : List LX}, (∀ n ∈ ls.flatMap lxSlot, sl n = sl' n) → lxsF sl ls = lxsF sl' ls
  | [], _ => rfl
  | x :: r, h => by
    simp only [List.flatMap_cons, List.mem_append] at h
    have : lxF sl x = lxF sl' x := by
      cases x with
      | t n => exact h n (.inl (by simp [lxSlot]))
      | c p => rfl
    simp only [lxsF, this, lxsF_congr (fun n hn => h n (.inr hn))]
theorem core_slots {o : LOper} {sl sl' : Slots} {m : Look} {gen : Nat} (h : ∀ n ∈ o.looks, sl n = sl' n) : core Γ o sl m gen = core Γ o sl' m gen := by
  simp only [LOper.looks, List.mem_append] at h
  unfold core
  rw [lxsF_congr (fun n hn => h n (.inl hn))]
  cases hg : o.guard with
  | none => rfl
  | some gb =>
    obtain ⟨g, b⟩ := gb
    simp only [hg] at h
    simp only [h g (.inr (by simp))]
theorem core_mem {o : LOper} {sl : Slots} {m m' : Look} {gen : Nat} {p : PV} {up : List (Nat × Ent)} {R : List Nat} (hc : core Γ o sl m gen = some (p, up, R)) (h : ∀ n ∈ R, m n = m' n) : core Γ o sl m' gen = some (p, up, R) := by
  have go : (match lxsF sl o.op.args with
      | none => none
      | some xs => (o.op.act Γ o.dst gen xs m).map fun r => (r.1, r.2, o.op.reads (foot Γ o.dst) o.dst xs)) = some (p, up, R) → (match lxsF sl o.op.args with
      | none => none
      | some xs => (o.op.act Γ o.dst gen xs m').map fun r => (r.1, r.2, o.op.reads (foot Γ o.dst) o.dst xs)) = some (p, up, R) := by
    intro hgo
    cases hx : lxsF sl o.op.args with
    | none => simp [hx] at hgo
    | some xs =>
      simp only [hx] at hgo ⊢
      have hR : o.op.reads (foot Γ o.dst) o.dst xs = R := by
        simp only [Option.map_eq_some_iff, Prod.mk.injEq] at hgo
        obtain ⟨r, _, _, _, h3⟩ := hgo
        exact h3
      rw [← act_congr (f := m) (g := m') (fun n hn => h n (by rw [← hR]; exact hn))]
      exact hgo
  unfold core at hc ⊢
  cases hg : o.guard with
  | none => simp only [hg] at hc ⊢; exact go hc
  | some gb =>
    obtain ⟨g, b⟩ := gb
    simp only [hg] at hc ⊢
    cases hs : sl g with
    | none => simp [hs] at hc
    | some q =>
      simp only [hs] at hc ⊢
      cases q with
      | bool c =>
        simp only at hc ⊢
        by_cases hcb : c = b
        · rw [if_pos hcb] at hc ⊢; exact go hc
        · rw [if_neg hcb] at hc ⊢; exact hc
      | tup l =>
        cases l with
        | nil => exact hc
        | cons => simp at hc
      | _ => simp at hc
abbrev Out := PV × List (Nat × Ent) × List Nat
structure Apart (x y : LOper) (ox oy : Out) : Prop where
  xy : ∀ d, x.dst = some d → d ∉ y.looks
  yx : ∀ d, y.dst = some d → d ∉ x.looks
  dd : ∀ d, x.dst = some d → y.dst ≠ some d
  mxy : ∀ e ∈ ox.2.1, e.1 ∉ oy.2.2
  myx : ∀ e ∈ oy.2.1, e.1 ∉ ox.2.2
  mm : ∀ e ∈ ox.2.1, ∀ e' ∈ oy.2.1, e.1 ≠ e'.1
theorem look_mem {α : Type} : ∀ {l : List (Nat × α)} {n : Nat} {e : α}, look l n = some e → (n, e) ∈ l
  | (k, v) :: r, n, e, h => by
    unfold look at h
    split at h
    · rename_i hk; injection h with h; subst hk h; simp
    · exact List.mem_cons_of_mem _ (look_mem h)
theorem putM_off {m : Look} {up : List (Nat × Ent)} {n : Nat} (h : ∀ e ∈ up, e.1 ≠ n) : putM m up n = m n := by
  unfold putM
  split
  · rename_i e he; exact absurd rfl (h _ (look_mem he))
  · rfl
theorem swap_core {x y : LOper} {ox oy : Out} {sl : Slots} {m : Look} {gen : Nat} (A : Apart x y ox oy) (h1 : core Γ x sl m gen = some ox) (h2 : core Γ y (putF sl x.dst ox.1) (putM m ox.2.1) gen = some oy) :
    core Γ y sl m gen = some oy ∧ core Γ x (putF sl y.dst oy.1) (putM m oy.2.1) gen = some ox ∧
      putF (putF sl x.dst ox.1) y.dst oy.1 = putF (putF sl y.dst oy.1) x.dst ox.1 ∧ putM (putM m ox.2.1) oy.2.1 = putM (putM m oy.2.1) ox.2.1 := by
  obtain ⟨px, ux, rx⟩ := ox
  obtain ⟨py, uy, ry⟩ := oy
  have hsl : ∀ (z u : LOper) (p : PV), (∀ d, z.dst = some d → d ∉ u.looks) → ∀ n ∈ u.looks, putF sl z.dst p n = sl n := by
    intro z u p hz n hn
    unfold putF
    cases hd : z.dst with
    | none => rfl
    | some d =>
      simp only
      rw [if_neg]
      intro e; subst e; exact hz d hd hn
  have e1 : core Γ y sl m gen = some (py, uy, ry) := by
    have h3 := core_mem h2 (m' := m) fun n hn => putM_off fun e he heq => A.mxy e he (heq ▸ hn)
    rwa [core_slots (sl' := sl) (hsl x y px A.xy)] at h3
  refine ⟨e1, ?_, ?_, ?_⟩
  · have h3 := core_mem h1 (m' := putM m uy) fun n hn => (putM_off fun e he heq => A.myx e he (heq ▸ hn)).symm
    rwa [core_slots (sl' := putF sl y.dst py) (fun n hn => (hsl y x py A.yx n hn).symm)] at h3
  · funext n
    unfold putF
    cases hx : x.dst with
    | none => cases hy : y.dst <;> rfl
    | some d =>
      cases hy : y.dst with
      | none => rfl
      | some d' =>
        have : d ≠ d' := fun e => A.dd d hx (by rw [hy, e])
        simp only
        by_cases h3 : d' = n
        · rw [if_pos h3, if_neg (by omega), if_pos h3]
        · rw [if_neg h3, if_neg h3]
  · funext n
    unfold putM
    simp only
    cases hx : look ux n with
    | none => cases hy : look uy n <;> simp
    | some e =>
      cases hy : look uy n with
      | none => simp
      | some e' => exact absurd rfl (A.mm (n, e) (look_mem hx) (n, e') (look_mem hy))
def RunAll (Γ : List (Nat × Fact P)) (los : List LOper) (outs : Nat → Out) (gen : Nat) : List Nat → Slots → Look → Prop
  | [], _, _ => True
  | i :: r, sl, m => ∃ o, los[i]? = some o ∧ core Γ o sl m gen = some (outs i) ∧ RunAll Γ los outs gen r (putF sl o.dst (outs i).1) (putM m (outs i).2.1)
def endS (los : List LOper) (outs : Nat → Out) : List Nat → Slots → Slots
  | [], sl => sl
  | i :: r, sl => endS los outs r (match los[i]? with | some o => putF sl o.dst (outs i).1 | none => sl)
def endM (outs : Nat → Out) : List Nat → Look → Look
  | [], m => m
  | i :: r, m => endM outs r (putM m (outs i).2.1)
theorem to_front {los : List LOper} {outs : Nat → Out} {gen i : Nat} {oi : LOper} (hi : los[i]? = some oi) : ∀ (L1 L2 : List Nat) (sl : Slots) (m : Look),
    (∀ j ∈ L1, ∀ oj, los[j]? = some oj → Apart oj oi (outs j) (outs i)) → RunAll Γ los outs gen (L1 ++ i :: L2) sl m →
    RunAll Γ los outs gen (i :: (L1 ++ L2)) sl m ∧ endS los outs (L1 ++ i :: L2) sl = endS los outs (i :: (L1 ++ L2)) sl ∧ endM outs (L1 ++ i :: L2) m = endM outs (i :: (L1 ++ L2)) m
  | [], L2, sl, m, _, h => ⟨h, rfl, rfl⟩
  | j :: L1, L2, sl, m, hA, h => by
    obtain ⟨oj, hj, hcj, hrest⟩ := h
    obtain ⟨⟨oi', hi', hci, hrest'⟩, he1, he2⟩ := to_front hi L1 L2 _ _ (fun k hk => hA k (List.mem_cons_of_mem _ hk)) hrest
    rw [hi] at hi'; injection hi' with hi'; subst hi'
    obtain ⟨s1, s2, s3, s4⟩ := swap_core (hA j (by simp) oj hj) hcj hci
    refine ⟨⟨oi, hi, s1, oj, hj, s2, by rw [← s3, ← s4]; exact hrest'⟩, ?_, ?_⟩
    · simp only [List.cons_append, endS, hj, hi] at he1 ⊢
      rw [he1, s3]
    · simp only [List.cons_append, endM] at he2 ⊢
      rw [he2, s4]
end
end
end Go.PW
