/-
  PwOrder1: a region that draws its order may be run in the text's order, where operations that are not ordered do not meet.
-/
import Derived.Test.YtpcmhhbocifbcaaGreatDoorPwRun
namespace Go.PW
open Go.RowKit
section
variable {P : Program} {Γ : List (Nat × Fact P)}
theorem liveF_congr {f g : Look} {nm ver : Nat} (h : f nm = g nm) : liveF f nm ver = liveF g nm ver := by simp [liveF, h]
theorem freshF_congr {f g : Look} {d : Nat} (h : f d = g d) : freshF f d = freshF g d := by simp [freshF, h]
theorem nameOf_1 {p : PV} {n : Nat} (h : n ∈ nameOf1 p) : n ∈ nameOf p := by
  cases p <;> first | exact h | simp [nameOf1] at h
theorem asList_congr {f g : Look} {p : PV} (h : ∀ n ∈ nameOf1 p, f n = g n) : asList f p = asList g p := by
  cases p <;> simp only [asList] <;> (try rw [liveF_congr (h _ (by simp [nameOf1]))])
theorem argD_congr {f g : Look} {p : PV} (h : ∀ n ∈ nameOf1 p, f n = g n) : argD f p = argD g p := by
  cases p <;> simp only [argD] <;> (try rw [liveF_congr (h _ (by simp [nameOf1]))])
theorem argsD_congr {f g : Look} : ∀ {ps : List PV}, (∀ n ∈ ps.flatMap nameOf1, f n = g n) → argsD f ps = argsD g ps
  | [], _ => rfl
  | p :: ps, h => by
    simp only [List.flatMap_cons, List.mem_append] at h
    simp only [argsD, argD_congr (fun n hn => h n (.inl hn)), argsD_congr (fun n hn => h n (.inr hn))]
theorem srcRows_congr {f g : Look} {sz : Nat} {p : PV} (h : ∀ n ∈ nameOf1 p, f n = g n) : srcRows f sz p = srcRows g sz p := by
  cases p <;> simp only [srcRows] <;> exact asList_congr h
theorem srcData_congr {f g : Look} {p : PV} (h : ∀ n ∈ nameOf1 p, f n = g n) : srcData f p = srcData g p := by
  cases p <;> simp only [srcData] <;> (try rw [liveF_congr (h _ (by simp [nameOf1]))])
theorem mutOk_congr {u : Mut} {f g : Look} {gen : Nat} {xs args : List PV} {res : PV} (h : ∀ n ∈ u.foot, f n = g n) (ok : MutOk f gen xs args res u) : MutOk g gen xs args res u := by
  have h1 : ∀ x ∈ u.mem, f (u.τ x.1).1 = g (u.τ x.1).1 := fun x hx => h _ (List.mem_append_left _ (List.mem_map_of_mem (f := fun x => (u.τ x.1).1) hx))
  have h2 : ∀ x ∈ u.mem', f (u.ν x.1) = g (u.ν x.1) := fun x hx => h _ (List.mem_append_right _ (List.mem_map_of_mem (f := fun x => u.ν x.1) hx))
  refine ⟨ok.len, ok.args, ok.nd, ok.nd', ok.inj, ok.inj', fun x hx => ?_, fun x hx => ?_, ok.res⟩
  · have G := ok.given x hx
    refine ⟨G.hdr, ?_⟩
    rw [← liveF_congr (h1 x hx)]
    exact G.there
  · have G := ok.left x hx
    refine ⟨G.hdr, G.kept, fun hn => ?_, G.cells⟩
    rw [← freshF_congr (h2 x hx)]
    exact G.fresh hn
theorem fm_congr {α β : Type} {f g : α → Option β} : ∀ {l : List α}, (∀ x ∈ l, f x = g x) → l.filterMap f = l.filterMap g
  | [], _ => rfl
  | x :: l, h => by
    rw [List.filterMap_cons, List.filterMap_cons, h x (by simp), fm_congr fun y hy => h y (List.mem_cons_of_mem _ hy)]
theorem mutUp_congr {u : Mut} {f g : Look} {gen : Nat} (h : ∀ n ∈ u.foot, f n = g n) : u.up f gen = u.up g gen := by
  have h1 : ∀ x ∈ u.mem, f (u.τ x.1).1 = g (u.τ x.1).1 := fun x hx => h _ (List.mem_append_left _ (List.mem_map_of_mem (f := fun x => (u.τ x.1).1) hx))
  unfold Mut.up Mut.gone
  congr 1
  · refine List.map_congr_left fun x _ => ?_
    unfold Mut.ent
    by_cases hk : u.mem.any (fun y => y.1 == x.1) = true
    · have hk' := hk
      rw [List.any_eq_true] at hk'
      obtain ⟨z, hz, hzx⟩ := hk'
      simp only [beq_iff_eq] at hzx
      have := h1 z hz
      rw [hzx] at this
      simp only [hk, if_true, this]
    · simp only [if_neg hk]
  · exact fm_congr fun x hx => by rw [h1 x hx]
theorem callD_congr {dst : Option Nat} {gen : Nat} {fn : FuncId} {args : List PV} {f g : Look} (h : ∀ n ∈ dst.toList ++ (foot Γ dst ++ args.flatMap nameOf1), f n = g n) :
    callD P Γ dst gen fn args f = callD P Γ dst gen fn args g := by
  simp only [List.mem_append] at h
  unfold callD
  rw [argsD_congr (fun n hn => h n (.inr (.inr hn)))]
  cases dst with
  | none => rfl
  | some d =>
    simp only
    cases hc : look Γ d with
    | none => rfl
    | some c =>
      simp only
      cases hu : c.chg with
      | none => rfl
      | some u =>
        have hf : ∀ n ∈ u.foot, f n = g n := fun n hn => h n (.inr (.inl (by simpa [foot, hc, hu] using hn)))
        have he : MutOk f gen args c.args c.res u ↔ MutOk g gen args c.args c.res u := ⟨mutOk_congr hf, mutOk_congr fun n hn => (hf n hn).symm⟩
        simp only [mutUp_congr hf]
        by_cases h1 : MutOk g gen args c.args c.res u
        · simp only [h1, he.2 h1]
        · have h2 : ¬ MutOk f gen args c.args c.res u := fun h => h1 (he.1 h)
          simp only [h1, h2]
theorem names_1 {ps : List PV} {n : Nat} (h : n ∈ ps.flatMap nameOf1) : n ∈ ps.flatMap nameOf := by
  rw [List.mem_flatMap] at h ⊢
  obtain ⟨p, h1, h2⟩ := h
  exact ⟨p, h1, nameOf_1 h2⟩
theorem act_congr {o : LOp} {dst : Option Nat} {gen : Nat} {xs : List PV} {f g : Look} (h : ∀ n ∈ o.reads (foot Γ dst) dst xs, f n = g n) : o.act Γ dst gen xs f = o.act Γ dst gen xs g := by
  have fr : ∀ d, dst = some d → dst.toList ⊆ o.reads (foot Γ dst) dst xs → freshF f d = freshF g d := by
    rintro d rfl hsub
    exact freshF_congr (h d (hsub (by simp)))
  cases o with
  | len x =>
    match xs with
    | [p] => cases p <;> simp only [LOp.act] <;> rw [asList_congr (fun n hn => h n (by simpa [LOp.reads] using nameOf_1 hn))]
    | [] => rfl
    | _ :: _ :: _ => simp [LOp.act]
  | idx sz x i =>
    match xs with
    | [p, q] => cases p <;> cases q <;> simp only [LOp.act] <;> rw [liveF_congr (h _ (by simp [LOp.reads, nameOf, nameOf1]))]
    | [] => rfl
    | [_] => simp [LOp.act]
    | _ :: _ :: _ :: _ => simp [LOp.act]
  | idxA n0 sz x i =>
    match xs with
    | [p, q] => cases p <;> cases q <;> simp only [LOp.act] <;> rw [liveF_congr (h _ (by simp [LOp.reads, nameOf, nameOf1]))]
    | [] => rfl
    | [_] => simp [LOp.act]
    | _ :: _ :: _ :: _ => simp [LOp.act]
  | fieldAddr off x =>
    match xs with
    | [p] => cases p <;> simp only [LOp.act] <;> rw [liveF_congr (h _ (by simp [LOp.reads, nameOf, nameOf1]))]
    | [] => rfl
    | _ :: _ :: _ => simp [LOp.act]
  | nilCheck x =>
    match xs with
    | [p] => cases p <;> simp only [LOp.act] <;> rw [liveF_congr (h _ (by simp [LOp.reads, nameOf, nameOf1]))]
    | [] => rfl
    | _ :: _ :: _ => simp [LOp.act]
  | load n ag x =>
    match xs with
    | [p] => cases p <;> simp only [LOp.act] <;> rw [liveF_congr (h _ (by simp [LOp.reads, nameOf, nameOf1]))]
    | [] => rfl
    | _ :: _ :: _ => simp [LOp.act]
  | store n x v =>
    match xs with
    | [p, q] => cases p <;> simp only [LOp.act] <;> rw [liveF_congr (h _ (by simp [LOp.reads, nameOf, nameOf1]))]
    | [] => rfl
    | [_] => simp [LOp.act]
    | _ :: _ :: _ :: _ => simp [LOp.act]
  | bad => rfl
  | copy sz x y =>
    have hc : ∀ (nm ver lo : Nat) (hi : Option Nat) (q : PV), f nm = g nm → (∀ n ∈ nameOf1 q, f n = g n) → copyAt f sz nm ver lo hi q = copyAt g sz nm ver lo hi q := fun nm ver lo hi q h1 h2 => by
      unfold copyAt
      rw [liveF_congr h1, srcRows_congr h2, srcData_congr h2]
    match xs with
    | [p, q] =>
      cases p <;> simp only [LOp.act]
      all_goals exact hc _ _ _ _ _ (h _ (by simp [LOp.reads, nameOf, nameOf1])) (fun n hn => h n (by simp only [LOp.reads, List.flatMap_cons, List.mem_append]; exact .inr (.inl (nameOf_1 hn))))
    | [] => rfl
    | [p] => cases p <;> rfl
    | p :: _ :: _ :: _ => cases p <;> rfl
  | isnilI neg x =>
    match xs with
    | [] => rfl
    | [p] => cases p <;> rfl
    | p :: _ :: _ => cases p <;> first
        | rfl
        | simp [LOp.act]
  | isnil neg x =>
    match xs with
    | [] => rfl
    | [p] =>
      cases p <;> first
        | rfl
        | (rename_i sz es; cases es <;> rfl)
    | p :: _ :: _ => cases p <;> first
        | rfl
        | simp [LOp.act]
  | clear sz z x =>
    have hc : ∀ (nm ver lo : Nat) (hi : Option Nat), f nm = g nm → clearAt f sz nm ver lo hi z = clearAt g sz nm ver lo hi z := fun nm ver lo hi h1 => by
      unfold clearAt
      rw [liveF_congr h1]
    match xs with
    | [p] =>
      cases p <;> simp only [LOp.act]
      all_goals exact hc _ _ _ _ (h _ (by simp [LOp.reads, nameOf, nameOf1]))
    | [] => rfl
    | p :: _ :: _ => cases p <;> rfl
  | slice sz x lo hi =>
    match xs with
    | p :: r => cases p <;> simp only [LOp.act] <;> rw [liveF_congr (h _ (by simp [LOp.reads, nameOf, nameOf1]))]
    | [] => rfl
  | alloc e n z =>
    cases dst with
    | none => match xs with
      | [] => rfl
      | _ :: _ => rfl
    | some d => match xs with
      | [] => simp only [LOp.act, fr d rfl (by simp [LOp.reads])]
      | _ :: _ => rfl
  | box e n x =>
    cases dst with
    | none => match xs with
      | [] => rfl
      | [_] => rfl
      | _ :: _ :: _ => rfl
    | some d => match xs with
      | [] => rfl
      | [_] => simp only [LOp.act, fr d rfl (by simp [LOp.reads])]
      | _ :: _ :: _ => rfl
  | mkSlice e sz n z ps =>
    cases dst with
    | none => rfl
    | some d => simp only [LOp.act, fr d rfl (by simp [LOp.reads])]
  | make e sz by_ z l =>
    cases dst with
    | none => match xs with
      | [] => rfl
      | [p] => cases p <;> first | rfl | (rename_i k n; cases k <;> rfl)
      | _ :: _ :: _ => simp [LOp.act]
    | some d => match xs with
      | [] => rfl
      | [p] => cases p <;> first | rfl | (rename_i k n; cases k <;> first | rfl | simp only [LOp.act, fr d rfl (by simp [LOp.reads])])
      | _ :: _ :: _ => simp [LOp.act]
  | append e sz by_ s x =>
    match xs with
    | [p, q] =>
      cases dst with
      | none => rfl
      | some d =>
        have hq : ∀ n ∈ nameOf1 q, f n = g n := fun n hn => h n (by simp [LOp.reads]; exact .inr (.inr (nameOf_1 hn)))
        cases p <;> simp only [LOp.act, srcRows_congr hq, srcData_congr hq, fr d rfl (by simp [LOp.reads])] <;> (try rw [liveF_congr (h _ (by simp [LOp.reads, nameOf, nameOf1]))])
    | [] => rfl
    | [_] => simp [LOp.act]
    | _ :: _ :: _ :: _ => simp [LOp.act]
  | call fn as =>
    simp only [LOp.act]
    refine callD_congr fun n hn => h n ?_
    simp only [LOp.reads, List.mem_append] at hn ⊢
    exact hn.imp id (Or.imp id names_1)
  | callv x as =>
    match xs with
    | [] => rfl
    | p :: r =>
      cases p with
      | fn fn a b =>
        simp only [LOp.act]
        rw [callD_congr (f := f) (g := g) fun n hn => h n ?_]
        simp only [LOp.reads, List.mem_append, List.flatMap_cons, nameOf, List.flatMap_append] at hn ⊢
        rcases hn with hn | hn | (hn | hn) | hn
        · exact .inl hn
        · exact .inr (.inl hn)
        · exact .inr (.inr (.inl (.inl hn)))
        · exact .inr (.inr (.inr (names_1 hn)))
        · exact .inr (.inr (.inl (.inr hn)))
      | _ => simp only [LOp.act]
  | sslice x lo hi =>
    match xs with
    | [] => rfl
    | p :: r => cases p <;> rfl
  | build => rfl
  | mkfn => rfl
  | un op x =>
    cases op <;> (
      rcases xs with _ | ⟨p, _ | ⟨q, r⟩⟩
      all_goals first
        | rfl
        | (cases p <;> rfl))
  | _ =>
    rcases xs with _ | ⟨p, _ | ⟨q, _ | ⟨s, _ | ⟨t, r⟩⟩⟩⟩
    all_goals first
      | rfl
      | (cases p <;> first
          | rfl
          | (cases q <;> rfl))
end
end Go.PW
