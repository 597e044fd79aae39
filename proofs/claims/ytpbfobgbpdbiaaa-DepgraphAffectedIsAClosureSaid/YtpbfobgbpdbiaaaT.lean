/- The given statements, from the plain laws: for every input the law returns true and leaves its arguments as they read; no condition beyond the row's own. -/
import Derived.Test.YtpbfobgbpdbiaaaRows
import Derived.Test.YtpbfobgbpdbiaaaPwShape
import Derived.ProofKit
import Derived.Test.YtpbfobgbpdbiaaaP8
import Derived.Test.YtpbfobgbpdbiaaaW3
namespace Go.Proofs.Ytpbfobgbpdbiaaa
open Go.PW Go Go.RowKit Go.WideShapes Go.ChangeShapes Go.ChangeAt
theorem Try.ownT : ownKnob Try.prog.godebug = none := by kernel_rfl
theorem Try.laidOutT : laidOutB Try.prog = true := by kernel_rfl
theorem Try.sh3 : Shp Try.prog 3 cI (inK .i64) := Shp.i64 (by kernel_rfl)
theorem Try.sh23 : Shp Try.prog 23 (cL 1 cI) (fun (l : List Int) => l.length * 8 ≤ reachBytes ∧ ∀ a ∈ l, (inK .i64) a) := Shp.slice (e := 3) (by kernel_rfl) (by kernel_rfl) (by kernel_rfl) Try.sh3
theorem Try.sh22 : Shp Try.prog 22 (cL 1 (cL 1 cI)) (fun (l : List (List Int)) => l.length * 24 ≤ reachBytes ∧ ∀ a ∈ l, (fun (l : List Int) => l.length * 8 ≤ reachBytes ∧ ∀ a ∈ l, (inK .i64) a) a) := Shp.slice (e := 23) (by kernel_rfl) (by kernel_rfl) (by kernel_rfl) Try.sh23
theorem params3 : Try.f3.params.toList = [22, 23] := by kernel_rfl
theorem law3 (qs : List PV) (h : TyVs Try.prog Try.f3.params.toList qs) : PSpec Try.prog 3 qs (.bool true) := by
  rw [params3] at h
  obtain ⟨⟨a0, a1, _⟩, rfl, hq⟩ := ((ShVs.cons (ShV.one (by kernel_rfl) Try.sh22 (fun l => .list 1 (l.map (cL 1 cI))) (fun _ => rfl)) (ShVs.cons (ShV.one (by kernel_rfl) Try.sh23 (fun l => .list 1 (l.map cI)) (fun _ => rfl)) ShVs.nil)) : ShVs Try.prog [22, 23] _ _) qs h
  exact law6_DepgraphMatchesSpec_spec 40000 a0 a1 true (MatchesSpec_eq a0 a1)
set_option maxRecDepth 100000 in
theorem lifted3 (os : Os) (started : os.Started) (H : Type) (enc : TypeId × Value → H) :
    ReturnsInHanded {} Try.checked os 3 .any (Rows.depgraphMatchesSpecSpec.pre6 enc Try.prog Try.f3 Rows.depgraphMatchesSpecRow.domain false) (Rows.depgraphMatchesSpecSpec.post enc Try.prog Try.f3 false true false false) := by
  refine law_lifted (C := Try.checked) (L := [3, 22, 23]) (tb := 4) Try.ownT started (by kernel_rfl) Try.func3
    (ChangeSpec.witness6 (enc := enc) (C := Try.checked) false ⟨#[], #[.slice none 0 0, .slice none 0 0], []⟩ 8 (by kernel_rfl) (by kernel_rfl) (by kernel_rfl) (by kernel_rfl))
    (by kernel_rfl) Try.laidOutT (by kernel_rfl) (by kernel_rfl) (by kernel_rfl) rfl ?_ law3
  intro ds hds
  match ds, hds with
  | [d0, d1], _ => rfl
/-- DepgraphMatchesSpec: for every input the law returns true, and each argument reads as it read before -/
theorem holds3 : Rows.DepgraphMatchesSpecSaid :=
  OpenClaim.holds_of_wide 3 Try.f3 rfl rfl rfl rfl rfl rfl rfl ⟨rfl, rfl, rfl, rfl, rfl⟩ rfl rfl rfl rfl rfl (by kernel_rfl) Try.func3 (by kernel_rfl)
    (of_decide_eq_true (by kernel_rfl)) (by unfold Func.isWrapper; first | (rw [if_pos (by decide +kernel)]; kernel_rfl) | (rw [if_neg (by decide +kernel)]; exact ⟨rfl, rfl⟩))
    (fun os started H enc _ => lifted3 os started H enc)
#print axioms holds3
theorem params4 : Try.f4.params.toList = [22] := by kernel_rfl
theorem law4 (qs : List PV) (h : TyVs Try.prog Try.f4.params.toList qs) : PSpec Try.prog 4 qs (.bool true) := by
  rw [params4] at h
  obtain ⟨⟨a0, _⟩, rfl, hq⟩ := ((ShVs.cons (ShV.one (by kernel_rfl) Try.sh22 (fun l => .list 1 (l.map (cL 1 cI))) (fun _ => rfl)) ShVs.nil) : ShVs Try.prog [22] _ _) qs h
  exact law6_DepgraphOrderMatchesSpec_spec 40000 a0 true (OrderMatchesSpec_eq a0)
set_option maxRecDepth 100000 in
theorem lifted4 (os : Os) (started : os.Started) (H : Type) (enc : TypeId × Value → H) :
    ReturnsInHanded {} Try.checked os 4 .any (Rows.depgraphOrderMatchesSpecSpec.pre6 enc Try.prog Try.f4 Rows.depgraphOrderMatchesSpecRow.domain false) (Rows.depgraphOrderMatchesSpecSpec.post enc Try.prog Try.f4 false true false false) := by
  refine law_lifted (C := Try.checked) (L := [3, 22, 23]) (tb := 4) Try.ownT started (by kernel_rfl) Try.func4
    (ChangeSpec.witness6 (enc := enc) (C := Try.checked) false ⟨#[], #[.slice none 0 0], []⟩ 8 (by kernel_rfl) (by kernel_rfl) (by kernel_rfl) (by kernel_rfl))
    (by kernel_rfl) Try.laidOutT (by kernel_rfl) (by kernel_rfl) (by kernel_rfl) rfl ?_ law4
  intro ds hds
  match ds, hds with
  | [d0], _ => rfl
/-- DepgraphOrderMatchesSpec: for every input the law returns true, and each argument reads as it read before -/
theorem holds4 : Rows.DepgraphOrderMatchesSpecSaid :=
  OpenClaim.holds_of_wide 4 Try.f4 rfl rfl rfl rfl rfl rfl rfl ⟨rfl, rfl, rfl, rfl, rfl⟩ rfl rfl rfl rfl rfl (by kernel_rfl) Try.func4 (by kernel_rfl)
    (of_decide_eq_true (by kernel_rfl)) (by unfold Func.isWrapper; first | (rw [if_pos (by decide +kernel)]; kernel_rfl) | (rw [if_neg (by decide +kernel)]; exact ⟨rfl, rfl⟩))
    (fun os started H enc _ => lifted4 os started H enc)
#print axioms holds4
theorem params5 : Try.f5.params.toList = [22] := by kernel_rfl
theorem law5 (qs : List PV) (h : TyVs Try.prog Try.f5.params.toList qs) : PSpec Try.prog 5 qs (.bool true) := by
  rw [params5] at h
  obtain ⟨⟨a0, _⟩, rfl, hq⟩ := ((ShVs.cons (ShV.one (by kernel_rfl) Try.sh22 (fun l => .list 1 (l.map (cL 1 cI))) (fun _ => rfl)) ShVs.nil) : ShVs Try.prog [22] _ _) qs h
  exact law6_DepgraphOrdersRespectDependencies_spec 40000 a0 true (Respect_eq a0)
set_option maxRecDepth 100000 in
theorem lifted5 (os : Os) (started : os.Started) (H : Type) (enc : TypeId × Value → H) :
    ReturnsInHanded {} Try.checked os 5 .any (Rows.depgraphOrdersRespectDependenciesSpec.pre6 enc Try.prog Try.f5 Rows.depgraphOrdersRespectDependenciesRow.domain false) (Rows.depgraphOrdersRespectDependenciesSpec.post enc Try.prog Try.f5 false true false false) := by
  refine law_lifted (C := Try.checked) (L := [3, 22, 23]) (tb := 4) Try.ownT started (by kernel_rfl) Try.func5
    (ChangeSpec.witness6 (enc := enc) (C := Try.checked) false ⟨#[], #[.slice none 0 0], []⟩ 8 (by kernel_rfl) (by kernel_rfl) (by kernel_rfl) (by kernel_rfl))
    (by kernel_rfl) Try.laidOutT (by kernel_rfl) (by kernel_rfl) (by kernel_rfl) rfl ?_ law5
  intro ds hds
  match ds, hds with
  | [d0], _ => rfl
/-- DepgraphOrdersRespectDependencies: for every input the law returns true, and each argument reads as it read before -/
theorem holds5 : Rows.DepgraphOrdersRespectDependenciesSaid :=
  OpenClaim.holds_of_wide 5 Try.f5 rfl rfl rfl rfl rfl rfl rfl ⟨rfl, rfl, rfl, rfl, rfl⟩ rfl rfl rfl rfl rfl (by kernel_rfl) Try.func5 (by kernel_rfl)
    (of_decide_eq_true (by kernel_rfl)) (by unfold Func.isWrapper; first | (rw [if_pos (by decide +kernel)]; kernel_rfl) | (rw [if_neg (by decide +kernel)]; exact ⟨rfl, rfl⟩))
    (fun os started H enc _ => lifted5 os started H enc)
#print axioms holds5
theorem params6 : Try.f6.params.toList = [22] := by kernel_rfl
theorem law6 (qs : List PV) (h : TyVs Try.prog Try.f6.params.toList qs) : PSpec Try.prog 6 qs (.bool true) := by
  rw [params6] at h
  obtain ⟨⟨a0, _⟩, rfl, hq⟩ := ((ShVs.cons (ShV.one (by kernel_rfl) Try.sh22 (fun l => .list 1 (l.map (cL 1 cI))) (fun _ => rfl)) ShVs.nil) : ShVs Try.prog [22] _ _) qs h
  exact law6_DepgraphCyclesExplainFailures_spec 40000 a0 true (Explain_eq a0)
set_option maxRecDepth 100000 in
theorem lifted6 (os : Os) (started : os.Started) (H : Type) (enc : TypeId × Value → H) :
    ReturnsInHanded {} Try.checked os 6 .any (Rows.depgraphCyclesExplainFailuresSpec.pre6 enc Try.prog Try.f6 Rows.depgraphCyclesExplainFailuresRow.domain false) (Rows.depgraphCyclesExplainFailuresSpec.post enc Try.prog Try.f6 false true false false) := by
  refine law_lifted (C := Try.checked) (L := [3, 22, 23]) (tb := 4) Try.ownT started (by kernel_rfl) Try.func6
    (ChangeSpec.witness6 (enc := enc) (C := Try.checked) false ⟨#[], #[.slice none 0 0], []⟩ 8 (by kernel_rfl) (by kernel_rfl) (by kernel_rfl) (by kernel_rfl))
    (by kernel_rfl) Try.laidOutT (by kernel_rfl) (by kernel_rfl) (by kernel_rfl) rfl ?_ law6
  intro ds hds
  match ds, hds with
  | [d0], _ => rfl
/-- DepgraphCyclesExplainFailures: for every input the law returns true, and each argument reads as it read before -/
theorem holds6 : Rows.DepgraphCyclesExplainFailuresSaid :=
  OpenClaim.holds_of_wide 6 Try.f6 rfl rfl rfl rfl rfl rfl rfl ⟨rfl, rfl, rfl, rfl, rfl⟩ rfl rfl rfl rfl rfl (by kernel_rfl) Try.func6 (by kernel_rfl)
    (of_decide_eq_true (by kernel_rfl)) (by unfold Func.isWrapper; first | (rw [if_pos (by decide +kernel)]; kernel_rfl) | (rw [if_neg (by decide +kernel)]; exact ⟨rfl, rfl⟩))
    (fun os started H enc _ => lifted6 os started H enc)
#print axioms holds6
theorem params7 : Try.f7.params.toList = [22, 23, 23] := by kernel_rfl
theorem law7 (qs : List PV) (h : TyVs Try.prog Try.f7.params.toList qs) : PSpec Try.prog 7 qs (.bool true) := by
  rw [params7] at h
  obtain ⟨⟨a0, a1, a2, _⟩, rfl, hq⟩ := ((ShVs.cons (ShV.one (by kernel_rfl) Try.sh22 (fun l => .list 1 (l.map (cL 1 cI))) (fun _ => rfl)) (ShVs.cons (ShV.one (by kernel_rfl) Try.sh23 (fun l => .list 1 (l.map cI)) (fun _ => rfl)) (ShVs.cons (ShV.one (by kernel_rfl) Try.sh23 (fun l => .list 1 (l.map cI)) (fun _ => rfl)) ShVs.nil))) : ShVs Try.prog [22, 23, 23] _ _) qs h
  exact law6_DepgraphAffectedIsAClosure_spec 40000 a0 a1 a2 true (Closure_eq a0 a1 a2)
set_option maxRecDepth 100000 in
theorem lifted7 (os : Os) (started : os.Started) (H : Type) (enc : TypeId × Value → H) :
    ReturnsInHanded {} Try.checked os 7 .any (Rows.depgraphAffectedIsAClosureSpec.pre6 enc Try.prog Try.f7 Rows.depgraphAffectedIsAClosureRow.domain false) (Rows.depgraphAffectedIsAClosureSpec.post enc Try.prog Try.f7 false true false false) := by
  refine law_lifted (C := Try.checked) (L := [3, 22, 23]) (tb := 4) Try.ownT started (by kernel_rfl) Try.func7
    (ChangeSpec.witness6 (enc := enc) (C := Try.checked) false ⟨#[], #[.slice none 0 0, .slice none 0 0, .slice none 0 0], []⟩ 8 (by kernel_rfl) (by kernel_rfl) (by kernel_rfl) (by kernel_rfl))
    (by kernel_rfl) Try.laidOutT (by kernel_rfl) (by kernel_rfl) (by kernel_rfl) rfl ?_ law7
  intro ds hds
  match ds, hds with
  | [d0, d1, d2], _ => rfl
/-- DepgraphAffectedIsAClosure: for every input the law returns true, and each argument reads as it read before -/
theorem holds7 : Rows.DepgraphAffectedIsAClosureSaid :=
  OpenClaim.holds_of_wide 7 Try.f7 rfl rfl rfl rfl rfl rfl rfl ⟨rfl, rfl, rfl, rfl, rfl⟩ rfl rfl rfl rfl rfl (by kernel_rfl) Try.func7 (by kernel_rfl)
    (of_decide_eq_true (by kernel_rfl)) (by unfold Func.isWrapper; first | (rw [if_pos (by decide +kernel)]; kernel_rfl) | (rw [if_neg (by decide +kernel)]; exact ⟨rfl, rfl⟩))
    (fun os started H enc _ => lifted7 os started H enc)
#print axioms holds7
theorem params8 : Try.f8.params.toList = [22, 23] := by kernel_rfl
theorem law8 (qs : List PV) (h : TyVs Try.prog Try.f8.params.toList qs) : PSpec Try.prog 8 qs (.bool true) := by
  rw [params8] at h
  obtain ⟨⟨a0, a1, _⟩, rfl, hq⟩ := ((ShVs.cons (ShV.one (by kernel_rfl) Try.sh22 (fun l => .list 1 (l.map (cL 1 cI))) (fun _ => rfl)) (ShVs.cons (ShV.one (by kernel_rfl) Try.sh23 (fun l => .list 1 (l.map cI)) (fun _ => rfl)) ShVs.nil)) : ShVs Try.prog [22, 23] _ _) qs h
  exact law6_DepgraphAffectedNodesDepend_spec 40000 a0 a1 true (Depend_eq a0 a1)
set_option maxRecDepth 100000 in
theorem lifted8 (os : Os) (started : os.Started) (H : Type) (enc : TypeId × Value → H) :
    ReturnsInHanded {} Try.checked os 8 .any (Rows.depgraphAffectedNodesDependSpec.pre6 enc Try.prog Try.f8 Rows.depgraphAffectedNodesDependRow.domain false) (Rows.depgraphAffectedNodesDependSpec.post enc Try.prog Try.f8 false true false false) := by
  refine law_lifted (C := Try.checked) (L := [3, 22, 23]) (tb := 4) Try.ownT started (by kernel_rfl) Try.func8
    (ChangeSpec.witness6 (enc := enc) (C := Try.checked) false ⟨#[], #[.slice none 0 0, .slice none 0 0], []⟩ 8 (by kernel_rfl) (by kernel_rfl) (by kernel_rfl) (by kernel_rfl))
    (by kernel_rfl) Try.laidOutT (by kernel_rfl) (by kernel_rfl) (by kernel_rfl) rfl ?_ law8
  intro ds hds
  match ds, hds with
  | [d0, d1], _ => rfl
/-- DepgraphAffectedNodesDepend: for every input the law returns true, and each argument reads as it read before -/
theorem holds8 : Rows.DepgraphAffectedNodesDependSaid :=
  OpenClaim.holds_of_wide 8 Try.f8 rfl rfl rfl rfl rfl rfl rfl ⟨rfl, rfl, rfl, rfl, rfl⟩ rfl rfl rfl rfl rfl (by kernel_rfl) Try.func8 (by kernel_rfl)
    (of_decide_eq_true (by kernel_rfl)) (by unfold Func.isWrapper; first | (rw [if_pos (by decide +kernel)]; kernel_rfl) | (rw [if_neg (by decide +kernel)]; exact ⟨rfl, rfl⟩))
    (fun os started H enc _ => lifted8 os started H enc)
#print axioms holds8
end Go.Proofs.Ytpbfobgbpdbiaaa
