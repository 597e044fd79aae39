/- The given statements, from the plain laws: for every input the law returns true and leaves its arguments as they read; no condition beyond the row's own. -/
import Derived.Test.YthnneojommdhjaaRows
import Derived.Test.YthnneojommdhjaaPwShape
import Derived.ProofKit
import Derived.Test.YthnneojommdhjaaP7
import Derived.Test.YthnneojommdhjaaW3
namespace Go.Proofs.Ythnneojommdhjaa
open Go.PW Go Go.RowKit Go.WideShapes Go.ChangeShapes Go.ChangeAt
theorem Try.ownT : ownKnob Try.prog.godebug = none := by kernel_rfl
theorem Try.laidOutT : laidOutB Try.prog = true := by kernel_rfl
theorem Try.sh3 : Shp Try.prog 3 cI (inK .i64) := Shp.i64 (by kernel_rfl)
def SKindWorkerJobValue.ok (x : SKindWorkerJobValue) : Prop := (inK .i64) x.Kind ∧ (inK .i64) x.Worker ∧ (inK .i64) x.Job ∧ (inK .i64) x.Value ∧ True
theorem Try.sh44 : Shp Try.prog 44 SKindWorkerJobValue.cells SKindWorkerJobValue.ok := Shp.of (Shp.struct (ts := [3, 3, 3, 3]) (by kernel_rfl) (Shps.cons Try.sh3 (Shps.cons Try.sh3 (Shps.cons Try.sh3 (Shps.cons Try.sh3 Shps.nil))))) (fun x => (⟨x.1, x.2.1, x.2.2.1, x.2.2.2.1⟩ : SKindWorkerJobValue)) (fun _ => rfl) (fun _ h => h)
theorem Try.sh22 : Shp Try.prog 22 (cL 4 SKindWorkerJobValue.cells) (fun (l : List SKindWorkerJobValue) => l.length * 32 ≤ reachBytes ∧ ∀ a ∈ l, SKindWorkerJobValue.ok a) := Shp.slice (e := 44) (by kernel_rfl) (by kernel_rfl) (by kernel_rfl) Try.sh44
theorem params8 : Try.f8.params.toList = [3, 3, 3, 22] := by kernel_rfl
theorem law8 (qs : List PV) (h : TyVs Try.prog Try.f8.params.toList qs) : PSpec Try.prog 8 qs (.bool true) := by
  rw [params8] at h
  obtain ⟨⟨a0, a1, a2, a3, _⟩, rfl, hq⟩ := ((ShVs.cons (ShV.one (by kernel_rfl) Try.sh3 (fun n => .int .i64 n) (fun _ => rfl)) (ShVs.cons (ShV.one (by kernel_rfl) Try.sh3 (fun n => .int .i64 n) (fun _ => rfl)) (ShVs.cons (ShV.one (by kernel_rfl) Try.sh3 (fun n => .int .i64 n) (fun _ => rfl)) (ShVs.cons (ShV.one (by kernel_rfl) Try.sh22 (fun l => .list 4 (l.map SKindWorkerJobValue.cells)) (fun _ => rfl)) ShVs.nil)))) : ShVs Try.prog [3, 3, 3, 22] _ _) qs h
  exact law6_WorkersAssignmentsArePermitted_spec 200 a0 a1 a2 a3 true (permitted_true a0 a1 a2 a3)
set_option maxRecDepth 100000 in
theorem lifted8 (os : Os) (started : os.Started) (H : Type) (enc : TypeId × Value → H) :
    ReturnsInHanded {} Try.checked os 8 .any (Rows.workersAssignmentsArePermittedSpec.pre6 enc Try.prog Try.f8 Rows.workersAssignmentsArePermittedRow.domain false) (Rows.workersAssignmentsArePermittedSpec.post enc Try.prog Try.f8 false true false false) := by
  refine law_lifted (C := Try.checked) (L := [3, 22, 44]) (tb := 4) Try.ownT started (by kernel_rfl) Try.func8
    (ChangeSpec.witness6 (enc := enc) (C := Try.checked) false ⟨#[], #[.int .i64 0, .int .i64 0, .int .i64 0, .slice none 0 0], []⟩ 8 (by kernel_rfl) (by kernel_rfl) (by kernel_rfl) (by kernel_rfl))
    (by kernel_rfl) Try.laidOutT (by kernel_rfl) (by kernel_rfl) (by kernel_rfl) rfl ?_ law8
  intro ds hds
  match ds, hds with
  | [d0, d1, d2, d3], _ => rfl
/-- WorkersAssignmentsArePermitted: for every input the law returns true, and each argument reads as it read before -/
theorem holds8 : Rows.WorkersAssignmentsArePermittedSaid :=
  OpenClaim.holds_of_wide 8 Try.f8 rfl rfl rfl rfl rfl rfl rfl ⟨rfl, rfl, rfl, rfl, rfl⟩ rfl rfl rfl rfl rfl (by kernel_rfl) Try.func8 (by kernel_rfl)
    (of_decide_eq_true (by kernel_rfl)) (by unfold Func.isWrapper; first | (rw [if_pos (by decide +kernel)]; kernel_rfl) | (rw [if_neg (by decide +kernel)]; exact ⟨rfl, rfl⟩))
    (fun os started H enc _ => lifted8 os started H enc)
#print axioms holds8
end Go.Proofs.Ythnneojommdhjaa
