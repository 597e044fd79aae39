/- The given statements, from the plain laws: for every input the law returns true and leaves its arguments as they read; no condition beyond the row's own. -/
import Derived.Test.YtfdennmaeoahgaaRows
import Derived.Test.YtfdennmaeoahgaaPwShape
import Derived.ProofKit
import Derived.Test.YtfdennmaeoahgaaPE
import Derived.Test.YtfdennmaeoahgaaWB
namespace Go.Proofs.Ytfdennmaeoahgaa
open Go.PW Go Go.RowKit Go.WideShapes Go.ChangeShapes Go.ChangeAt
theorem Try.ownT : ownKnob Try.prog.godebug = none := by kernel_rfl
theorem Try.laidOutT : laidOutB Try.prog = true := by kernel_rfl
theorem Try.sh3 : Shp Try.prog 3 cI (inK .i64) := Shp.i64 (by kernel_rfl)
theorem Try.sh9 : Shp Try.prog 9 cS (fun (s : List UInt8) => s.length ≤ reachBytes) := Shp.str (by kernel_rfl)
theorem Try.sh62 : Shp Try.prog 62 (cL 1 cS) (fun (l : List (List UInt8)) => l.length * 16 ≤ reachBytes ∧ ∀ a ∈ l, (fun (s : List UInt8) => s.length ≤ reachBytes) a) := Shp.slice (e := 9) (by kernel_rfl) (by kernel_rfl) (by kernel_rfl) Try.sh9
def SMajorMinorPatchPre.ok (x : SMajorMinorPatchPre) : Prop := (inK .i64) x.Major ∧ (inK .i64) x.Minor ∧ (inK .i64) x.Patch ∧ (fun (l : List (List UInt8)) => l.length * 16 ≤ reachBytes ∧ ∀ a ∈ l, (fun (s : List UInt8) => s.length ≤ reachBytes) a) x.Pre ∧ True
theorem Try.sh64 : Shp Try.prog 64 SMajorMinorPatchPre.cells SMajorMinorPatchPre.ok := Shp.of (Shp.struct (ts := [3, 3, 3, 62]) (by kernel_rfl) (Shps.cons Try.sh3 (Shps.cons Try.sh3 (Shps.cons Try.sh3 (Shps.cons Try.sh62 Shps.nil))))) (fun x => (⟨x.1, x.2.1, x.2.2.1, x.2.2.2.1⟩ : SMajorMinorPatchPre)) (fun _ => rfl) (fun _ h => h)
theorem Try.sh4 : Shp Try.prog 4 cB (fun (_ : Bool) => True) := Shp.bool (by kernel_rfl)
def SLowHighUnbounded.ok (x : SLowHighUnbounded) : Prop := SMajorMinorPatchPre.ok x.Low ∧ SMajorMinorPatchPre.ok x.High ∧ (fun (_ : Bool) => True) x.Unbounded ∧ True
theorem Try.sh88 : Shp Try.prog 88 SLowHighUnbounded.cells SLowHighUnbounded.ok := Shp.of (Shp.struct (ts := [64, 64, 4]) (by kernel_rfl) (Shps.cons Try.sh64 (Shps.cons Try.sh64 (Shps.cons Try.sh4 Shps.nil)))) (fun x => (⟨x.1, x.2.1, x.2.2.1⟩ : SLowHighUnbounded)) (fun _ => rfl) (fun _ h => h)
theorem Try.sh56 : Shp Try.prog 56 (cL 9 SLowHighUnbounded.cells) (fun (l : List SLowHighUnbounded) => l.length * 104 ≤ reachBytes ∧ ∀ a ∈ l, SLowHighUnbounded.ok a) := Shp.slice (e := 88) (by kernel_rfl) (by kernel_rfl) (by kernel_rfl) Try.sh88
def SIntervals.ok (x : SIntervals) : Prop := (fun (l : List SLowHighUnbounded) => l.length * 104 ≤ reachBytes ∧ ∀ a ∈ l, SLowHighUnbounded.ok a) x.Intervals ∧ True
theorem Try.sh58 : Shp Try.prog 58 SIntervals.cells SIntervals.ok := Shp.of (Shp.struct (ts := [56]) (by kernel_rfl) (Shps.cons Try.sh56 Shps.nil)) (fun x => (⟨x.1⟩ : SIntervals)) (fun _ => rfl) (fun _ h => h)
def SPackageRange.ok (x : SPackageRange) : Prop := (inK .i64) x.Package ∧ SIntervals.ok x.Range ∧ True
theorem Try.sh60 : Shp Try.prog 60 SPackageRange.cells SPackageRange.ok := Shp.of (Shp.struct (ts := [3, 58]) (by kernel_rfl) (Shps.cons Try.sh3 (Shps.cons Try.sh58 Shps.nil))) (fun x => (⟨x.1, x.2.1⟩ : SPackageRange)) (fun _ => rfl) (fun _ h => h)
theorem Try.sh25 : Shp Try.prog 25 (cL 2 SPackageRange.cells) (fun (l : List SPackageRange) => l.length * 32 ≤ reachBytes ∧ ∀ a ∈ l, SPackageRange.ok a) := Shp.slice (e := 60) (by kernel_rfl) (by kernel_rfl) (by kernel_rfl) Try.sh60
def SVersionNeeds.ok (x : SVersionNeeds) : Prop := SMajorMinorPatchPre.ok x.Version ∧ (fun (l : List SPackageRange) => l.length * 32 ≤ reachBytes ∧ ∀ a ∈ l, SPackageRange.ok a) x.Needs ∧ True
theorem Try.sh70 : Shp Try.prog 70 SVersionNeeds.cells SVersionNeeds.ok := Shp.of (Shp.struct (ts := [64, 25]) (by kernel_rfl) (Shps.cons Try.sh64 (Shps.cons Try.sh25 Shps.nil))) (fun x => (⟨x.1, x.2.1⟩ : SVersionNeeds)) (fun _ => rfl) (fun _ h => h)
theorem Try.sh68 : Shp Try.prog 68 (cL 5 SVersionNeeds.cells) (fun (l : List SVersionNeeds) => l.length * 72 ≤ reachBytes ∧ ∀ a ∈ l, SVersionNeeds.ok a) := Shp.slice (e := 70) (by kernel_rfl) (by kernel_rfl) (by kernel_rfl) Try.sh70
theorem Try.sh22 : Shp Try.prog 22 (cL 1 (cL 5 SVersionNeeds.cells)) (fun (l : List (List SVersionNeeds)) => l.length * 24 ≤ reachBytes ∧ ∀ a ∈ l, (fun (l : List SVersionNeeds) => l.length * 72 ≤ reachBytes ∧ ∀ a ∈ l, SVersionNeeds.ok a) a) := Shp.slice (e := 68) (by kernel_rfl) (by kernel_rfl) (by kernel_rfl) Try.sh68
def SPackages.ok (x : SPackages) : Prop := (fun (l : List (List SVersionNeeds)) => l.length * 24 ≤ reachBytes ∧ ∀ a ∈ l, (fun (l : List SVersionNeeds) => l.length * 72 ≤ reachBytes ∧ ∀ a ∈ l, SVersionNeeds.ok a) a) x.Packages ∧ True
theorem Try.sh24 : Shp Try.prog 24 SPackages.cells SPackages.ok := Shp.of (Shp.struct (ts := [22]) (by kernel_rfl) (Shps.cons Try.sh22 Shps.nil)) (fun x => (⟨x.1⟩ : SPackages)) (fun _ => rfl) (fun _ h => h)
theorem params4 : Try.f4.params.toList = [24, 25] := by kernel_rfl
theorem law4 (qs : List PV) (h : TyVs Try.prog Try.f4.params.toList qs) : PSpec Try.prog 4 qs (.bool true) := by
  rw [params4] at h
  obtain ⟨⟨a0, a1, _⟩, rfl, hq⟩ := ((ShVs.cons (ShV.agg (by kernel_rfl) Try.sh24) (ShVs.cons (ShV.one (by kernel_rfl) Try.sh25 (fun l => .list 2 (l.map SPackageRange.cells)) (fun _ => rfl)) ShVs.nil)) : ShVs Try.prog [24, 25] _ _) qs h
  exact law6_ExplainReasonMatchesSpec_spec 6000 a0 a1 true (law_reason a0 a1)
set_option maxRecDepth 100000 in
theorem lifted4 (os : Os) (started : os.Started) (H : Type) (enc : TypeId × Value → H) :
    ReturnsInHanded {} Try.checked os 4 .any (Rows.explainReasonMatchesSpecSpec.pre6 enc Try.prog Try.f4 Rows.explainReasonMatchesSpecRow.domain false) (Rows.explainReasonMatchesSpecSpec.post enc Try.prog Try.f4 false true false false) := by
  refine law_lifted (C := Try.checked) (L := [3, 4, 9, 22, 24, 25, 56, 58, 60, 62, 64, 68, 70, 88]) (tb := 4) Try.ownT started (by kernel_rfl) Try.func4
    (ChangeSpec.witness6 (enc := enc) (C := Try.checked) false ⟨#[], #[.agg #[.slice none 0 0], .slice none 0 0], []⟩ 8 (by kernel_rfl) (by kernel_rfl) (by kernel_rfl) (by kernel_rfl))
    (by kernel_rfl) Try.laidOutT (by kernel_rfl) (by kernel_rfl) (by kernel_rfl) rfl ?_ (fun _ _ _ h => by cases h) law4
  intro ds hds
  match ds, hds with
  | [d0, d1], _ => rfl
theorem holds4 : Rows.ExplainReasonMatchesSpecSaid :=
  OpenClaim.holds_of_wide 4 Try.f4 rfl rfl rfl rfl rfl rfl rfl ⟨rfl, rfl, rfl, rfl, rfl⟩ rfl rfl rfl rfl rfl (by kernel_rfl) Try.func4 (by kernel_rfl)
    (of_decide_eq_true (by kernel_rfl)) (by unfold Func.isWrapper; first | (rw [if_pos (by decide +kernel)]; kernel_rfl) | (rw [if_neg (by decide +kernel)]; exact ⟨rfl, rfl⟩))
    (fun os started H enc _ => lifted4 os started H enc)
#print axioms holds4
end Go.Proofs.Ytfdennmaeoahgaa
