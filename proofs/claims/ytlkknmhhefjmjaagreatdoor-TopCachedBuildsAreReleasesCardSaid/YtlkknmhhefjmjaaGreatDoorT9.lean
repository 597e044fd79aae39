/- The given statements, from the plain laws: for every input the law returns true and leaves its arguments as they read; no condition beyond the row's own. -/
import Derived.Test.YtlkknmhhefjmjaaGreatDoorRows
import Derived.Test.YtlkknmhhefjmjaaGreatDoorPwShape
import Derived.JoinedCond
import Derived.Deep.DeepWitnessRowRef
import Derived.Lib.LaidIn
import Derived.Test.YtlkknmhhefjmjaaGreatDoorCards
import Derived.Test.YtlkknmhhefjmjaaGreatDoorTie
import Derived.ProofKit
import Derived.Test.YtlkknmhhefjmjaaGreatDoorPE
import Derived.Test.YtlkknmhhefjmjaaGreatDoorWB
import Derived.Test.YtlkknmhhefjmjaaGreatDoorJ
namespace Go.Proofs.YtlkknmhhefjmjaaGreatDoor
open Go.PW Go Go.RowKit Go.WideShapes Go.ChangeShapes Go.ChangeAt
theorem Tryz.ownT : ownKnob Tryz.prog.godebug = none := by kernel_rfl
theorem Tryz.laidOutT : laidOutB Tryz.prog = true := by kernel_rfl
open Go.Lib
theorem gF : (Tryz.prog.globalNamed "unicode/utf8.first").isSome = true := by kernel_rfl
theorem gA : (Tryz.prog.globalNamed "unicode/utf8.acceptRanges").isSome = true := by kernel_rfl
noncomputable def laidWorld (os : Os) : World :=
  let w0 := World.holding Tryz.prog os ⟨#[], #[], []⟩
  let put (h : Array Obj) (g : Nat) (cs : Array Value) : Array Obj := h.modify g fun
    | .cells _ t frozen => .cells cs t frozen
    | o => o
  let h1 := put w0.heap ((Tryz.prog.globalNamed "unicode/utf8.first").get gF) (Go.Pinned.utf8FirstZ.map fun (z : Nat) => Value.int .u8 (z : Int)).toArray
  let h2 := put h1 ((Tryz.prog.globalNamed "unicode/utf8.acceptRanges").get gA) #[.int .u8 128, .int .u8 191, .int .u8 160, .int .u8 191, .int .u8 128, .int .u8 159, .int .u8 144, .int .u8 191, .int .u8 128, .int .u8 143, .int .u8 0, .int .u8 0, .int .u8 0, .int .u8 0, .int .u8 0, .int .u8 0, .int .u8 0, .int .u8 0, .int .u8 0, .int .u8 0, .int .u8 0, .int .u8 0, .int .u8 0, .int .u8 0, .int .u8 0, .int .u8 0, .int .u8 0, .int .u8 0, .int .u8 0, .int .u8 0, .int .u8 0, .int .u8 0]
  { w0 with heap := h2 }
theorem laid_met (os : Os) (args : Array Value) : laidMet Tryz.prog [("unicode/utf8.acceptRanges", Rows.laid_unicode_utf8_acceptRanges), ("unicode/utf8.first", Rows.laid_unicode_utf8_first)] ((laidWorld os).forCall (fun _ _ => 0) ⟨#[], args, []⟩).memory :=
  (LaidIn.of_run (l := [("unicode/utf8.acceptRanges", Rows.laid_unicode_utf8_acceptRanges), ("unicode/utf8.first", Rows.laid_unicode_utf8_first)]) [(Tryz.prog.globalNamed "unicode/utf8.first").get gF, (Tryz.prog.globalNamed "unicode/utf8.acceptRanges").get gA] 8 (by kernel_rfl) (by kernel_rfl) (by kernel_rfl) (by kernel_rfl)).met
theorem Tryz.sh9 : Shp Tryz.prog 9 cS (fun (s : List UInt8) => s.length ≤ reachBytes) := Shp.str (by kernel_rfl)
theorem Tryz.sh34 : Shp Tryz.prog 34 (cL 1 cS) (fun (l : List (List UInt8)) => l.length * 16 ≤ reachBytes ∧ ∀ a ∈ l, (fun (s : List UInt8) => s.length ≤ reachBytes) a) := Shp.slice (e := 9) (by kernel_rfl) (by kernel_rfl) (by kernel_rfl) Tryz.sh9
theorem Tryz.sh3 : Shp Tryz.prog 3 cI (inK .i64) := Shp.i64 (by kernel_rfl)
def SKindText.ok (x : SKindText) : Prop := (inK .i64) x.Kind ∧ (fun (s : List UInt8) => s.length ≤ reachBytes) x.Text ∧ True
theorem Tryz.sh109 : Shp Tryz.prog 109 SKindText.cells SKindText.ok := Shp.of (Shp.struct (ts := [3, 9]) (by kernel_rfl) (Shps.cons Tryz.sh3 (Shps.cons Tryz.sh9 Shps.nil))) (fun x => (⟨x.1, x.2.1⟩ : SKindText)) (fun _ => rfl) (fun _ h => h)
theorem Tryz.sh51 : Shp Tryz.prog 51 (cL 2 SKindText.cells) (fun (l : List SKindText) => l.length * 24 ≤ reachBytes ∧ ∀ a ∈ l, SKindText.ok a) := Shp.slice (e := 109) (by kernel_rfl) (by kernel_rfl) (by kernel_rfl) Tryz.sh109
def SInputsOpsOutput.ok (x : SInputsOpsOutput) : Prop := (fun (l : List (List UInt8)) => l.length * 16 ≤ reachBytes ∧ ∀ a ∈ l, (fun (s : List UInt8) => s.length ≤ reachBytes) a) x.Inputs ∧ (fun (l : List SKindText) => l.length * 24 ≤ reachBytes ∧ ∀ a ∈ l, SKindText.ok a) x.Ops ∧ (fun (s : List UInt8) => s.length ≤ reachBytes) x.Output ∧ True
theorem Tryz.sh53 : Shp Tryz.prog 53 SInputsOpsOutput.cells SInputsOpsOutput.ok := Shp.of (Shp.struct (ts := [34, 51, 9]) (by kernel_rfl) (Shps.cons Tryz.sh34 (Shps.cons Tryz.sh51 (Shps.cons Tryz.sh9 Shps.nil)))) (fun x => (⟨x.1, x.2.1, x.2.2.1⟩ : SInputsOpsOutput)) (fun _ => rfl) (fun _ h => h)
theorem Tryz.sh22 : Shp Tryz.prog 22 (cL 3 SInputsOpsOutput.cells) (fun (l : List SInputsOpsOutput) => l.length * 64 ≤ reachBytes ∧ ∀ a ∈ l, SInputsOpsOutput.ok a) := Shp.slice (e := 53) (by kernel_rfl) (by kernel_rfl) (by kernel_rfl) Tryz.sh53
def SPathLines.ok (x : SPathLines) : Prop := (fun (s : List UInt8) => s.length ≤ reachBytes) x.Path ∧ (fun (l : List (List UInt8)) => l.length * 16 ≤ reachBytes ∧ ∀ a ∈ l, (fun (s : List UInt8) => s.length ≤ reachBytes) a) x.Lines ∧ True
theorem Tryz.sh37 : Shp Tryz.prog 37 SPathLines.cells SPathLines.ok := Shp.of (Shp.struct (ts := [9, 34]) (by kernel_rfl) (Shps.cons Tryz.sh9 (Shps.cons Tryz.sh34 Shps.nil))) (fun x => (⟨x.1, x.2.1⟩ : SPathLines)) (fun _ => rfl) (fun _ h => h)
theorem Tryz.sh23 : Shp Tryz.prog 23 (cL 2 SPathLines.cells) (fun (l : List SPathLines) => l.length * 40 ≤ reachBytes ∧ ∀ a ∈ l, SPathLines.ok a) := Shp.slice (e := 37) (by kernel_rfl) (by kernel_rfl) (by kernel_rfl) Tryz.sh37
def SFiles.ok (x : SFiles) : Prop := (fun (l : List SPathLines) => l.length * 40 ≤ reachBytes ∧ ∀ a ∈ l, SPathLines.ok a) x.Files ∧ True
theorem Tryz.sh25 : Shp Tryz.prog 25 SFiles.cells SFiles.ok := Shp.of (Shp.struct (ts := [23]) (by kernel_rfl) (Shps.cons Tryz.sh23 Shps.nil)) (fun x => (⟨x.1⟩ : SFiles)) (fun _ => rfl) (fun _ h => h)
theorem params4 : Tryz.f4.params.toList = [22, 25] := by kernel_rfl
theorem law4 (qs : List PV) (h : TyVs Tryz.prog Tryz.f4.params.toList qs) : PSpec Tryz.prog 4 qs (.bool true) := by
  rw [params4] at h
  obtain ⟨⟨a0, a1, _⟩, rfl, hq⟩ := ((ShVs.cons (ShV.one (by kernel_rfl) Tryz.sh22 (fun l => .list 3 (l.map SInputsOpsOutput.cells)) (fun _ => rfl)) (ShVs.cons (ShV.agg (by kernel_rfl) Tryz.sh25) ShVs.nil)) : ShVs Tryz.prog [22, 25] _ _) qs h
  exact top_TopCachedBuildsAreReleases_spec 200 a0 a1 true (topCached_eq a0 a1 (fun f hf => Nat.lt_of_le_of_lt (hq.2.1.1.2 f hf).1 (by decide)))
set_option maxRecDepth 100000 in
theorem witnessRow4 (os : Os) {H : Type} (enc : TypeId × Value → H) :
    (OpenSpec.ofChange Rows.topCachedBuildsAreReleasesSpec).preRow enc Tryz.prog Tryz.f4 Rows.topCachedBuildsAreReleasesRow.domain false Rows.topCachedBuildsAreReleasesRow.laid ((laidWorld os).forCall (fun _ _ => 0) ⟨#[], #[.slice none 0 0, .agg #[.slice none 0 0]], []⟩).memory #[.slice none 0 0, .agg #[.slice none 0 0]] := by
  have hw : (DataW.whole enc Tryz.prog ((laidWorld os).forCall (fun _ _ => 0) ⟨#[], #[.slice none 0 0, .agg #[.slice none 0 0]], []⟩).memory Tryz.f4.params.toList (OpenSpec.ofChange Rows.topCachedBuildsAreReleasesSpec).vars false (#[.slice none 0 0, .agg #[.slice none 0 0]] : Array Value).toList 8).map (fun x => (x.1, x.2.1)) =
      some ([.nil, .agg [.nil]], []) := by kernel_rfl
  obtain ⟨⟨x1, x2, x3⟩, hx, hx1⟩ := Option.map_eq_some_iff.1 hw
  simp only [Prod.mk.injEq] at hx1
  obtain ⟨rfl, rfl⟩ := hx1
  exact OpenSpec.preRow_of_cond 8 hx (by kernel_rfl) (fun k hk => by cases hk) (by kernel_rfl) (laid_met os _)
theorem lifted4 (os : Os) (started : os.Started) (H : Type) (enc : TypeId × Value → H) (F : Stop.Interp) :
    ReturnsInHanded {} Tryz.checked os 4 .any ((OpenSpec.ofChange Rows.topCachedBuildsAreReleasesSpec).preRow enc Tryz.prog Tryz.f4 Rows.topCachedBuildsAreReleasesRow.domain false Rows.topCachedBuildsAreReleasesRow.laid) (((OpenSpec.ofChange Rows.topCachedBuildsAreReleasesSpec).at F).post enc Tryz.prog Tryz.f4 false true false false) := by
  refine law_lifted_row (C := Tryz.checked) (L := [3, 9, 22, 23, 25, 34, 37, 51, 53, 109]) (tb := 4) F Tryz.ownT started (by kernel_rfl) Tryz.func4
    (witness_row_atRef (enc := enc) (C := Tryz.checked) false (laidWorld os) #[.slice none 0 0, .agg #[.slice none 0 0]] rfl (by kernel_rfl) (by kernel_rfl) (by kernel_rfl) (witnessRow4 os enc))
    (by kernel_rfl) Tryz.laidOutT (by kernel_rfl) (by kernel_rfl) (by kernel_rfl) rfl ?_ law4
  intro ds hds
  match ds, hds with
  | [d0, d1], _ => rfl
theorem named4 : Tryz.prog.funcNamed Rows.topCachedBuildsAreReleasesRow.func = some 4 := by kernel_rfl
theorem goes4 : false = Rows.topCachedBuildsAreReleasesRow.goesBy Tryz.prog := by kernel_rfl
theorem inPlace4 : (Rows.topCachedBuildsAreReleasesRow.inPlace == Tryz.prog.inPlace 4) = true := by kernel_rfl
theorem unfol4 : (Rows.topCachedBuildsAreReleasesRow.unfollowed == Tryz.prog.unfollowed 4) = true := by kernel_rfl
theorem recur4 : (Rows.topCachedBuildsAreReleasesRow.recurses == Tryz.prog.recurses 4) = true := by kernel_rfl
theorem vnamed4 : (Rows.topCachedBuildsAreReleasesRow.named == Tryz.prog.varsNamed 4) = true := by kernel_rfl
theorem lift4 : (Rows.topCachedBuildsAreReleasesRow.lifted == Tryz.prog.liftsFinal) = true := (congrArg (fun z => (Rows.topCachedBuildsAreReleasesRow.lifted == z)) (eq_of_beq jLifted).symm).trans (by kernel_rfl)
theorem make4 : (Tryz.prog.make == some Rows.topCachedBuildsAreReleasesRow.make) = true := (congrArg (fun z => (z == some Rows.topCachedBuildsAreReleasesRow.make)) (eq_of_beq jMake)).trans (by kernel_rfl)
theorem closed4 : joinedFacts Tryz.prog 4 Tryz.f4 (OpenSpec.ofChange Rows.topCachedBuildsAreReleasesSpec).bare Rows.topCachedBuildsAreReleasesRow = true := by
  unfold joinedFacts
  exact (jBand (jBand (jBand (jBand (jBand (jBand (jBand (jBand (jBand (jBand (jBand (jBand (jBand (jBand (jBand (jBand (jBand (jBand (jBand (jBand (jBand (jBand (jBand (jBand (jBand (jBand (jBand (jBand (jBand (jBand (jBand (by kernel_rfl) Tryz.laidOutT) jMaps) (by kernel_rfl)) (by kernel_rfl)) (by kernel_rfl)) (by kernel_rfl)) (by kernel_rfl)) (by kernel_rfl)) inPlace4) unfol4) recur4) vnamed4) (by kernel_rfl)) (by kernel_rfl)) (by kernel_rfl)) (by kernel_rfl)) (by kernel_rfl)) (by kernel_rfl)) (by kernel_rfl)) (by kernel_rfl)) (by kernel_rfl)) (by kernel_rfl)) (by kernel_rfl)) jHeard) jMayEnter) lift4) make4) (by kernel_rfl)) (by kernel_rfl)) (by kernel_rfl)) (by kernel_rfl))
theorem row4 : Rows.TopCachedBuildsAreReleasesSaid :=
  OpenClaim.holds_of_cond 4 Tryz.f4 rfl rfl rfl rfl rfl rfl rfl ⟨rfl, rfl, rfl, rfl, rfl⟩ rfl rfl rfl rfl rfl named4 Tryz.func4 closed4
    (of_decide_eq_true (by kernel_rfl)) (by unfold Func.isWrapper; first | (rw [if_pos (by decide +kernel)]; kernel_rfl) | (rw [if_neg (by decide +kernel)]; exact ⟨rfl, rfl⟩))
    (fun os started H enc _ F => by rw [OpenClaim.pre_eq_preRow]; exact lifted4 os started H enc F)
theorem holds4 : Rows.TopCachedBuildsAreReleasesCardSaid :=
  Claim7.holds_tied_plain_at .later [] [.data, .pinned] true (true, "e00f3b78e43f3b62d51efc46742f5d6362e6d1ed6f74802d23cea43cb2c3fa67") false
    row4 (fun _ h => by cases h) (by kernel_rfl) (fun _ h => by cases h) topCachedBuildsAreReleases_row_tie rfl ⟨rfl, rfl⟩ jMain rfl
    (fun f fn hf hfn => by
      obtain rfl : f = 4 := Option.some.inj ((show Tryz.prog.funcNamed Rows.topCachedBuildsAreReleasesRow.func = some 4 from named4).symm.trans hf) |>.symm
      obtain rfl : fn = Tryz.f4 := (Option.some.inj (Tryz.func4.symm.trans hfn)).symm
      exact ⟨jLooks, fun j t ht => by
        have hm : t ∈ Tryz.f4.params.toList := by
          have := Array.mem_of_getElem? ht
          simpa using this
        rw [params4] at hm
        have hall : ([22, 25] : List TypeId).all (fun t => !Tryz.prog.wantsStandIn t) = true := by kernel_rfl
        have := List.all_eq_true.1 hall t hm
        exact (by simpa using this : Tryz.prog.wantsStandIn t = false)⟩)
    goes4
#print axioms holds4
end Go.Proofs.YtlkknmhhefjmjaaGreatDoor
