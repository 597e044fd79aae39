/- The given statements, from the plain laws: for every input the law returns true and leaves its arguments as they read; no condition beyond the row's own. -/
import Derived.Test.YtlkknmhhefjmjaaDoorRows
import Derived.Test.YtlkknmhhefjmjaaDoorPwShape
import Derived.JoinedCond
import Derived.Deep.DeepWitnessRowRef
import Derived.Lib.LaidIn
import Derived.Test.YtlkknmhhefjmjaaDoorCards
import Derived.Test.YtlkknmhhefjmjaaDoorTie
import Derived.ProofKit
import Derived.Test.YtlkknmhhefjmjaaDoorPE
import Derived.Test.YtlkknmhhefjmjaaDoorW7
import Derived.Test.YtlkknmhhefjmjaaDoorJ
namespace Go.Proofs.YtlkknmhhefjmjaaDoor
open Go.PW Go Go.RowKit Go.WideShapes Go.ChangeShapes Go.ChangeAt
theorem Tryd.ownT : ownKnob Tryd.prog.godebug = none := by kernel_rfl
theorem Tryd.laidOutT : laidOutB Tryd.prog = true := by kernel_rfl
open Go.Lib
theorem gF : (Tryd.prog.globalNamed "unicode/utf8.first").isSome = true := by kernel_rfl
theorem gA : (Tryd.prog.globalNamed "unicode/utf8.acceptRanges").isSome = true := by kernel_rfl
noncomputable def laidWorld (os : Os) : World :=
  let w0 := World.holding Tryd.prog os ⟨#[], #[], []⟩
  let put (h : Array Obj) (g : Nat) (cs : Array Value) : Array Obj := h.modify g fun
    | .cells _ t frozen => .cells cs t frozen
    | o => o
  let h1 := put w0.heap ((Tryd.prog.globalNamed "unicode/utf8.first").get gF) (Go.Pinned.utf8FirstZ.map fun (z : Nat) => Value.int .u8 (z : Int)).toArray
  let h2 := put h1 ((Tryd.prog.globalNamed "unicode/utf8.acceptRanges").get gA) #[.int .u8 128, .int .u8 191, .int .u8 160, .int .u8 191, .int .u8 128, .int .u8 159, .int .u8 144, .int .u8 191, .int .u8 128, .int .u8 143, .int .u8 0, .int .u8 0, .int .u8 0, .int .u8 0, .int .u8 0, .int .u8 0, .int .u8 0, .int .u8 0, .int .u8 0, .int .u8 0, .int .u8 0, .int .u8 0, .int .u8 0, .int .u8 0, .int .u8 0, .int .u8 0, .int .u8 0, .int .u8 0, .int .u8 0, .int .u8 0, .int .u8 0, .int .u8 0]
  { w0 with heap := h2 }
theorem laid_met (os : Os) (args : Array Value) : laidMet Tryd.prog [("unicode/utf8.acceptRanges", Rows.laid_unicode_utf8_acceptRanges), ("unicode/utf8.first", Rows.laid_unicode_utf8_first)] ((laidWorld os).forCall (fun _ _ => 0) ⟨#[], args, []⟩).memory :=
  (LaidIn.of_run (l := [("unicode/utf8.acceptRanges", Rows.laid_unicode_utf8_acceptRanges), ("unicode/utf8.first", Rows.laid_unicode_utf8_first)]) [(Tryd.prog.globalNamed "unicode/utf8.first").get gF, (Tryd.prog.globalNamed "unicode/utf8.acceptRanges").get gA] 8 (by kernel_rfl) (by kernel_rfl) (by kernel_rfl) (by kernel_rfl)).met
theorem Tryd.sh9 : Shp Tryd.prog 9 cS (fun (s : List UInt8) => s.length ≤ reachBytes) := Shp.str (by kernel_rfl)
theorem Tryd.sh23 : Shp Tryd.prog 23 (cL 1 cS) (fun (l : List (List UInt8)) => l.length * 16 ≤ reachBytes ∧ ∀ a ∈ l, (fun (s : List UInt8) => s.length ≤ reachBytes) a) := Shp.slice (e := 9) (by kernel_rfl) (by kernel_rfl) (by kernel_rfl) Tryd.sh9
theorem Tryd.sh3 : Shp Tryd.prog 3 cI (inK .i64) := Shp.i64 (by kernel_rfl)
def SKindText.ok (x : SKindText) : Prop := (inK .i64) x.Kind ∧ (fun (s : List UInt8) => s.length ≤ reachBytes) x.Text ∧ True
theorem Tryd.sh106 : Shp Tryd.prog 106 SKindText.cells SKindText.ok := Shp.of (Shp.struct (ts := [3, 9]) (by kernel_rfl) (Shps.cons Tryd.sh3 (Shps.cons Tryd.sh9 Shps.nil))) (fun x => (⟨x.1, x.2.1⟩ : SKindText)) (fun _ => rfl) (fun _ h => h)
theorem Tryd.sh41 : Shp Tryd.prog 41 (cL 2 SKindText.cells) (fun (l : List SKindText) => l.length * 24 ≤ reachBytes ∧ ∀ a ∈ l, SKindText.ok a) := Shp.slice (e := 106) (by kernel_rfl) (by kernel_rfl) (by kernel_rfl) Tryd.sh106
def SInputsOpsOutput.ok (x : SInputsOpsOutput) : Prop := (fun (l : List (List UInt8)) => l.length * 16 ≤ reachBytes ∧ ∀ a ∈ l, (fun (s : List UInt8) => s.length ≤ reachBytes) a) x.Inputs ∧ (fun (l : List SKindText) => l.length * 24 ≤ reachBytes ∧ ∀ a ∈ l, SKindText.ok a) x.Ops ∧ (fun (s : List UInt8) => s.length ≤ reachBytes) x.Output ∧ True
theorem Tryd.sh43 : Shp Tryd.prog 43 SInputsOpsOutput.cells SInputsOpsOutput.ok := Shp.of (Shp.struct (ts := [23, 41, 9]) (by kernel_rfl) (Shps.cons Tryd.sh23 (Shps.cons Tryd.sh41 (Shps.cons Tryd.sh9 Shps.nil)))) (fun x => (⟨x.1, x.2.1, x.2.2.1⟩ : SInputsOpsOutput)) (fun _ => rfl) (fun _ h => h)
theorem Tryd.sh53 : Shp Tryd.prog 53 (cL 3 SInputsOpsOutput.cells) (fun (l : List SInputsOpsOutput) => l.length * 64 ≤ reachBytes ∧ ∀ a ∈ l, SInputsOpsOutput.ok a) := Shp.slice (e := 43) (by kernel_rfl) (by kernel_rfl) (by kernel_rfl) Tryd.sh43
def SPathLines.ok (x : SPathLines) : Prop := (fun (s : List UInt8) => s.length ≤ reachBytes) x.Path ∧ (fun (l : List (List UInt8)) => l.length * 16 ≤ reachBytes ∧ ∀ a ∈ l, (fun (s : List UInt8) => s.length ≤ reachBytes) a) x.Lines ∧ True
theorem Tryd.sh103 : Shp Tryd.prog 103 SPathLines.cells SPathLines.ok := Shp.of (Shp.struct (ts := [9, 23]) (by kernel_rfl) (Shps.cons Tryd.sh9 (Shps.cons Tryd.sh23 Shps.nil))) (fun x => (⟨x.1, x.2.1⟩ : SPathLines)) (fun _ => rfl) (fun _ h => h)
theorem Tryd.sh44 : Shp Tryd.prog 44 (cL 2 SPathLines.cells) (fun (l : List SPathLines) => l.length * 40 ≤ reachBytes ∧ ∀ a ∈ l, SPathLines.ok a) := Shp.slice (e := 103) (by kernel_rfl) (by kernel_rfl) (by kernel_rfl) Tryd.sh103
def SFiles.ok (x : SFiles) : Prop := (fun (l : List SPathLines) => l.length * 40 ≤ reachBytes ∧ ∀ a ∈ l, SPathLines.ok a) x.Files ∧ True
theorem Tryd.sh46 : Shp Tryd.prog 46 SFiles.cells SFiles.ok := Shp.of (Shp.struct (ts := [44]) (by kernel_rfl) (Shps.cons Tryd.sh44 Shps.nil)) (fun x => (⟨x.1⟩ : SFiles)) (fun _ => rfl) (fun _ h => h)
theorem params6 : Tryd.f6.params.toList = [53, 43, 46] := by kernel_rfl
theorem law6 (qs : List PV) (h : TyVs Tryd.prog Tryd.f6.params.toList qs) : PSpec Tryd.prog 6 qs (.bool true) := by
  rw [params6] at h
  obtain ⟨⟨a0, a1, a2, _⟩, rfl, hq⟩ := ((ShVs.cons (ShV.one (by kernel_rfl) Tryd.sh53 (fun l => .list 3 (l.map SInputsOpsOutput.cells)) (fun _ => rfl)) (ShVs.cons (ShV.agg (by kernel_rfl) Tryd.sh43) (ShVs.cons (ShV.agg (by kernel_rfl) Tryd.sh46) ShVs.nil))) : ShVs Tryd.prog [53, 43, 46] _ _) qs h
  exact law6_ActioncacheHitsEqualRecomputation_spec 200 a0 a1 a2 true (cacheHits_eq a0 a1 a2 (fun f hf => (hq.2.2.1.1.2 f hf).1))
set_option maxRecDepth 100000 in
theorem witnessRow6 (os : Os) {H : Type} (enc : TypeId × Value → H) :
    (OpenSpec.ofChange Rows.actioncacheHitsEqualRecomputationSpec).preRow enc Tryd.prog Tryd.f6 Rows.actioncacheHitsEqualRecomputationRow.domain false Rows.actioncacheHitsEqualRecomputationRow.laid ((laidWorld os).forCall (fun _ _ => 0) ⟨#[], #[.slice none 0 0, .agg #[.slice none 0 0, .slice none 0 0, .string ⟨#[]⟩], .agg #[.slice none 0 0]], []⟩).memory #[.slice none 0 0, .agg #[.slice none 0 0, .slice none 0 0, .string ⟨#[]⟩], .agg #[.slice none 0 0]] := by
  have hw : (DataW.whole enc Tryd.prog ((laidWorld os).forCall (fun _ _ => 0) ⟨#[], #[.slice none 0 0, .agg #[.slice none 0 0, .slice none 0 0, .string ⟨#[]⟩], .agg #[.slice none 0 0]], []⟩).memory Tryd.f6.params.toList (OpenSpec.ofChange Rows.actioncacheHitsEqualRecomputationSpec).vars false (#[.slice none 0 0, .agg #[.slice none 0 0, .slice none 0 0, .string ⟨#[]⟩], .agg #[.slice none 0 0]] : Array Value).toList 8).map (fun x => (x.1, x.2.1)) =
      some ([.nil, .agg [.nil, .nil, .lit (.string [])], .agg [.nil]], []) := by kernel_rfl
  obtain ⟨⟨x1, x2, x3⟩, hx, hx1⟩ := Option.map_eq_some_iff.1 hw
  simp only [Prod.mk.injEq] at hx1
  obtain ⟨rfl, rfl⟩ := hx1
  exact OpenSpec.preRow_of_cond 8 hx (by kernel_rfl) (fun k hk => by cases hk) (by kernel_rfl) (laid_met os _)
theorem lifted6 (os : Os) (started : os.Started) (H : Type) (enc : TypeId × Value → H) (F : Stop.Interp) :
    ReturnsInHanded {} Tryd.checked os 6 .any ((OpenSpec.ofChange Rows.actioncacheHitsEqualRecomputationSpec).preRow enc Tryd.prog Tryd.f6 Rows.actioncacheHitsEqualRecomputationRow.domain false Rows.actioncacheHitsEqualRecomputationRow.laid) (((OpenSpec.ofChange Rows.actioncacheHitsEqualRecomputationSpec).at F).post enc Tryd.prog Tryd.f6 false true false false) := by
  refine law_lifted_row (C := Tryd.checked) (L := [3, 9, 23, 41, 43, 44, 46, 53, 103, 106]) (tb := 4) F Tryd.ownT started (by kernel_rfl) Tryd.func6
    (witness_row_atRef (enc := enc) (C := Tryd.checked) false (laidWorld os) #[.slice none 0 0, .agg #[.slice none 0 0, .slice none 0 0, .string ⟨#[]⟩], .agg #[.slice none 0 0]] rfl (by kernel_rfl) (by kernel_rfl) (by kernel_rfl) (witnessRow6 os enc))
    (by kernel_rfl) Tryd.laidOutT (by kernel_rfl) (by kernel_rfl) (by kernel_rfl) rfl ?_ law6
  intro ds hds
  match ds, hds with
  | [d0, d1, d2], _ => rfl
theorem named6 : Tryd.prog.funcNamed Rows.actioncacheHitsEqualRecomputationRow.func = some 6 := by kernel_rfl
theorem goes6 : false = Rows.actioncacheHitsEqualRecomputationRow.goesBy Tryd.prog := by kernel_rfl
theorem inPlace6 : (Rows.actioncacheHitsEqualRecomputationRow.inPlace == Tryd.prog.inPlace 6) = true := by kernel_rfl
theorem unfol6 : (Rows.actioncacheHitsEqualRecomputationRow.unfollowed == Tryd.prog.unfollowed 6) = true := by kernel_rfl
theorem recur6 : (Rows.actioncacheHitsEqualRecomputationRow.recurses == Tryd.prog.recurses 6) = true := by kernel_rfl
theorem vnamed6 : (Rows.actioncacheHitsEqualRecomputationRow.named == Tryd.prog.varsNamed 6) = true := by kernel_rfl
theorem lift6 : (Rows.actioncacheHitsEqualRecomputationRow.lifted == Tryd.prog.liftsFinal) = true := (congrArg (fun z => (Rows.actioncacheHitsEqualRecomputationRow.lifted == z)) (eq_of_beq jLifted).symm).trans (by kernel_rfl)
theorem make6 : (Tryd.prog.make == some Rows.actioncacheHitsEqualRecomputationRow.make) = true := (congrArg (fun z => (z == some Rows.actioncacheHitsEqualRecomputationRow.make)) (eq_of_beq jMake)).trans (by kernel_rfl)
theorem closed6 : joinedFacts Tryd.prog 6 Tryd.f6 (OpenSpec.ofChange Rows.actioncacheHitsEqualRecomputationSpec).bare Rows.actioncacheHitsEqualRecomputationRow = true := by
  unfold joinedFacts
  exact (jBand (jBand (jBand (jBand (jBand (jBand (jBand (jBand (jBand (jBand (jBand (jBand (jBand (jBand (jBand (jBand (jBand (jBand (jBand (jBand (jBand (jBand (jBand (jBand (jBand (jBand (jBand (jBand (jBand (jBand (jBand (by kernel_rfl) Tryd.laidOutT) jMaps) (by kernel_rfl)) (by kernel_rfl)) (by kernel_rfl)) (by kernel_rfl)) (by kernel_rfl)) (by kernel_rfl)) inPlace6) unfol6) recur6) vnamed6) (by kernel_rfl)) (by kernel_rfl)) (by kernel_rfl)) (by kernel_rfl)) (by kernel_rfl)) (by kernel_rfl)) (by kernel_rfl)) (by kernel_rfl)) (by kernel_rfl)) (by kernel_rfl)) (by kernel_rfl)) jHeard) jMayEnter) lift6) make6) (by kernel_rfl)) (by kernel_rfl)) (by kernel_rfl)) (by kernel_rfl))
theorem row6 : Rows.ActioncacheHitsEqualRecomputationSaid :=
  OpenClaim.holds_of_cond 6 Tryd.f6 rfl rfl rfl rfl rfl rfl rfl ⟨rfl, rfl, rfl, rfl, rfl⟩ rfl rfl rfl rfl rfl named6 Tryd.func6 closed6
    (of_decide_eq_true (by kernel_rfl)) (by unfold Func.isWrapper; first | (rw [if_pos (by decide +kernel)]; kernel_rfl) | (rw [if_neg (by decide +kernel)]; exact ⟨rfl, rfl⟩))
    (fun os started H enc _ F => by rw [OpenClaim.pre_eq_preRow]; exact lifted6 os started H enc F)
theorem holds6 : Rows.ActioncacheHitsEqualRecomputationCardSaid :=
  Claim7.holds_tied_plain_at .later [] [.data, .pinned] true (true, "27a51ec012144873418275e0e4e6cec471bb16b3db4d9af00704d91acf900886") false
    row6 (fun _ h => by cases h) (by kernel_rfl) (fun _ h => by cases h) actioncacheHitsEqualRecomputation_row_tie rfl ⟨rfl, rfl⟩ jMain rfl
    (fun f fn hf hfn => by
      obtain rfl : f = 6 := Option.some.inj ((show Tryd.prog.funcNamed Rows.actioncacheHitsEqualRecomputationRow.func = some 6 from named6).symm.trans hf) |>.symm
      obtain rfl : fn = Tryd.f6 := (Option.some.inj (Tryd.func6.symm.trans hfn)).symm
      exact ⟨jLooks, fun j t ht => by
        have hm : t ∈ Tryd.f6.params.toList := by
          have := Array.mem_of_getElem? ht
          simpa using this
        rw [params6] at hm
        have hall : ([53, 43, 46] : List TypeId).all (fun t => !Tryd.prog.wantsStandIn t) = true := by kernel_rfl
        have := List.all_eq_true.1 hall t hm
        exact (by simpa using this : Tryd.prog.wantsStandIn t = false)⟩)
    goes6
#print axioms holds6
end Go.Proofs.YtlkknmhhefjmjaaDoor
