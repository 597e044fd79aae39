/- The given statements, from the plain laws: for every input the law returns true and leaves its arguments as they read; no condition beyond the row's own. -/
import Derived.Test.YtlkknmhhefjmjaaGreatDoorRows
import Derived.Test.YtlkknmhhefjmjaaGreatDoorPwShape
import Derived.JoinedCond
import Derived.Deep.DeepWitnessRowRef
import Derived.Lib.LaidIn
import Derived.Test.YtlkknmhhefjmjaaGreatDoorCards
import Derived.Test.YtlkknmhhefjmjaaGreatDoorTie
import Derived.ProofKit
import Derived.Test.YtlkknmhhefjmjaaGreatDoorPE
import Derived.Test.YtlkknmhhefjmjaaGreatDoorWB
import Derived.Test.YtlkknmhhefjmjaaGreatDoorJ
namespace Go.Proofs.YtlkknmhhefjmjaaGreatDoor
open Go.PW Go Go.RowKit Go.WideShapes Go.ChangeShapes Go.ChangeAt
theorem Tryz.ownT : ownKnob Tryz.prog.godebug = none := by kernel_rfl
theorem Tryz.laidOutT : laidOutB Tryz.prog = true := by kernel_rfl
open Go.Lib
theorem gF : (Tryz.prog.globalNamed "unicode/utf8.first").isSome = true := by kernel_rfl
theorem gA : (Tryz.prog.globalNamed "unicode/utf8.acceptRanges").isSome = true := by kernel_rfl
noncomputable def laidWorld (os : Os) : World :=
  let w0 := World.holding Tryz.prog os ⟨#[], #[], []⟩
  let put (h : Array Obj) (g : Nat) (cs : Array Value) : Array Obj := h.modify g fun
    | .cells _ t frozen => .cells cs t frozen
    | o => o
  let h1 := put w0.heap ((Tryz.prog.globalNamed "unicode/utf8.first").get gF) (Go.Pinned.utf8FirstZ.map fun (z : Nat) => Value.int .u8 (z : Int)).toArray
  let h2 := put h1 ((Tryz.prog.globalNamed "unicode/utf8.acceptRanges").get gA) #[.int .u8 128, .int .u8 191, .int .u8 160, .int .u8 191, .int .u8 128, .int .u8 159, .int .u8 144, .int .u8 191, .int .u8 128, .int .u8 143, .int .u8 0, .int .u8 0, .int .u8 0, .int .u8 0, .int .u8 0, .int .u8 0, .int .u8 0, .int .u8 0, .int .u8 0, .int .u8 0, .int .u8 0, .int .u8 0, .int .u8 0, .int .u8 0, .int .u8 0, .int .u8 0, .int .u8 0, .int .u8 0, .int .u8 0, .int .u8 0, .int .u8 0, .int .u8 0]
  { w0 with heap := h2 }
theorem laid_met (os : Os) (args : Array Value) : laidMet Tryz.prog [("unicode/utf8.acceptRanges", Rows.laid_unicode_utf8_acceptRanges), ("unicode/utf8.first", Rows.laid_unicode_utf8_first)] ((laidWorld os).forCall (fun _ _ => 0) ⟨#[], args, []⟩).memory :=
  (LaidIn.of_run (l := [("unicode/utf8.acceptRanges", Rows.laid_unicode_utf8_acceptRanges), ("unicode/utf8.first", Rows.laid_unicode_utf8_first)]) [(Tryz.prog.globalNamed "unicode/utf8.first").get gF, (Tryz.prog.globalNamed "unicode/utf8.acceptRanges").get gA] 8 (by kernel_rfl) (by kernel_rfl) (by kernel_rfl) (by kernel_rfl)).met
theorem Tryz.sh9 : Shp Tryz.prog 9 cS (fun (s : List UInt8) => s.length ≤ reachBytes) := Shp.str (by kernel_rfl)
theorem Tryz.sh34 : Shp Tryz.prog 34 (cL 1 cS) (fun (l : List (List UInt8)) => l.length * 16 ≤ reachBytes ∧ ∀ a ∈ l, (fun (s : List UInt8) => s.length ≤ reachBytes) a) := Shp.slice (e := 9) (by kernel_rfl) (by kernel_rfl) (by kernel_rfl) Tryz.sh9
theorem Tryz.sh3 : Shp Tryz.prog 3 cI (inK .i64) := Shp.i64 (by kernel_rfl)
def SKindText.ok (x : SKindText) : Prop := (inK .i64) x.Kind ∧ (fun (s : List UInt8) => s.length ≤ reachBytes) x.Text ∧ True
theorem Tryz.sh109 : Shp Tryz.prog 109 SKindText.cells SKindText.ok := Shp.of (Shp.struct (ts := [3, 9]) (by kernel_rfl) (Shps.cons Tryz.sh3 (Shps.cons Tryz.sh9 Shps.nil))) (fun x => (⟨x.1, x.2.1⟩ : SKindText)) (fun _ => rfl) (fun _ h => h)
theorem Tryz.sh51 : Shp Tryz.prog 51 (cL 2 SKindText.cells) (fun (l : List SKindText) => l.length * 24 ≤ reachBytes ∧ ∀ a ∈ l, SKindText.ok a) := Shp.slice (e := 109) (by kernel_rfl) (by kernel_rfl) (by kernel_rfl) Tryz.sh109
def SInputsOpsOutput.ok (x : SInputsOpsOutput) : Prop := (fun (l : List (List UInt8)) => l.length * 16 ≤ reachBytes ∧ ∀ a ∈ l, (fun (s : List UInt8) => s.length ≤ reachBytes) a) x.Inputs ∧ (fun (l : List SKindText) => l.length * 24 ≤ reachBytes ∧ ∀ a ∈ l, SKindText.ok a) x.Ops ∧ (fun (s : List UInt8) => s.length ≤ reachBytes) x.Output ∧ True
theorem Tryz.sh53 : Shp Tryz.prog 53 SInputsOpsOutput.cells SInputsOpsOutput.ok := Shp.of (Shp.struct (ts := [34, 51, 9]) (by kernel_rfl) (Shps.cons Tryz.sh34 (Shps.cons Tryz.sh51 (Shps.cons Tryz.sh9 Shps.nil)))) (fun x => (⟨x.1, x.2.1, x.2.2.1⟩ : SInputsOpsOutput)) (fun _ => rfl) (fun _ h => h)
def SPathLines.ok (x : SPathLines) : Prop := (fun (s : List UInt8) => s.length ≤ reachBytes) x.Path ∧ (fun (l : List (List UInt8)) => l.length * 16 ≤ reachBytes ∧ ∀ a ∈ l, (fun (s : List UInt8) => s.length ≤ reachBytes) a) x.Lines ∧ True
theorem Tryz.sh37 : Shp Tryz.prog 37 SPathLines.cells SPathLines.ok := Shp.of (Shp.struct (ts := [9, 34]) (by kernel_rfl) (Shps.cons Tryz.sh9 (Shps.cons Tryz.sh34 Shps.nil))) (fun x => (⟨x.1, x.2.1⟩ : SPathLines)) (fun _ => rfl) (fun _ h => h)
theorem Tryz.sh23 : Shp Tryz.prog 23 (cL 2 SPathLines.cells) (fun (l : List SPathLines) => l.length * 40 ≤ reachBytes ∧ ∀ a ∈ l, SPathLines.ok a) := Shp.slice (e := 37) (by kernel_rfl) (by kernel_rfl) (by kernel_rfl) Tryz.sh37
def SFiles.ok (x : SFiles) : Prop := (fun (l : List SPathLines) => l.length * 40 ≤ reachBytes ∧ ∀ a ∈ l, SPathLines.ok a) x.Files ∧ True
theorem Tryz.sh25 : Shp Tryz.prog 25 SFiles.cells SFiles.ok := Shp.of (Shp.struct (ts := [23]) (by kernel_rfl) (Shps.cons Tryz.sh23 Shps.nil)) (fun x => (⟨x.1⟩ : SFiles)) (fun _ => rfl) (fun _ h => h)
theorem Tryz.sh40 : Shp Tryz.prog 40 (cL 1 cI) (fun (l : List Int) => l.length * 8 ≤ reachBytes ∧ ∀ a ∈ l, (inK .i64) a) := Shp.slice (e := 3) (by kernel_rfl) (by kernel_rfl) (by kernel_rfl) Tryz.sh3
theorem params5 : Tryz.f5.params.toList = [53, 25, 3, 40] := by kernel_rfl
theorem law5 (qs : List PV) (h : TyVs Tryz.prog Tryz.f5.params.toList qs) : PSpec Tryz.prog 5 qs (.bool true) := by
  rw [params5] at h
  obtain ⟨⟨a0, a1, a2, a3, _⟩, rfl, hq⟩ := ((ShVs.cons (ShV.agg (by kernel_rfl) Tryz.sh53) (ShVs.cons (ShV.agg (by kernel_rfl) Tryz.sh25) (ShVs.cons (ShV.one (by kernel_rfl) Tryz.sh3 (fun n => .int .i64 n) (fun _ => rfl)) (ShVs.cons (ShV.one (by kernel_rfl) Tryz.sh40 (fun l => .list 1 (l.map cI)) (fun _ => rfl)) ShVs.nil)))) : ShVs Tryz.prog [53, 25, 3, 40] _ _) qs h
  exact top_TopHonestReplaysDecide_spec 200 a0 a1 a2 a3 true (topHonest_eq a0 a1 a2 a3 (fun f hf => (hq.2.1.1.2 f hf).1))
set_option maxRecDepth 100000 in
theorem witnessRow5 (os : Os) {H : Type} (enc : TypeId × Value → H) :
    (OpenSpec.ofChange Rows.topHonestReplaysDecideSpec).preRow enc Tryz.prog Tryz.f5 Rows.topHonestReplaysDecideRow.domain false Rows.topHonestReplaysDecideRow.laid ((laidWorld os).forCall (fun _ _ => 0) ⟨#[], #[.agg #[.slice none 0 0, .slice none 0 0, .string ⟨#[]⟩], .agg #[.slice none 0 0], .int .i64 0, .slice none 0 0], []⟩).memory #[.agg #[.slice none 0 0, .slice none 0 0, .string ⟨#[]⟩], .agg #[.slice none 0 0], .int .i64 0, .slice none 0 0] := by
  have hw : (DataW.whole enc Tryz.prog ((laidWorld os).forCall (fun _ _ => 0) ⟨#[], #[.agg #[.slice none 0 0, .slice none 0 0, .string ⟨#[]⟩], .agg #[.slice none 0 0], .int .i64 0, .slice none 0 0], []⟩).memory Tryz.f5.params.toList (OpenSpec.ofChange Rows.topHonestReplaysDecideSpec).vars false (#[.agg #[.slice none 0 0, .slice none 0 0, .string ⟨#[]⟩], .agg #[.slice none 0 0], .int .i64 0, .slice none 0 0] : Array Value).toList 8).map (fun x => (x.1, x.2.1)) =
      some ([.agg [.nil, .nil, .lit (.string [])], .agg [.nil], .lit (.int .i64 0), .nil], []) := by kernel_rfl
  obtain ⟨⟨x1, x2, x3⟩, hx, hx1⟩ := Option.map_eq_some_iff.1 hw
  simp only [Prod.mk.injEq] at hx1
  obtain ⟨rfl, rfl⟩ := hx1
  exact OpenSpec.preRow_of_cond 8 hx (by kernel_rfl) (fun k hk => by cases hk) (by kernel_rfl) (laid_met os _)
theorem lifted5 (os : Os) (started : os.Started) (H : Type) (enc : TypeId × Value → H) (F : Stop.Interp) :
    ReturnsInHanded {} Tryz.checked os 5 .any ((OpenSpec.ofChange Rows.topHonestReplaysDecideSpec).preRow enc Tryz.prog Tryz.f5 Rows.topHonestReplaysDecideRow.domain false Rows.topHonestReplaysDecideRow.laid) (((OpenSpec.ofChange Rows.topHonestReplaysDecideSpec).at F).post enc Tryz.prog Tryz.f5 false true false false) := by
  refine law_lifted_row (C := Tryz.checked) (L := [3, 9, 23, 25, 34, 37, 40, 51, 53, 109]) (tb := 4) F Tryz.ownT started (by kernel_rfl) Tryz.func5
    (witness_row_atRef (enc := enc) (C := Tryz.checked) false (laidWorld os) #[.agg #[.slice none 0 0, .slice none 0 0, .string ⟨#[]⟩], .agg #[.slice none 0 0], .int .i64 0, .slice none 0 0] rfl (by kernel_rfl) (by kernel_rfl) (by kernel_rfl) (witnessRow5 os enc))
    (by kernel_rfl) Tryz.laidOutT (by kernel_rfl) (by kernel_rfl) (by kernel_rfl) rfl ?_ law5
  intro ds hds
  match ds, hds with
  | [d0, d1, d2, d3], _ => rfl
theorem named5 : Tryz.prog.funcNamed Rows.topHonestReplaysDecideRow.func = some 5 := by kernel_rfl
theorem goes5 : false = Rows.topHonestReplaysDecideRow.goesBy Tryz.prog := by kernel_rfl
theorem inPlace5 : (Rows.topHonestReplaysDecideRow.inPlace == Tryz.prog.inPlace 5) = true := by kernel_rfl
theorem unfol5 : (Rows.topHonestReplaysDecideRow.unfollowed == Tryz.prog.unfollowed 5) = true := by kernel_rfl
theorem recur5 : (Rows.topHonestReplaysDecideRow.recurses == Tryz.prog.recurses 5) = true := by kernel_rfl
theorem vnamed5 : (Rows.topHonestReplaysDecideRow.named == Tryz.prog.varsNamed 5) = true := by kernel_rfl
theorem lift5 : (Rows.topHonestReplaysDecideRow.lifted == Tryz.prog.liftsFinal) = true := (congrArg (fun z => (Rows.topHonestReplaysDecideRow.lifted == z)) (eq_of_beq jLifted).symm).trans (by kernel_rfl)
theorem make5 : (Tryz.prog.make == some Rows.topHonestReplaysDecideRow.make) = true := (congrArg (fun z => (z == some Rows.topHonestReplaysDecideRow.make)) (eq_of_beq jMake)).trans (by kernel_rfl)
theorem closed5 : joinedFacts Tryz.prog 5 Tryz.f5 (OpenSpec.ofChange Rows.topHonestReplaysDecideSpec).bare Rows.topHonestReplaysDecideRow = true := by
  unfold joinedFacts
  exact (jBand (jBand (jBand (jBand (jBand (jBand (jBand (jBand (jBand (jBand (jBand (jBand (jBand (jBand (jBand (jBand (jBand (jBand (jBand (jBand (jBand (jBand (jBand (jBand (jBand (jBand (jBand (jBand (jBand (jBand (jBand (by kernel_rfl) Tryz.laidOutT) jMaps) (by kernel_rfl)) (by kernel_rfl)) (by kernel_rfl)) (by kernel_rfl)) (by kernel_rfl)) (by kernel_rfl)) inPlace5) unfol5) recur5) vnamed5) (by kernel_rfl)) (by kernel_rfl)) (by kernel_rfl)) (by kernel_rfl)) (by kernel_rfl)) (by kernel_rfl)) (by kernel_rfl)) (by kernel_rfl)) (by kernel_rfl)) (by kernel_rfl)) (by kernel_rfl)) jHeard) jMayEnter) lift5) make5) (by kernel_rfl)) (by kernel_rfl)) (by kernel_rfl)) (by kernel_rfl))
theorem row5 : Rows.TopHonestReplaysDecideSaid :=
  OpenClaim.holds_of_cond 5 Tryz.f5 rfl rfl rfl rfl rfl rfl rfl ⟨rfl, rfl, rfl, rfl, rfl⟩ rfl rfl rfl rfl rfl named5 Tryz.func5 closed5
    (of_decide_eq_true (by kernel_rfl)) (by unfold Func.isWrapper; first | (rw [if_pos (by decide +kernel)]; kernel_rfl) | (rw [if_neg (by decide +kernel)]; exact ⟨rfl, rfl⟩))
    (fun os started H enc _ F => by rw [OpenClaim.pre_eq_preRow]; exact lifted5 os started H enc F)
theorem holds5 : Rows.TopHonestReplaysDecideCardSaid :=
  Claim7.holds_tied_plain_at .later [] [.data, .pinned] true (true, "e00f3b78e43f3b62d51efc46742f5d6362e6d1ed6f74802d23cea43cb2c3fa67") false
    row5 (fun _ h => by cases h) (by kernel_rfl) (fun _ h => by cases h) topHonestReplaysDecide_row_tie rfl ⟨rfl, rfl⟩ jMain rfl
    (fun f fn hf hfn => by
      obtain rfl : f = 5 := Option.some.inj ((show Tryz.prog.funcNamed Rows.topHonestReplaysDecideRow.func = some 5 from named5).symm.trans hf) |>.symm
      obtain rfl : fn = Tryz.f5 := (Option.some.inj (Tryz.func5.symm.trans hfn)).symm
      exact ⟨jLooks, fun j t ht => by
        have hm : t ∈ Tryz.f5.params.toList := by
          have := Array.mem_of_getElem? ht
          simpa using this
        rw [params5] at hm
        have hall : ([53, 25, 3, 40] : List TypeId).all (fun t => !Tryz.prog.wantsStandIn t) = true := by kernel_rfl
        have := List.all_eq_true.1 hall t hm
        exact (by simpa using this : Tryz.prog.wantsStandIn t = false)⟩)
    goes5
#print axioms holds5
end Go.Proofs.YtlkknmhhefjmjaaGreatDoor
