/- The given statements, from the plain laws: for every input the law returns true and leaves its arguments as they read; no condition beyond the row's own. -/
import Derived.Test.YtadeoaglhaaimaaDoorRows
import Derived.Test.YtadeoaglhaaimaaDoorPwShape
import Derived.JoinedCond
import Derived.Deep.DeepWitnessRowRef
import Derived.Lib.LaidIn
import Derived.Test.YtadeoaglhaaimaaDoorCards
import Derived.Test.YtadeoaglhaaimaaDoorTie
import Derived.ProofKit
import Derived.Test.YtadeoaglhaaimaaDoorPF
import Derived.Test.YtadeoaglhaaimaaDoorW3
namespace Go.Proofs.YtadeoaglhaaimaaDoor
open Go.PW Go Go.RowKit Go.WideShapes Go.ChangeShapes Go.ChangeAt
theorem Tryd.ownT : ownKnob Tryd.prog.godebug = none := by kernel_rfl
theorem Tryd.laidOutT : laidOutB Tryd.prog = true := by kernel_rfl
open Go.Lib
theorem gF : (Tryd.prog.globalNamed "unicode/utf8.first").isSome = true := by kernel_rfl
theorem gA : (Tryd.prog.globalNamed "unicode/utf8.acceptRanges").isSome = true := by kernel_rfl
/-- the witness: the two tables hold what their initialisers lay -/
noncomputable def laidWorld (os : Os) : World :=
  let w0 := World.holding Tryd.prog os ⟨#[], #[], []⟩
  let put (h : Array Obj) (g : Nat) (cs : Array Value) : Array Obj := h.modify g fun
    | .cells _ t frozen => .cells cs t frozen
    | o => o
  let h1 := put w0.heap ((Tryd.prog.globalNamed "unicode/utf8.first").get gF) (Go.Pinned.utf8FirstZ.map fun (z : Nat) => Value.int .u8 (z : Int)).toArray
  let h2 := put h1 ((Tryd.prog.globalNamed "unicode/utf8.acceptRanges").get gA) #[.int .u8 128, .int .u8 191, .int .u8 160, .int .u8 191, .int .u8 128, .int .u8 159, .int .u8 144, .int .u8 191, .int .u8 128, .int .u8 143, .int .u8 0, .int .u8 0, .int .u8 0, .int .u8 0, .int .u8 0, .int .u8 0, .int .u8 0, .int .u8 0, .int .u8 0, .int .u8 0, .int .u8 0, .int .u8 0, .int .u8 0, .int .u8 0, .int .u8 0, .int .u8 0, .int .u8 0, .int .u8 0, .int .u8 0, .int .u8 0, .int .u8 0, .int .u8 0]
  { w0 with heap := h2 }
theorem laid_met (os : Os) (args : Array Value) : laidMet Tryd.prog [("unicode/utf8.acceptRanges", Rows.laid_unicode_utf8_acceptRanges), ("unicode/utf8.first", Rows.laid_unicode_utf8_first)] ((laidWorld os).forCall (fun _ _ => 0) ⟨#[], args, []⟩).memory :=
  (LaidIn.of_run (l := [("unicode/utf8.acceptRanges", Rows.laid_unicode_utf8_acceptRanges), ("unicode/utf8.first", Rows.laid_unicode_utf8_first)]) [(Tryd.prog.globalNamed "unicode/utf8.first").get gF, (Tryd.prog.globalNamed "unicode/utf8.acceptRanges").get gA] 8 (by kernel_rfl) (by kernel_rfl) (by kernel_rfl) (by kernel_rfl)).met
theorem Tryd.sh9 : Shp Tryd.prog 9 cS (fun (s : List UInt8) => s.length ≤ reachBytes) := Shp.str (by kernel_rfl)
theorem Tryd.sh22 : Shp Tryd.prog 22 (cL 1 cS) (fun (l : List (List UInt8)) => l.length * 16 ≤ reachBytes ∧ ∀ a ∈ l, (fun (s : List UInt8) => s.length ≤ reachBytes) a) := Shp.slice (e := 9) (by kernel_rfl) (by kernel_rfl) (by kernel_rfl) Tryd.sh9
theorem Tryd.sh3 : Shp Tryd.prog 3 cI (inK .i64) := Shp.i64 (by kernel_rfl)
def SKindText.ok (x : SKindText) : Prop := (inK .i64) x.Kind ∧ (fun (s : List UInt8) => s.length ≤ reachBytes) x.Text ∧ True
theorem Tryd.sh47 : Shp Tryd.prog 47 SKindText.cells SKindText.ok := Shp.of (Shp.struct (ts := [3, 9]) (by kernel_rfl) (Shps.cons Tryd.sh3 (Shps.cons Tryd.sh9 Shps.nil))) (fun x => (⟨x.1, x.2.1⟩ : SKindText)) (fun _ => rfl) (fun _ h => h)
theorem Tryd.sh23 : Shp Tryd.prog 23 (cL 2 SKindText.cells) (fun (l : List SKindText) => l.length * 24 ≤ reachBytes ∧ ∀ a ∈ l, SKindText.ok a) := Shp.slice (e := 47) (by kernel_rfl) (by kernel_rfl) (by kernel_rfl) Tryd.sh47
def SInputsOpsOutput.ok (x : SInputsOpsOutput) : Prop := (fun (l : List (List UInt8)) => l.length * 16 ≤ reachBytes ∧ ∀ a ∈ l, (fun (s : List UInt8) => s.length ≤ reachBytes) a) x.Inputs ∧ (fun (l : List SKindText) => l.length * 24 ≤ reachBytes ∧ ∀ a ∈ l, SKindText.ok a) x.Ops ∧ (fun (s : List UInt8) => s.length ≤ reachBytes) x.Output ∧ True
theorem Tryd.sh25 : Shp Tryd.prog 25 SInputsOpsOutput.cells SInputsOpsOutput.ok := Shp.of (Shp.struct (ts := [22, 23, 9]) (by kernel_rfl) (Shps.cons Tryd.sh22 (Shps.cons Tryd.sh23 (Shps.cons Tryd.sh9 Shps.nil)))) (fun x => (⟨x.1, x.2.1, x.2.2.1⟩ : SInputsOpsOutput)) (fun _ => rfl) (fun _ h => h)
def SPathLines.ok (x : SPathLines) : Prop := (fun (s : List UInt8) => s.length ≤ reachBytes) x.Path ∧ (fun (l : List (List UInt8)) => l.length * 16 ≤ reachBytes ∧ ∀ a ∈ l, (fun (s : List UInt8) => s.length ≤ reachBytes) a) x.Lines ∧ True
theorem Tryd.sh61 : Shp Tryd.prog 61 SPathLines.cells SPathLines.ok := Shp.of (Shp.struct (ts := [9, 22]) (by kernel_rfl) (Shps.cons Tryd.sh9 (Shps.cons Tryd.sh22 Shps.nil))) (fun x => (⟨x.1, x.2.1⟩ : SPathLines)) (fun _ => rfl) (fun _ h => h)
theorem Tryd.sh26 : Shp Tryd.prog 26 (cL 2 SPathLines.cells) (fun (l : List SPathLines) => l.length * 40 ≤ reachBytes ∧ ∀ a ∈ l, SPathLines.ok a) := Shp.slice (e := 61) (by kernel_rfl) (by kernel_rfl) (by kernel_rfl) Tryd.sh61
def SFiles.ok (x : SFiles) : Prop := (fun (l : List SPathLines) => l.length * 40 ≤ reachBytes ∧ ∀ a ∈ l, SPathLines.ok a) x.Files ∧ True
theorem Tryd.sh28 : Shp Tryd.prog 28 SFiles.cells SFiles.ok := Shp.of (Shp.struct (ts := [26]) (by kernel_rfl) (Shps.cons Tryd.sh26 Shps.nil)) (fun x => (⟨x.1⟩ : SFiles)) (fun _ => rfl) (fun _ h => h)
theorem params7 : Tryd.f7.params.toList = [25, 28] := by kernel_rfl
theorem law7 (qs : List PV) (h : TyVs Tryd.prog Tryd.f7.params.toList qs) : PSpec Tryd.prog 7 qs (.bool true) := by
  rw [params7] at h
  obtain ⟨⟨a0, a1, _⟩, rfl, hq⟩ := ((ShVs.cons (ShV.agg (by kernel_rfl) Tryd.sh25) (ShVs.cons (ShV.agg (by kernel_rfl) Tryd.sh28) ShVs.nil)) : ShVs Tryd.prog [25, 28] _ _) qs h
  exact law6_SandboxFinalOperations_spec 200 a0 a1 true (Final_eq a0 a1 (fun f hf => ⟨(hq.2.1.1.2 f hf).1, by have h : f.Lines.length * 16 ≤ reachBytes := (hq.2.1.1.2 f hf).2.1.1; omega⟩))
set_option maxRecDepth 100000 in
theorem witnessRow7 (os : Os) {H : Type} (enc : TypeId × Value → H) :
    (OpenSpec.ofChange Rows.sandboxFinalOperationsSpec).preRow enc Tryd.prog Tryd.f7 Rows.sandboxFinalOperationsRow.domain false Rows.sandboxFinalOperationsRow.laid ((laidWorld os).forCall (fun _ _ => 0) ⟨#[], #[.agg #[.slice none 0 0, .slice none 0 0, .string ⟨#[]⟩], .agg #[.slice none 0 0]], []⟩).memory #[.agg #[.slice none 0 0, .slice none 0 0, .string ⟨#[]⟩], .agg #[.slice none 0 0]] := by
  have hw : (DataW.whole enc Tryd.prog ((laidWorld os).forCall (fun _ _ => 0) ⟨#[], #[.agg #[.slice none 0 0, .slice none 0 0, .string ⟨#[]⟩], .agg #[.slice none 0 0]], []⟩).memory Tryd.f7.params.toList (OpenSpec.ofChange Rows.sandboxFinalOperationsSpec).vars false (#[.agg #[.slice none 0 0, .slice none 0 0, .string ⟨#[]⟩], .agg #[.slice none 0 0]] : Array Value).toList 8).map (fun x => (x.1, x.2.1)) =
      some ([.agg [.nil, .nil, .lit (.string [])], .agg [.nil]], []) := by kernel_rfl
  obtain ⟨⟨x1, x2, x3⟩, hx, hx1⟩ := Option.map_eq_some_iff.1 hw
  simp only [Prod.mk.injEq] at hx1
  obtain ⟨rfl, rfl⟩ := hx1
  exact OpenSpec.preRow_of_cond 8 hx (by kernel_rfl) (fun k hk => by cases hk) (by kernel_rfl) (laid_met os _)
theorem lifted7 (os : Os) (started : os.Started) (H : Type) (enc : TypeId × Value → H) (F : Stop.Interp) :
    ReturnsInHanded {} Tryd.checked os 7 .any ((OpenSpec.ofChange Rows.sandboxFinalOperationsSpec).preRow enc Tryd.prog Tryd.f7 Rows.sandboxFinalOperationsRow.domain false Rows.sandboxFinalOperationsRow.laid) (((OpenSpec.ofChange Rows.sandboxFinalOperationsSpec).at F).post enc Tryd.prog Tryd.f7 false true false false) := by
  refine law_lifted_row (C := Tryd.checked) (L := [3, 9, 22, 23, 25, 26, 28, 47, 61]) (tb := 4) F Tryd.ownT started (by kernel_rfl) Tryd.func7
    (witness_row_atRef (enc := enc) (C := Tryd.checked) false (laidWorld os) #[.agg #[.slice none 0 0, .slice none 0 0, .string ⟨#[]⟩], .agg #[.slice none 0 0]] rfl (by kernel_rfl) (by kernel_rfl) (by kernel_rfl) (witnessRow7 os enc))
    (by kernel_rfl) Tryd.laidOutT (by kernel_rfl) (by kernel_rfl) (by kernel_rfl) rfl ?_ law7
  intro ds hds
  match ds, hds with
  | [d0, d1], _ => rfl
theorem row7 : Rows.SandboxFinalOperationsSaid :=
  OpenClaim.holds_of_cond 7 Tryd.f7 rfl rfl rfl rfl rfl rfl rfl ⟨rfl, rfl, rfl, rfl, rfl⟩ rfl rfl rfl rfl rfl (by kernel_rfl) Tryd.func7 (by kernel_rfl)
    (of_decide_eq_true (by kernel_rfl)) (by unfold Func.isWrapper; first | (rw [if_pos (by decide +kernel)]; kernel_rfl) | (rw [if_neg (by decide +kernel)]; exact ⟨rfl, rfl⟩))
    (fun os started H enc _ F => by rw [OpenClaim.pre_eq_preRow]; exact lifted7 os started H enc F)
/-- SandboxFinalOperations, the tied card: for every input the law returns true, and each argument reads as it read before -/
theorem holds7 : Rows.SandboxFinalOperationsCardSaid :=
  Claim7.holds_tied_plain_at .later [] [.data, .pinned] true (true, "383585decfa47b4629b36c32f40ba2eb0125679c68bebd058bcc726c18c274f4") false
    row7 (fun _ h => by cases h) (by kernel_rfl) (fun _ h => by cases h) sandboxFinalOperations_row_tie rfl ⟨rfl, rfl⟩ (by kernel_rfl) rfl
    (fun f fn hf hfn => by
      obtain rfl : f = 7 := Option.some.inj ((show Tryd.prog.funcNamed Rows.sandboxFinalOperationsRow.func = some 7 by kernel_rfl).symm.trans hf) |>.symm
      obtain rfl : fn = Tryd.f7 := (Option.some.inj (Tryd.func7.symm.trans hfn)).symm
      exact ⟨by kernel_rfl, fun j t ht => by
        have hm : t ∈ Tryd.f7.params.toList := by
          have := Array.mem_of_getElem? ht
          simpa using this
        rw [params7] at hm
        have hall : ([25, 28] : List TypeId).all (fun t => !Tryd.prog.wantsStandIn t) = true := by kernel_rfl
        have := List.all_eq_true.1 hall t hm
        exact (by simpa using this : Tryd.prog.wantsStandIn t = false)⟩)
    (by kernel_rfl)
#print axioms holds7
end Go.Proofs.YtadeoaglhaaimaaDoor
