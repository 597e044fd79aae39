/- The given statements, from the plain laws: for every input the law returns true and leaves its arguments as they read; no condition beyond the row's own. -/
import Derived.Test.YtlkknmhhefjmjaaDoorRows
import Derived.Test.YtlkknmhhefjmjaaDoorPwShape
import Derived.JoinedCond
import Derived.Deep.DeepWitnessRowRef
import Derived.Lib.LaidIn
import Derived.Test.YtlkknmhhefjmjaaDoorCards
import Derived.Test.YtlkknmhhefjmjaaDoorTie
import Derived.ProofKit
import Derived.Test.YtlkknmhhefjmjaaDoorPE
import Derived.Test.YtlkknmhhefjmjaaDoorW7
import Derived.Test.YtlkknmhhefjmjaaDoorJ
namespace Go.Proofs.YtlkknmhhefjmjaaDoor
open Go.PW Go Go.RowKit Go.WideShapes Go.ChangeShapes Go.ChangeAt
theorem Tryd.ownT : ownKnob Tryd.prog.godebug = none := by kernel_rfl
theorem Tryd.laidOutT : laidOutB Tryd.prog = true := by kernel_rfl
open Go.Lib
theorem gF : (Tryd.prog.globalNamed "unicode/utf8.first").isSome = true := by kernel_rfl
theorem gA : (Tryd.prog.globalNamed "unicode/utf8.acceptRanges").isSome = true := by kernel_rfl
noncomputable def laidWorld (os : Os) : World :=
  let w0 := World.holding Tryd.prog os ⟨#[], #[], []⟩
  let put (h : Array Obj) (g : Nat) (cs : Array Value) : Array Obj := h.modify g fun
    | .cells _ t frozen => .cells cs t frozen
    | o => o
  let h1 := put w0.heap ((Tryd.prog.globalNamed "unicode/utf8.first").get gF) (Go.Pinned.utf8FirstZ.map fun (z : Nat) => Value.int .u8 (z : Int)).toArray
  let h2 := put h1 ((Tryd.prog.globalNamed "unicode/utf8.acceptRanges").get gA) #[.int .u8 128, .int .u8 191, .int .u8 160, .int .u8 191, .int .u8 128, .int .u8 159, .int .u8 144, .int .u8 191, .int .u8 128, .int .u8 143, .int .u8 0, .int .u8 0, .int .u8 0, .int .u8 0, .int .u8 0, .int .u8 0, .int .u8 0, .int .u8 0, .int .u8 0, .int .u8 0, .int .u8 0, .int .u8 0, .int .u8 0, .int .u8 0, .int .u8 0, .int .u8 0, .int .u8 0, .int .u8 0, .int .u8 0, .int .u8 0, .int .u8 0, .int .u8 0]
  { w0 with heap := h2 }
theorem laid_met (os : Os) (args : Array Value) : laidMet Tryd.prog [("unicode/utf8.acceptRanges", Rows.laid_unicode_utf8_acceptRanges), ("unicode/utf8.first", Rows.laid_unicode_utf8_first)] ((laidWorld os).forCall (fun _ _ => 0) ⟨#[], args, []⟩).memory :=
  (LaidIn.of_run (l := [("unicode/utf8.acceptRanges", Rows.laid_unicode_utf8_acceptRanges), ("unicode/utf8.first", Rows.laid_unicode_utf8_first)]) [(Tryd.prog.globalNamed "unicode/utf8.first").get gF, (Tryd.prog.globalNamed "unicode/utf8.acceptRanges").get gA] 8 (by kernel_rfl) (by kernel_rfl) (by kernel_rfl) (by kernel_rfl)).met
theorem Tryd.sh3 : Shp Tryd.prog 3 cI (inK .i64) := Shp.i64 (by kernel_rfl)
theorem Tryd.sh9 : Shp Tryd.prog 9 cS (fun (s : List UInt8) => s.length ≤ reachBytes) := Shp.str (by kernel_rfl)
theorem Tryd.sh23 : Shp Tryd.prog 23 (cL 1 cS) (fun (l : List (List UInt8)) => l.length * 16 ≤ reachBytes ∧ ∀ a ∈ l, (fun (s : List UInt8) => s.length ≤ reachBytes) a) := Shp.slice (e := 9) (by kernel_rfl) (by kernel_rfl) (by kernel_rfl) Tryd.sh9
def SKeyLines.ok (x : SKeyLines) : Prop := (inK .i64) x.Key ∧ (fun (l : List (List UInt8)) => l.length * 16 ≤ reachBytes ∧ ∀ a ∈ l, (fun (s : List UInt8) => s.length ≤ reachBytes) a) x.Lines ∧ True
theorem Tryd.sh86 : Shp Tryd.prog 86 SKeyLines.cells SKeyLines.ok := Shp.of (Shp.struct (ts := [3, 23]) (by kernel_rfl) (Shps.cons Tryd.sh3 (Shps.cons Tryd.sh23 Shps.nil))) (fun x => (⟨x.1, x.2.1⟩ : SKeyLines)) (fun _ => rfl) (fun _ h => h)
theorem Tryd.sh22 : Shp Tryd.prog 22 (cL 2 SKeyLines.cells) (fun (l : List SKeyLines) => l.length * 32 ≤ reachBytes ∧ ∀ a ∈ l, SKeyLines.ok a) := Shp.slice (e := 86) (by kernel_rfl) (by kernel_rfl) (by kernel_rfl) Tryd.sh86
theorem params7 : Tryd.f7.params.toList = [22, 3, 3, 23, 23] := by kernel_rfl
theorem law7 (qs : List PV) (h : TyVs Tryd.prog Tryd.f7.params.toList qs) : PSpec Tryd.prog 7 qs (.bool true) := by
  rw [params7] at h
  obtain ⟨⟨a0, a1, a2, a3, a4, _⟩, rfl, _⟩ := ((ShVs.cons (ShV.one (by kernel_rfl) Tryd.sh22 (fun l => .list 2 (l.map SKeyLines.cells)) (fun _ => rfl)) (ShVs.cons (ShV.one (by kernel_rfl) Tryd.sh3 (fun n => .int .i64 n) (fun _ => rfl)) (ShVs.cons (ShV.one (by kernel_rfl) Tryd.sh3 (fun n => .int .i64 n) (fun _ => rfl)) (ShVs.cons (ShV.one (by kernel_rfl) Tryd.sh23 (fun l => .list 1 (l.map cS)) (fun _ => rfl)) (ShVs.cons (ShV.one (by kernel_rfl) Tryd.sh23 (fun l => .list 1 (l.map cS)) (fun _ => rfl)) ShVs.nil))))) : ShVs Tryd.prog [22, 3, 3, 23, 23] _ _) qs h
  exact law6_ActioncacheStoresCommute_spec 200 a0 a1 a2 a3 a4 true (cacheCommute_eq a0 a1 a2 a3 a4)
set_option maxRecDepth 100000 in
theorem witnessRow7 (os : Os) {H : Type} (enc : TypeId × Value → H) :
    (OpenSpec.ofChange Rows.actioncacheStoresCommuteSpec).preRow enc Tryd.prog Tryd.f7 Rows.actioncacheStoresCommuteRow.domain false Rows.actioncacheStoresCommuteRow.laid ((laidWorld os).forCall (fun _ _ => 0) ⟨#[], #[.slice none 0 0, .int .i64 0, .int .i64 0, .slice none 0 0, .slice none 0 0], []⟩).memory #[.slice none 0 0, .int .i64 0, .int .i64 0, .slice none 0 0, .slice none 0 0] := by
  have hw : (DataW.whole enc Tryd.prog ((laidWorld os).forCall (fun _ _ => 0) ⟨#[], #[.slice none 0 0, .int .i64 0, .int .i64 0, .slice none 0 0, .slice none 0 0], []⟩).memory Tryd.f7.params.toList (OpenSpec.ofChange Rows.actioncacheStoresCommuteSpec).vars false (#[.slice none 0 0, .int .i64 0, .int .i64 0, .slice none 0 0, .slice none 0 0] : Array Value).toList 8).map (fun x => (x.1, x.2.1)) =
      some ([.nil, .lit (.int .i64 0), .lit (.int .i64 0), .nil, .nil], []) := by kernel_rfl
  obtain ⟨⟨x1, x2, x3⟩, hx, hx1⟩ := Option.map_eq_some_iff.1 hw
  simp only [Prod.mk.injEq] at hx1
  obtain ⟨rfl, rfl⟩ := hx1
  exact OpenSpec.preRow_of_cond 8 hx (by kernel_rfl) (fun k hk => by cases hk) (by kernel_rfl) (laid_met os _)
theorem lifted7 (os : Os) (started : os.Started) (H : Type) (enc : TypeId × Value → H) (F : Stop.Interp) :
    ReturnsInHanded {} Tryd.checked os 7 .any ((OpenSpec.ofChange Rows.actioncacheStoresCommuteSpec).preRow enc Tryd.prog Tryd.f7 Rows.actioncacheStoresCommuteRow.domain false Rows.actioncacheStoresCommuteRow.laid) (((OpenSpec.ofChange Rows.actioncacheStoresCommuteSpec).at F).post enc Tryd.prog Tryd.f7 false true false false) := by
  refine law_lifted_row (C := Tryd.checked) (L := [3, 9, 22, 23, 86]) (tb := 4) F Tryd.ownT started (by kernel_rfl) Tryd.func7
    (witness_row_atRef (enc := enc) (C := Tryd.checked) false (laidWorld os) #[.slice none 0 0, .int .i64 0, .int .i64 0, .slice none 0 0, .slice none 0 0] rfl (by kernel_rfl) (by kernel_rfl) (by kernel_rfl) (witnessRow7 os enc))
    (by kernel_rfl) Tryd.laidOutT (by kernel_rfl) (by kernel_rfl) (by kernel_rfl) rfl ?_ law7
  intro ds hds
  match ds, hds with
  | [d0, d1, d2, d3, d4], _ => rfl
theorem named7 : Tryd.prog.funcNamed Rows.actioncacheStoresCommuteRow.func = some 7 := by kernel_rfl
theorem goes7 : false = Rows.actioncacheStoresCommuteRow.goesBy Tryd.prog := by kernel_rfl
theorem inPlace7 : (Rows.actioncacheStoresCommuteRow.inPlace == Tryd.prog.inPlace 7) = true := by kernel_rfl
theorem unfol7 : (Rows.actioncacheStoresCommuteRow.unfollowed == Tryd.prog.unfollowed 7) = true := by kernel_rfl
theorem recur7 : (Rows.actioncacheStoresCommuteRow.recurses == Tryd.prog.recurses 7) = true := by kernel_rfl
theorem vnamed7 : (Rows.actioncacheStoresCommuteRow.named == Tryd.prog.varsNamed 7) = true := by kernel_rfl
theorem lift7 : (Rows.actioncacheStoresCommuteRow.lifted == Tryd.prog.liftsFinal) = true := (congrArg (fun z => (Rows.actioncacheStoresCommuteRow.lifted == z)) (eq_of_beq jLifted).symm).trans (by kernel_rfl)
theorem make7 : (Tryd.prog.make == some Rows.actioncacheStoresCommuteRow.make) = true := (congrArg (fun z => (z == some Rows.actioncacheStoresCommuteRow.make)) (eq_of_beq jMake)).trans (by kernel_rfl)
theorem closed7 : joinedFacts Tryd.prog 7 Tryd.f7 (OpenSpec.ofChange Rows.actioncacheStoresCommuteSpec).bare Rows.actioncacheStoresCommuteRow = true := by
  unfold joinedFacts
  exact (jBand (jBand (jBand (jBand (jBand (jBand (jBand (jBand (jBand (jBand (jBand (jBand (jBand (jBand (jBand (jBand (jBand (jBand (jBand (jBand (jBand (jBand (jBand (jBand (jBand (jBand (jBand (jBand (jBand (jBand (jBand (by kernel_rfl) Tryd.laidOutT) jMaps) (by kernel_rfl)) (by kernel_rfl)) (by kernel_rfl)) (by kernel_rfl)) (by kernel_rfl)) (by kernel_rfl)) inPlace7) unfol7) recur7) vnamed7) (by kernel_rfl)) (by kernel_rfl)) (by kernel_rfl)) (by kernel_rfl)) (by kernel_rfl)) (by kernel_rfl)) (by kernel_rfl)) (by kernel_rfl)) (by kernel_rfl)) (by kernel_rfl)) (by kernel_rfl)) jHeard) jMayEnter) lift7) make7) (by kernel_rfl)) (by kernel_rfl)) (by kernel_rfl)) (by kernel_rfl))
theorem row7 : Rows.ActioncacheStoresCommuteSaid :=
  OpenClaim.holds_of_cond 7 Tryd.f7 rfl rfl rfl rfl rfl rfl rfl ⟨rfl, rfl, rfl, rfl, rfl⟩ rfl rfl rfl rfl rfl named7 Tryd.func7 closed7
    (of_decide_eq_true (by kernel_rfl)) (by unfold Func.isWrapper; first | (rw [if_pos (by decide +kernel)]; kernel_rfl) | (rw [if_neg (by decide +kernel)]; exact ⟨rfl, rfl⟩))
    (fun os started H enc _ F => by rw [OpenClaim.pre_eq_preRow]; exact lifted7 os started H enc F)
theorem holds7 : Rows.ActioncacheStoresCommuteCardSaid :=
  Claim7.holds_tied_plain_at .later [] [.data, .pinned] true (true, "27a51ec012144873418275e0e4e6cec471bb16b3db4d9af00704d91acf900886") false
    row7 (fun _ h => by cases h) (by kernel_rfl) (fun _ h => by cases h) actioncacheStoresCommute_row_tie rfl ⟨rfl, rfl⟩ jMain rfl
    (fun f fn hf hfn => by
      obtain rfl : f = 7 := Option.some.inj ((show Tryd.prog.funcNamed Rows.actioncacheStoresCommuteRow.func = some 7 from named7).symm.trans hf) |>.symm
      obtain rfl : fn = Tryd.f7 := (Option.some.inj (Tryd.func7.symm.trans hfn)).symm
      exact ⟨jLooks, fun j t ht => by
        have hm : t ∈ Tryd.f7.params.toList := by
          have := Array.mem_of_getElem? ht
          simpa using this
        rw [params7] at hm
        have hall : ([22, 3, 3, 23, 23] : List TypeId).all (fun t => !Tryd.prog.wantsStandIn t) = true := by kernel_rfl
        have := List.all_eq_true.1 hall t hm
        exact (by simpa using this : Tryd.prog.wantsStandIn t = false)⟩)
    goes7
#print axioms holds7
end Go.Proofs.YtlkknmhhefjmjaaDoor
