/- The given statements, from the plain laws: for every input the law returns true and leaves its arguments as they read; no condition beyond the row's own. -/
import Derived.Test.YtlkknmhhefjmjaaDoorRows
import Derived.Test.YtlkknmhhefjmjaaDoorPwShape
import Derived.JoinedCond
import Derived.Deep.DeepWitnessRowRef
import Derived.Lib.LaidIn
import Derived.Test.YtlkknmhhefjmjaaDoorCards
import Derived.Test.YtlkknmhhefjmjaaDoorTie
import Derived.ProofKit
import Derived.Test.YtlkknmhhefjmjaaDoorPB
import Derived.Test.YtlkknmhhefjmjaaDoorW5
import Derived.Test.YtlkknmhhefjmjaaDoorJ
namespace Go.Proofs.YtlkknmhhefjmjaaDoor
open Go.PW Go Go.RowKit Go.WideShapes Go.ChangeShapes Go.ChangeAt
theorem Tryd.ownT : ownKnob Tryd.prog.godebug = none := by kernel_rfl
theorem Tryd.laidOutT : laidOutB Tryd.prog = true := by kernel_rfl
open Go.Lib
theorem gF : (Tryd.prog.globalNamed "unicode/utf8.first").isSome = true := by kernel_rfl
theorem gA : (Tryd.prog.globalNamed "unicode/utf8.acceptRanges").isSome = true := by kernel_rfl
/-- the witness: the two tables hold what their initialisers lay -/
noncomputable def laidWorld (os : Os) : World :=
  let w0 := World.holding Tryd.prog os ⟨#[], #[], []⟩
  let put (h : Array Obj) (g : Nat) (cs : Array Value) : Array Obj := h.modify g fun
    | .cells _ t frozen => .cells cs t frozen
    | o => o
  let h1 := put w0.heap ((Tryd.prog.globalNamed "unicode/utf8.first").get gF) (Go.Pinned.utf8FirstZ.map fun (z : Nat) => Value.int .u8 (z : Int)).toArray
  let h2 := put h1 ((Tryd.prog.globalNamed "unicode/utf8.acceptRanges").get gA) #[.int .u8 128, .int .u8 191, .int .u8 160, .int .u8 191, .int .u8 128, .int .u8 159, .int .u8 144, .int .u8 191, .int .u8 128, .int .u8 143, .int .u8 0, .int .u8 0, .int .u8 0, .int .u8 0, .int .u8 0, .int .u8 0, .int .u8 0, .int .u8 0, .int .u8 0, .int .u8 0, .int .u8 0, .int .u8 0, .int .u8 0, .int .u8 0, .int .u8 0, .int .u8 0, .int .u8 0, .int .u8 0, .int .u8 0, .int .u8 0, .int .u8 0, .int .u8 0]
  { w0 with heap := h2 }
theorem laid_met (os : Os) (args : Array Value) : laidMet Tryd.prog [("unicode/utf8.acceptRanges", Rows.laid_unicode_utf8_acceptRanges), ("unicode/utf8.first", Rows.laid_unicode_utf8_first)] ((laidWorld os).forCall (fun _ _ => 0) ⟨#[], args, []⟩).memory :=
  (LaidIn.of_run (l := [("unicode/utf8.acceptRanges", Rows.laid_unicode_utf8_acceptRanges), ("unicode/utf8.first", Rows.laid_unicode_utf8_first)]) [(Tryd.prog.globalNamed "unicode/utf8.first").get gF, (Tryd.prog.globalNamed "unicode/utf8.acceptRanges").get gA] 8 (by kernel_rfl) (by kernel_rfl) (by kernel_rfl) (by kernel_rfl)).met
theorem Tryd.sh9 : Shp Tryd.prog 9 cS (fun (s : List UInt8) => s.length ≤ reachBytes) := Shp.str (by kernel_rfl)
theorem Tryd.sh3 : Shp Tryd.prog 3 cI (inK .i64) := Shp.i64 (by kernel_rfl)
def SPathDigest.ok (x : SPathDigest) : Prop := (fun (s : List UInt8) => s.length ≤ reachBytes) x.Path ∧ (inK .i64) x.Digest ∧ True
theorem Tryd.sh117 : Shp Tryd.prog 117 SPathDigest.cells SPathDigest.ok := Shp.of (Shp.struct (ts := [9, 3]) (by kernel_rfl) (Shps.cons Tryd.sh9 (Shps.cons Tryd.sh3 Shps.nil))) (fun x => (⟨x.1, x.2.1⟩ : SPathDigest)) (fun _ => rfl) (fun _ h => h)
theorem Tryd.sh63 : Shp Tryd.prog 63 (cL 2 SPathDigest.cells) (fun (l : List SPathDigest) => l.length * 24 ≤ reachBytes ∧ ∀ a ∈ l, SPathDigest.ok a) := Shp.slice (e := 117) (by kernel_rfl) (by kernel_rfl) (by kernel_rfl) Tryd.sh117
theorem params11 : Tryd.f11.params.toList = [63, 63] := by kernel_rfl
theorem law11 (qs : List PV) (h : TyVs Tryd.prog Tryd.f11.params.toList qs) : PSpec Tryd.prog 11 qs (.bool true) := by
  rw [params11] at h
  obtain ⟨⟨a0, a1, _⟩, rfl, hq⟩ := ((ShVs.cons (ShV.one (by kernel_rfl) Tryd.sh63 (fun l => .list 2 (l.map SPathDigest.cells)) (fun _ => rfl)) (ShVs.cons (ShV.one (by kernel_rfl) Tryd.sh63 (fun l => .list 2 (l.map SPathDigest.cells)) (fun _ => rfl)) ShVs.nil)) : ShVs Tryd.prog [63, 63] _ _) qs h
  exact law6_BomMergeMatchesSpec_spec 200 a0 a1 true (bomMerge_eq a0 a1 hq.1.1 hq.2.1.1)
set_option maxRecDepth 100000 in
theorem witnessRow11 (os : Os) {H : Type} (enc : TypeId × Value → H) :
    (OpenSpec.ofChange Rows.bomMergeMatchesSpecSpec).preRow enc Tryd.prog Tryd.f11 Rows.bomMergeMatchesSpecRow.domain false Rows.bomMergeMatchesSpecRow.laid ((laidWorld os).forCall (fun _ _ => 0) ⟨#[], #[.slice none 0 0, .slice none 0 0], []⟩).memory #[.slice none 0 0, .slice none 0 0] := by
  have hw : (DataW.whole enc Tryd.prog ((laidWorld os).forCall (fun _ _ => 0) ⟨#[], #[.slice none 0 0, .slice none 0 0], []⟩).memory Tryd.f11.params.toList (OpenSpec.ofChange Rows.bomMergeMatchesSpecSpec).vars false (#[.slice none 0 0, .slice none 0 0] : Array Value).toList 8).map (fun x => (x.1, x.2.1)) =
      some ([.nil, .nil], []) := by kernel_rfl
  obtain ⟨⟨x1, x2, x3⟩, hx, hx1⟩ := Option.map_eq_some_iff.1 hw
  simp only [Prod.mk.injEq] at hx1
  obtain ⟨rfl, rfl⟩ := hx1
  exact OpenSpec.preRow_of_cond 8 hx (by kernel_rfl) (fun k hk => by cases hk) (by kernel_rfl) (laid_met os _)
theorem lifted11 (os : Os) (started : os.Started) (H : Type) (enc : TypeId × Value → H) (F : Stop.Interp) :
    ReturnsInHanded {} Tryd.checked os 11 .any ((OpenSpec.ofChange Rows.bomMergeMatchesSpecSpec).preRow enc Tryd.prog Tryd.f11 Rows.bomMergeMatchesSpecRow.domain false Rows.bomMergeMatchesSpecRow.laid) (((OpenSpec.ofChange Rows.bomMergeMatchesSpecSpec).at F).post enc Tryd.prog Tryd.f11 false true false false) := by
  refine law_lifted_row (C := Tryd.checked) (L := [3, 9, 63, 117]) (tb := 4) F Tryd.ownT started (by kernel_rfl) Tryd.func11
    (witness_row_atRef (enc := enc) (C := Tryd.checked) false (laidWorld os) #[.slice none 0 0, .slice none 0 0] rfl (by kernel_rfl) (by kernel_rfl) (by kernel_rfl) (witnessRow11 os enc))
    (by kernel_rfl) Tryd.laidOutT (by kernel_rfl) (by kernel_rfl) (by kernel_rfl) rfl ?_ law11
  intro ds hds
  match ds, hds with
  | [d0, d1], _ => rfl
theorem named11 : Tryd.prog.funcNamed Rows.bomMergeMatchesSpecRow.func = some 11 := by kernel_rfl
theorem goes11 : false = Rows.bomMergeMatchesSpecRow.goesBy Tryd.prog := by kernel_rfl
theorem inPlace11 : (Rows.bomMergeMatchesSpecRow.inPlace == Tryd.prog.inPlace 11) = true := by kernel_rfl
theorem unfol11 : (Rows.bomMergeMatchesSpecRow.unfollowed == Tryd.prog.unfollowed 11) = true := by kernel_rfl
theorem recur11 : (Rows.bomMergeMatchesSpecRow.recurses == Tryd.prog.recurses 11) = true := by kernel_rfl
theorem vnamed11 : (Rows.bomMergeMatchesSpecRow.named == Tryd.prog.varsNamed 11) = true := by kernel_rfl
theorem lift11 : (Rows.bomMergeMatchesSpecRow.lifted == Tryd.prog.liftsFinal) = true := (congrArg (fun z => (Rows.bomMergeMatchesSpecRow.lifted == z)) (eq_of_beq jLifted).symm).trans (by kernel_rfl)
theorem make11 : (Tryd.prog.make == some Rows.bomMergeMatchesSpecRow.make) = true := (congrArg (fun z => (z == some Rows.bomMergeMatchesSpecRow.make)) (eq_of_beq jMake)).trans (by kernel_rfl)
theorem closed11 : joinedFacts Tryd.prog 11 Tryd.f11 (OpenSpec.ofChange Rows.bomMergeMatchesSpecSpec).bare Rows.bomMergeMatchesSpecRow = true := by
  unfold joinedFacts
  exact (jBand (jBand (jBand (jBand (jBand (jBand (jBand (jBand (jBand (jBand (jBand (jBand (jBand (jBand (jBand (jBand (jBand (jBand (jBand (jBand (jBand (jBand (jBand (jBand (jBand (jBand (jBand (jBand (jBand (jBand (jBand (by kernel_rfl) Tryd.laidOutT) jMaps) (by kernel_rfl)) (by kernel_rfl)) (by kernel_rfl)) (by kernel_rfl)) (by kernel_rfl)) (by kernel_rfl)) inPlace11) unfol11) recur11) vnamed11) (by kernel_rfl)) (by kernel_rfl)) (by kernel_rfl)) (by kernel_rfl)) (by kernel_rfl)) (by kernel_rfl)) (by kernel_rfl)) (by kernel_rfl)) (by kernel_rfl)) (by kernel_rfl)) (by kernel_rfl)) jHeard) jMayEnter) lift11) make11) (by kernel_rfl)) (by kernel_rfl)) (by kernel_rfl)) (by kernel_rfl))
theorem row11 : Rows.BomMergeMatchesSpecSaid :=
  OpenClaim.holds_of_cond 11 Tryd.f11 rfl rfl rfl rfl rfl rfl rfl ⟨rfl, rfl, rfl, rfl, rfl⟩ rfl rfl rfl rfl rfl named11 Tryd.func11 closed11
    (of_decide_eq_true (by kernel_rfl)) (by unfold Func.isWrapper; first | (rw [if_pos (by decide +kernel)]; kernel_rfl) | (rw [if_neg (by decide +kernel)]; exact ⟨rfl, rfl⟩))
    (fun os started H enc _ F => by rw [OpenClaim.pre_eq_preRow]; exact lifted11 os started H enc F)
/-- BomMergeMatchesSpec, the tied card: for every input the law returns true, and each argument reads as it read before -/
theorem holds11 : Rows.BomMergeMatchesSpecCardSaid :=
  Claim7.holds_tied_plain_at .later [] [.data, .pinned] true (true, "27a51ec012144873418275e0e4e6cec471bb16b3db4d9af00704d91acf900886") false
    row11 (fun _ h => by cases h) (by kernel_rfl) (fun _ h => by cases h) bomMergeMatchesSpec_row_tie rfl ⟨rfl, rfl⟩ jMain rfl
    (fun f fn hf hfn => by
      obtain rfl : f = 11 := Option.some.inj ((show Tryd.prog.funcNamed Rows.bomMergeMatchesSpecRow.func = some 11 from named11).symm.trans hf) |>.symm
      obtain rfl : fn = Tryd.f11 := (Option.some.inj (Tryd.func11.symm.trans hfn)).symm
      exact ⟨jLooks, fun j t ht => by
        have hm : t ∈ Tryd.f11.params.toList := by
          have := Array.mem_of_getElem? ht
          simpa using this
        rw [params11] at hm
        have hall : ([63, 63] : List TypeId).all (fun t => !Tryd.prog.wantsStandIn t) = true := by kernel_rfl
        have := List.all_eq_true.1 hall t hm
        exact (by simpa using this : Tryd.prog.wantsStandIn t = false)⟩)
    goes11
#print axioms holds11
end Go.Proofs.YtlkknmhhefjmjaaDoor
