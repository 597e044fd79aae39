/- The given statements, from the plain laws: for every input the law returns true and leaves its arguments as they read; no condition beyond the row's own. -/
import Derived.Test.YtfdfhpembpjglaaDoorRows
import Derived.Test.YtfdfhpembpjglaaDoorPwShape
import Derived.Test.YtfdfhpembpjglaaDoorPwGlob
import Derived.JoinedCond
import Derived.Deep.DeepWitnessRowRef
import Derived.Lib.LaidIn
import Derived.Test.YtfdfhpembpjglaaDoorCards
import Derived.Test.YtfdfhpembpjglaaDoorTie
import Derived.ProofKit
import Derived.Test.YtfdfhpembpjglaaDoorPE
import Derived.Test.YtfdfhpembpjglaaDoorWB
import Derived.Test.YtfdfhpembpjglaaDoorJ
namespace Go.Proofs.YtfdfhpembpjglaaDoor
open Go.PW Go Go.RowKit Go.WideShapes Go.ChangeShapes Go.ChangeAt
theorem Tryd.ownT : ownKnob Tryd.prog.godebug = none := by kernel_rfl
theorem Tryd.laidOutT : laidOutB Tryd.prog = true := by kernel_rfl
open Go.Lib
noncomputable def laidWorld (os : Os) : World :=
  let w0 := World.holding Tryd.prog os ⟨#[], #[], []⟩
  let put (h : Array Obj) (g : Nat) (cs : Array Value) : Array Obj := h.modify g fun
    | .cells _ t frozen => .cells cs t frozen
    | o => o
  let h1 := put w0.heap 0 #[.slice none 0 0, .slice none 0 0, .slice (some ⟨w0.heap.size + 0, 0, none⟩) 2 2, .slice (some ⟨w0.heap.size + 1, 0, none⟩) 1 1, .slice (some ⟨w0.heap.size + 2, 0, none⟩) 2 2, .slice (some ⟨w0.heap.size + 3, 0, none⟩) 1 1, .slice (some ⟨w0.heap.size + 4, 0, none⟩) 5 5]
  let h2 := put h1 1 #[.int .i64 0, .int .i64 0, .int .i64 1, .int .i64 2, .int .i64 2, .int .i64 4, .int .i64 0]
  { w0 with heap := (((((h2.push (.cells #[.int .i64 1, .int .i64 3] 2 (0, 0))).push (.cells #[.int .i64 2] 2 (0, 0))).push (.cells #[.int .i64 2, .int .i64 3] 2 (0, 0))).push (.cells #[.int .i64 4] 2 (0, 0))).push (.cells #[.int .i64 1, .int .i64 2, .int .i64 3, .int .i64 4, .int .i64 5] 2 (0, 0))) }
theorem laid_met (os : Os) (args : Array Value) : laidMet Tryd.prog [("changeforge/rules.permitted", Rows.laid_changeforge_rules_permitted), ("changeforge/rules.required", Rows.laid_changeforge_rules_required)] ((laidWorld os).forCall (fun _ _ => 0) ⟨#[], args, []⟩).memory :=
  (LaidIn.of_run (l := [("changeforge/rules.permitted", Rows.laid_changeforge_rules_permitted), ("changeforge/rules.required", Rows.laid_changeforge_rules_required)]) [0, 1, (World.holding Tryd.prog os ⟨#[], #[], []⟩).heap.size + 0, (World.holding Tryd.prog os ⟨#[], #[], []⟩).heap.size + 1, (World.holding Tryd.prog os ⟨#[], #[], []⟩).heap.size + 2, (World.holding Tryd.prog os ⟨#[], #[], []⟩).heap.size + 3, (World.holding Tryd.prog os ⟨#[], #[], []⟩).heap.size + 4] 8 (by kernel_rfl) (by kernel_rfl) (by kernel_rfl) (by kernel_rfl)).met
theorem glob_laid {W : World} (hm : laidMetH Tryd.prog [("changeforge/rules.permitted", Rows.laid_changeforge_rules_permitted), ("changeforge/rules.required", Rows.laid_changeforge_rules_required)] W) : Glob W (· < W.heap.size) := by
  have hm2 := met_of_h (by rfl) hm
  intro g cs hg
  simp only [globs, PW.look] at hg
  repeat' split at hg
  · rename_i e; injection hg with hg; subst e; subst hg; exact (glob_of (n := "changeforge/rules.permitted") (g := 0) (m := 7) (t := 60) (e := 29) (d := Rows.laid_changeforge_rules_permitted) (qs := _) (by simp) (by kernel_rfl) (by kernel_rfl) (by kernel_rfl) (by kernel_rfl) (by kernel_rfl) (by kernel_rfl) (by decide) rfl hm2)
  · rename_i e; injection hg with hg; subst e; subst hg; exact (glob_of (n := "changeforge/rules.required") (g := 1) (m := 7) (t := 61) (e := 3) (d := Rows.laid_changeforge_rules_required) (qs := _) (by simp) (by kernel_rfl) (by kernel_rfl) (by kernel_rfl) (by kernel_rfl) (by kernel_rfl) (by kernel_rfl) (by decide) rfl hm2)
  · cases hg
theorem Tryd.sh3 : Shp Tryd.prog 3 cI (inK .i64) := Shp.i64 (by kernel_rfl)
theorem Tryd.sh29 : Shp Tryd.prog 29 (cL 1 cI) (fun (l : List Int) => l.length * 8 ≤ reachBytes ∧ ∀ a ∈ l, (inK .i64) a) := Shp.slice (e := 3) (by kernel_rfl) (by kernel_rfl) (by kernel_rfl) Tryd.sh3
def SKindInputs.ok (x : SKindInputs) : Prop := (inK .i64) x.Kind ∧ (fun (l : List Int) => l.length * 8 ≤ reachBytes ∧ ∀ a ∈ l, (inK .i64) a) x.Inputs ∧ True
theorem Tryd.sh33 : Shp Tryd.prog 33 SKindInputs.cells SKindInputs.ok := Shp.of (Shp.struct (ts := [3, 29]) (by kernel_rfl) (Shps.cons Tryd.sh3 (Shps.cons Tryd.sh29 Shps.nil))) (fun x => (⟨x.1, x.2.1⟩ : SKindInputs)) (fun _ => rfl) (fun _ h => h)
theorem Tryd.sh22 : Shp Tryd.prog 22 (cL 2 SKindInputs.cells) (fun (l : List SKindInputs) => l.length * 32 ≤ reachBytes ∧ ∀ a ∈ l, SKindInputs.ok a) := Shp.slice (e := 33) (by kernel_rfl) (by kernel_rfl) (by kernel_rfl) Tryd.sh33
theorem params8 : Tryd.f8.params.toList = [22] := by kernel_rfl
theorem law8 (qs : List PV) (h : TyVs Tryd.prog Tryd.f8.params.toList qs) : PSpec Tryd.prog 8 qs (.bool true) := by
  rw [params8] at h
  obtain ⟨⟨a0, _⟩, rfl, hq⟩ := ((ShVs.cons (ShV.one (by kernel_rfl) Tryd.sh22 (fun l => .list 2 (l.map SKindInputs.cells)) (fun _ => rfl)) ShVs.nil) : ShVs Tryd.prog [22] _ _) qs h
  exact law6_RulesExpansionIsIdempotent_spec 6000 a0 true (law_idem a0)
set_option maxRecDepth 100000 in
theorem witnessRow8 (os : Os) {H : Type} (enc : TypeId × Value → H) :
    (OpenSpec.ofChange Rows.rulesExpansionIsIdempotentSpec).preRow enc Tryd.prog Tryd.f8 Rows.rulesExpansionIsIdempotentRow.domain false Rows.rulesExpansionIsIdempotentRow.laid ((laidWorld os).forCall (fun _ _ => 0) ⟨#[], #[.slice none 0 0], []⟩).memory #[.slice none 0 0] := by
  have hw : (DataW.whole enc Tryd.prog ((laidWorld os).forCall (fun _ _ => 0) ⟨#[], #[.slice none 0 0], []⟩).memory Tryd.f8.params.toList (OpenSpec.ofChange Rows.rulesExpansionIsIdempotentSpec).vars false (#[.slice none 0 0] : Array Value).toList 8).map (fun x => (x.1, x.2.1)) =
      some ([.nil], []) := by kernel_rfl
  obtain ⟨⟨x1, x2, x3⟩, hx, hx1⟩ := Option.map_eq_some_iff.1 hw
  simp only [Prod.mk.injEq] at hx1
  obtain ⟨rfl, rfl⟩ := hx1
  exact OpenSpec.preRow_of_cond 8 hx (by kernel_rfl) (fun k hk => by cases hk) (by kernel_rfl) (laid_met os _)
theorem lifted8 (os : Os) (started : os.Started) (H : Type) (enc : TypeId × Value → H) (F : Stop.Interp) :
    ReturnsInHanded {} Tryd.checked os 8 .any ((OpenSpec.ofChange Rows.rulesExpansionIsIdempotentSpec).preRow enc Tryd.prog Tryd.f8 Rows.rulesExpansionIsIdempotentRow.domain false Rows.rulesExpansionIsIdempotentRow.laid) (((OpenSpec.ofChange Rows.rulesExpansionIsIdempotentSpec).at F).post enc Tryd.prog Tryd.f8 false true false false) := by
  refine law_lifted_row (C := Tryd.checked) (L := [3, 22, 29, 33]) (tb := 4) F Tryd.ownT started (by kernel_rfl) Tryd.func8
    (witness_row_atRef (enc := enc) (C := Tryd.checked) false (laidWorld os) #[.slice none 0 0] rfl (by kernel_rfl) (by kernel_rfl) (by kernel_rfl) (witnessRow8 os enc))
    (by kernel_rfl) Tryd.laidOutT (by kernel_rfl) (by kernel_rfl) (by kernel_rfl) rfl ?_ (fun W _ hm => glob_laid hm) law8
  intro ds hds
  match ds, hds with
  | [d0], _ => rfl
theorem named8 : Tryd.prog.funcNamed Rows.rulesExpansionIsIdempotentRow.func = some 8 := by kernel_rfl
theorem goes8 : false = Rows.rulesExpansionIsIdempotentRow.goesBy Tryd.prog := by kernel_rfl
theorem inPlace8 : (Rows.rulesExpansionIsIdempotentRow.inPlace == Tryd.prog.inPlace 8) = true := by kernel_rfl
theorem unfol8 : (Rows.rulesExpansionIsIdempotentRow.unfollowed == Tryd.prog.unfollowed 8) = true := by kernel_rfl
theorem recur8 : (Rows.rulesExpansionIsIdempotentRow.recurses == Tryd.prog.recurses 8) = true := by kernel_rfl
theorem vnamed8 : (Rows.rulesExpansionIsIdempotentRow.named == Tryd.prog.varsNamed 8) = true := by kernel_rfl
theorem lift8 : (Rows.rulesExpansionIsIdempotentRow.lifted == Tryd.prog.liftsFinal) = true := (congrArg (fun z => (Rows.rulesExpansionIsIdempotentRow.lifted == z)) (eq_of_beq jLifted).symm).trans (by kernel_rfl)
theorem make8 : (Tryd.prog.make == some Rows.rulesExpansionIsIdempotentRow.make) = true := (congrArg (fun z => (z == some Rows.rulesExpansionIsIdempotentRow.make)) (eq_of_beq jMake)).trans (by kernel_rfl)
theorem closed8 : joinedFacts Tryd.prog 8 Tryd.f8 (OpenSpec.ofChange Rows.rulesExpansionIsIdempotentSpec).bare Rows.rulesExpansionIsIdempotentRow = true := by
  unfold joinedFacts
  exact (jBand (jBand (jBand (jBand (jBand (jBand (jBand (jBand (jBand (jBand (jBand (jBand (jBand (jBand (jBand (jBand (jBand (jBand (jBand (jBand (jBand (jBand (jBand (jBand (jBand (jBand (jBand (jBand (jBand (jBand (jBand (by kernel_rfl) Tryd.laidOutT) jMaps) (by kernel_rfl)) (by kernel_rfl)) (by kernel_rfl)) (by kernel_rfl)) (by kernel_rfl)) (by kernel_rfl)) inPlace8) unfol8) recur8) vnamed8) (by kernel_rfl)) (by kernel_rfl)) (by kernel_rfl)) (by kernel_rfl)) (by kernel_rfl)) (by kernel_rfl)) (by kernel_rfl)) (by kernel_rfl)) (by kernel_rfl)) (by kernel_rfl)) (by kernel_rfl)) jHeard) jMayEnter) lift8) make8) (by kernel_rfl)) (by kernel_rfl)) (by kernel_rfl)) (by kernel_rfl))
theorem row8 : Rows.RulesExpansionIsIdempotentSaid :=
  OpenClaim.holds_of_cond 8 Tryd.f8 rfl rfl rfl rfl rfl rfl rfl ⟨rfl, rfl, rfl, rfl, rfl⟩ rfl rfl rfl rfl rfl named8 Tryd.func8 closed8
    (of_decide_eq_true (by kernel_rfl)) (by unfold Func.isWrapper; first | (rw [if_pos (by decide +kernel)]; kernel_rfl) | (rw [if_neg (by decide +kernel)]; exact ⟨rfl, rfl⟩))
    (fun os started H enc _ F => by rw [OpenClaim.pre_eq_preRow]; exact lifted8 os started H enc F)
theorem holds8 : Rows.RulesExpansionIsIdempotentCardSaid :=
  Claim7.holds_tied_plain_at .later [] [.widerDeep, .data] true (true, "4c6adae04fa1ff999f680f43bd3506f5edd29fe99ff98f1f866884eb90708e00") false
    row8 (fun _ h => by cases h) (by kernel_rfl) (fun _ h => by cases h) rulesExpansionIsIdempotent_row_tie rfl ⟨rfl, rfl⟩ jMain rfl
    (fun f fn hf hfn => by
      obtain rfl : f = 8 := Option.some.inj ((show Tryd.prog.funcNamed Rows.rulesExpansionIsIdempotentRow.func = some 8 from named8).symm.trans hf) |>.symm
      obtain rfl : fn = Tryd.f8 := (Option.some.inj (Tryd.func8.symm.trans hfn)).symm
      exact ⟨jLooks, fun j t ht => by
        have hm : t ∈ Tryd.f8.params.toList := by
          have := Array.mem_of_getElem? ht
          simpa using this
        rw [params8] at hm
        have hall : ([22] : List TypeId).all (fun t => !Tryd.prog.wantsStandIn t) = true := by kernel_rfl
        have := List.all_eq_true.1 hall t hm
        exact (by simpa using this : Tryd.prog.wantsStandIn t = false)⟩)
    goes8
#print axioms holds8
end Go.Proofs.YtfdfhpembpjglaaDoor
