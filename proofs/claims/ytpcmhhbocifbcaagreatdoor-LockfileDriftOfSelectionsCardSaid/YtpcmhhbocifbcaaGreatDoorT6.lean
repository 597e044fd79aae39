/- The given statements, from the plain laws: for every input the law returns true and leaves its arguments as they read; no condition beyond the row's own. -/
import Derived.Test.YtpcmhhbocifbcaaGreatDoorRows
import Derived.Test.YtpcmhhbocifbcaaGreatDoorPwShape
import Derived.Test.YtpcmhhbocifbcaaGreatDoorPwGlob2
import Derived.JoinedCond
import Derived.Deep.DeepWitnessRowRef
import Derived.Lib.LaidIn
import Derived.Test.YtpcmhhbocifbcaaGreatDoorCards
import Derived.Test.YtpcmhhbocifbcaaGreatDoorTie
import Derived.ProofKit
import Derived.Test.YtpcmhhbocifbcaaGreatDoorPE
import Derived.Test.YtpcmhhbocifbcaaGreatDoorWB
import Derived.Test.YtpcmhhbocifbcaaGreatDoorJ
namespace Go.Proofs.YtpcmhhbocifbcaaGreatDoor
open Go.PW Go Go.RowKit Go.WideShapes Go.ChangeShapes Go.ChangeAt
theorem Tryz.ownT : ownKnob Tryz.prog.godebug = none := by kernel_rfl
theorem Tryz.laidOutT : laidOutB Tryz.prog = true := by kernel_rfl
open Go.Lib
noncomputable def laidWorld (os : Os) : World :=
  let w0 := World.holding Tryz.prog os ⟨#[], #[], []⟩
  let put (h : Array Obj) (g : Nat) (cs : Array Value) : Array Obj := h.modify g fun
    | .cells _ t frozen => .cells cs t frozen
    | o => o
  let h1 := put w0.heap 4 #[.int .u8 0, .int .u8 1, .int .u8 28, .int .u8 2, .int .u8 29, .int .u8 14, .int .u8 24, .int .u8 3, .int .u8 30, .int .u8 22, .int .u8 20, .int .u8 15, .int .u8 25, .int .u8 17, .int .u8 4, .int .u8 8, .int .u8 31, .int .u8 27, .int .u8 13, .int .u8 23, .int .u8 21, .int .u8 19, .int .u8 16, .int .u8 7, .int .u8 26, .int .u8 12, .int .u8 18, .int .u8 6, .int .u8 11, .int .u8 5, .int .u8 10, .int .u8 9]
  let h2 := put h1 5 #[.int .u8 0, .int .u8 1, .int .u8 56, .int .u8 2, .int .u8 57, .int .u8 49, .int .u8 28, .int .u8 3, .int .u8 61, .int .u8 58, .int .u8 42, .int .u8 50, .int .u8 38, .int .u8 29, .int .u8 17, .int .u8 4, .int .u8 62, .int .u8 47, .int .u8 59, .int .u8 36, .int .u8 45, .int .u8 43, .int .u8 51, .int .u8 22, .int .u8 53, .int .u8 39, .int .u8 33, .int .u8 30, .int .u8 24, .int .u8 18, .int .u8 12, .int .u8 5, .int .u8 63, .int .u8 55, .int .u8 48, .int .u8 27, .int .u8 60, .int .u8 41, .int .u8 37, .int .u8 16, .int .u8 46, .int .u8 35, .int .u8 44, .int .u8 21, .int .u8 52, .int .u8 32, .int .u8 23, .int .u8 11, .int .u8 54, .int .u8 26, .int .u8 40, .int .u8 15, .int .u8 34, .int .u8 20, .int .u8 31, .int .u8 10, .int .u8 25, .int .u8 14, .int .u8 19, .int .u8 9, .int .u8 13, .int .u8 8, .int .u8 7, .int .u8 6]
  let h3 := put h2 1 #[.int .u64 1, .int .u64 10, .int .u64 100, .int .u64 1000, .int .u64 10000, .int .u64 100000, .int .u64 1000000, .int .u64 10000000, .int .u64 100000000, .int .u64 1000000000, .int .u64 10000000000, .int .u64 100000000000, .int .u64 1000000000000, .int .u64 10000000000000, .int .u64 100000000000000, .int .u64 1000000000000000, .int .u64 10000000000000000, .int .u64 100000000000000000, .int .u64 1000000000000000000, .int .u64 10000000000000000000]
  let h4 := put h3 7 #[.int .u8 128, .int .u8 191, .int .u8 160, .int .u8 191, .int .u8 128, .int .u8 159, .int .u8 144, .int .u8 191, .int .u8 128, .int .u8 143, .int .u8 0, .int .u8 0, .int .u8 0, .int .u8 0, .int .u8 0, .int .u8 0, .int .u8 0, .int .u8 0, .int .u8 0, .int .u8 0, .int .u8 0, .int .u8 0, .int .u8 0, .int .u8 0, .int .u8 0, .int .u8 0, .int .u8 0, .int .u8 0, .int .u8 0, .int .u8 0, .int .u8 0, .int .u8 0]
  let h5 := put h4 3 #[.iface 192 (.pointer (some ⟨w0.heap.size + 0, 0, none⟩))]
  let h6 := put h5 2 #[.iface 192 (.pointer (some ⟨w0.heap.size + 1, 0, none⟩))]
  let h7 := put h6 6 (Go.Pinned.utf8FirstZ.map fun (z : Nat) => Value.int .u8 (z : Int)).toArray
  { w0 with heap := ((h7.push (.cells #[.string ⟨#[118, 97, 108, 117, 101, 32, 111, 117, 116, 32, 111, 102, 32, 114, 97, 110, 103, 101]⟩] 194 (0, 0))).push (.cells #[.string ⟨#[105, 110, 118, 97, 108, 105, 100, 32, 115, 121, 110, 116, 97, 120]⟩] 194 (0, 0))) }
theorem laid_met (os : Os) (args : Array Value) : laidMet Tryz.prog [("math/bits.deBruijn32tab", Rows.laid_math_bits_deBruijn32tab), ("math/bits.deBruijn64tab", Rows.laid_math_bits_deBruijn64tab), ("internal/strconv.uint64pow10", Rows.laid_internal_strconv_uint64pow10), ("unicode/utf8.acceptRanges", Rows.laid_unicode_utf8_acceptRanges), ("strconv.ErrRange", Rows.laid_strconv_ErrRange), ("strconv.ErrSyntax", Rows.laid_strconv_ErrSyntax), ("unicode/utf8.first", Rows.laid_unicode_utf8_first)] ((laidWorld os).forCall (fun _ _ => 0) ⟨#[], args, []⟩).memory :=
  (LaidIn.of_run (l := [("math/bits.deBruijn32tab", Rows.laid_math_bits_deBruijn32tab), ("math/bits.deBruijn64tab", Rows.laid_math_bits_deBruijn64tab), ("internal/strconv.uint64pow10", Rows.laid_internal_strconv_uint64pow10), ("unicode/utf8.acceptRanges", Rows.laid_unicode_utf8_acceptRanges), ("strconv.ErrRange", Rows.laid_strconv_ErrRange), ("strconv.ErrSyntax", Rows.laid_strconv_ErrSyntax), ("unicode/utf8.first", Rows.laid_unicode_utf8_first)]) [4, 5, 1, 7, 3, 2, 6, (World.holding Tryz.prog os ⟨#[], #[], []⟩).heap.size + 0, (World.holding Tryz.prog os ⟨#[], #[], []⟩).heap.size + 1] 8 (by kernel_rfl) (by kernel_rfl) (by kernel_rfl) (by kernel_rfl)).met
theorem glob_laid {W : World} (hs : W.ShapedOpen Tryz.prog) (hm : laidMetH Tryz.prog [("math/bits.deBruijn32tab", Rows.laid_math_bits_deBruijn32tab), ("math/bits.deBruijn64tab", Rows.laid_math_bits_deBruijn64tab), ("internal/strconv.uint64pow10", Rows.laid_internal_strconv_uint64pow10), ("unicode/utf8.acceptRanges", Rows.laid_unicode_utf8_acceptRanges), ("strconv.ErrRange", Rows.laid_strconv_ErrRange), ("strconv.ErrSyntax", Rows.laid_strconv_ErrSyntax), ("unicode/utf8.first", Rows.laid_unicode_utf8_first)] W) : Glob W (· < W.heap.size) := by
  have hm2 := met_of_h (by rfl) hm
  intro g cs hg
  simp only [globs, PW.look] at hg
  repeat' split at hg
  · rename_i e; injection hg with hg; subst e; subst hg; exact (glob_any (g := 0) (t := 3) (zero := #[.int .i64 0]) hs (of_decide_eq_true (by kernel_rfl)) (by kernel_rfl) rfl (by kernel_rfl) (by kernel_rfl) (by kernel_rfl))
  · rename_i e; injection hg with hg; subst e; subst hg; exact (glob_of (n := "internal/strconv.uint64pow10") (g := 1) (m := 20) (t := 161) (e := 146) (d := Rows.laid_internal_strconv_uint64pow10) (qs := _) (by simp) (by kernel_rfl) (by kernel_rfl) (by kernel_rfl) (by kernel_rfl) (by kernel_rfl) (by kernel_rfl) (by decide) rfl hm2)
  · rename_i e; injection hg with hg; subst e; subst hg; exact (glob_ifc (n := "strconv.ErrSyntax") (nm := "*errors.errorString") (g := 2) (t := 131) (d := .ptr (.agg [.lit (.string [105, 110, 118, 97, 108, 105, 100, 32, 115, 121, 110, 116, 97, 120])])) (.tail _ (.tail _ (.tail _ (.tail _ (.tail _ (.head _)))))) (by kernel_rfl) (by kernel_rfl) (by kernel_rfl) hm2)
  · rename_i e; injection hg with hg; subst e; subst hg; exact (glob_ifc (n := "strconv.ErrRange") (nm := "*errors.errorString") (g := 3) (t := 131) (d := .ptr (.agg [.lit (.string [118, 97, 108, 117, 101, 32, 111, 117, 116, 32, 111, 102, 32, 114, 97, 110, 103, 101])])) (.tail _ (.tail _ (.tail _ (.tail _ (.head _))))) (by kernel_rfl) (by kernel_rfl) (by kernel_rfl) hm2)
  · cases hg
theorem Tryz.sh3 : Shp Tryz.prog 3 cI (inK .i64) := Shp.i64 (by kernel_rfl)
theorem Tryz.sh9 : Shp Tryz.prog 9 cS (fun (s : List UInt8) => s.length ≤ reachBytes) := Shp.str (by kernel_rfl)
theorem Tryz.sh47 : Shp Tryz.prog 47 (cL 1 cS) (fun (l : List (List UInt8)) => l.length * 16 ≤ reachBytes ∧ ∀ a ∈ l, (fun (s : List UInt8) => s.length ≤ reachBytes) a) := Shp.slice (e := 9) (by kernel_rfl) (by kernel_rfl) (by kernel_rfl) Tryz.sh9
def SMajorMinorPatchPre.ok (x : SMajorMinorPatchPre) : Prop := (inK .i64) x.Major ∧ (inK .i64) x.Minor ∧ (inK .i64) x.Patch ∧ (fun (l : List (List UInt8)) => l.length * 16 ≤ reachBytes ∧ ∀ a ∈ l, (fun (s : List UInt8) => s.length ≤ reachBytes) a) x.Pre ∧ True
theorem Tryz.sh60 : Shp Tryz.prog 60 SMajorMinorPatchPre.cells SMajorMinorPatchPre.ok := Shp.of (Shp.struct (ts := [3, 3, 3, 47]) (by kernel_rfl) (Shps.cons Tryz.sh3 (Shps.cons Tryz.sh3 (Shps.cons Tryz.sh3 (Shps.cons Tryz.sh47 Shps.nil))))) (fun x => (⟨x.1, x.2.1, x.2.2.1, x.2.2.2.1⟩ : SMajorMinorPatchPre)) (fun _ => rfl) (fun _ h => h)
theorem Tryz.sh4 : Shp Tryz.prog 4 cB (fun (_ : Bool) => True) := Shp.bool (by kernel_rfl)
def SLowHighUnbounded.ok (x : SLowHighUnbounded) : Prop := SMajorMinorPatchPre.ok x.Low ∧ SMajorMinorPatchPre.ok x.High ∧ (fun (_ : Bool) => True) x.Unbounded ∧ True
theorem Tryz.sh109 : Shp Tryz.prog 109 SLowHighUnbounded.cells SLowHighUnbounded.ok := Shp.of (Shp.struct (ts := [60, 60, 4]) (by kernel_rfl) (Shps.cons Tryz.sh60 (Shps.cons Tryz.sh60 (Shps.cons Tryz.sh4 Shps.nil)))) (fun x => (⟨x.1, x.2.1, x.2.2.1⟩ : SLowHighUnbounded)) (fun _ => rfl) (fun _ h => h)
theorem Tryz.sh91 : Shp Tryz.prog 91 (cL 9 SLowHighUnbounded.cells) (fun (l : List SLowHighUnbounded) => l.length * 104 ≤ reachBytes ∧ ∀ a ∈ l, SLowHighUnbounded.ok a) := Shp.slice (e := 109) (by kernel_rfl) (by kernel_rfl) (by kernel_rfl) Tryz.sh109
def SIntervals.ok (x : SIntervals) : Prop := (fun (l : List SLowHighUnbounded) => l.length * 104 ≤ reachBytes ∧ ∀ a ∈ l, SLowHighUnbounded.ok a) x.Intervals ∧ True
theorem Tryz.sh93 : Shp Tryz.prog 93 SIntervals.cells SIntervals.ok := Shp.of (Shp.struct (ts := [91]) (by kernel_rfl) (Shps.cons Tryz.sh91 Shps.nil)) (fun x => (⟨x.1⟩ : SIntervals)) (fun _ => rfl) (fun _ h => h)
def SPackageRange.ok (x : SPackageRange) : Prop := (inK .i64) x.Package ∧ SIntervals.ok x.Range ∧ True
theorem Tryz.sh95 : Shp Tryz.prog 95 SPackageRange.cells SPackageRange.ok := Shp.of (Shp.struct (ts := [3, 93]) (by kernel_rfl) (Shps.cons Tryz.sh3 (Shps.cons Tryz.sh93 Shps.nil))) (fun x => (⟨x.1, x.2.1⟩ : SPackageRange)) (fun _ => rfl) (fun _ h => h)
theorem Tryz.sh72 : Shp Tryz.prog 72 (cL 2 SPackageRange.cells) (fun (l : List SPackageRange) => l.length * 32 ≤ reachBytes ∧ ∀ a ∈ l, SPackageRange.ok a) := Shp.slice (e := 95) (by kernel_rfl) (by kernel_rfl) (by kernel_rfl) Tryz.sh95
def SVersionNeeds.ok (x : SVersionNeeds) : Prop := SMajorMinorPatchPre.ok x.Version ∧ (fun (l : List SPackageRange) => l.length * 32 ≤ reachBytes ∧ ∀ a ∈ l, SPackageRange.ok a) x.Needs ∧ True
theorem Tryz.sh75 : Shp Tryz.prog 75 SVersionNeeds.cells SVersionNeeds.ok := Shp.of (Shp.struct (ts := [60, 72]) (by kernel_rfl) (Shps.cons Tryz.sh60 (Shps.cons Tryz.sh72 Shps.nil))) (fun x => (⟨x.1, x.2.1⟩ : SVersionNeeds)) (fun _ => rfl) (fun _ h => h)
theorem Tryz.sh73 : Shp Tryz.prog 73 (cL 5 SVersionNeeds.cells) (fun (l : List SVersionNeeds) => l.length * 72 ≤ reachBytes ∧ ∀ a ∈ l, SVersionNeeds.ok a) := Shp.slice (e := 75) (by kernel_rfl) (by kernel_rfl) (by kernel_rfl) Tryz.sh75
theorem Tryz.sh37 : Shp Tryz.prog 37 (cL 1 (cL 5 SVersionNeeds.cells)) (fun (l : List (List SVersionNeeds)) => l.length * 24 ≤ reachBytes ∧ ∀ a ∈ l, (fun (l : List SVersionNeeds) => l.length * 72 ≤ reachBytes ∧ ∀ a ∈ l, SVersionNeeds.ok a) a) := Shp.slice (e := 73) (by kernel_rfl) (by kernel_rfl) (by kernel_rfl) Tryz.sh73
def SPackages.ok (x : SPackages) : Prop := (fun (l : List (List SVersionNeeds)) => l.length * 24 ≤ reachBytes ∧ ∀ a ∈ l, (fun (l : List SVersionNeeds) => l.length * 72 ≤ reachBytes ∧ ∀ a ∈ l, SVersionNeeds.ok a) a) x.Packages ∧ True
theorem Tryz.sh39 : Shp Tryz.prog 39 SPackages.cells SPackages.ok := Shp.of (Shp.struct (ts := [37]) (by kernel_rfl) (Shps.cons Tryz.sh37 Shps.nil)) (fun x => (⟨x.1⟩ : SPackages)) (fun _ => rfl) (fun _ h => h)
theorem Tryz.sh28 : Shp Tryz.prog 28 (cL 1 cI) (fun (l : List Int) => l.length * 8 ≤ reachBytes ∧ ∀ a ∈ l, (inK .i64) a) := Shp.slice (e := 3) (by kernel_rfl) (by kernel_rfl) (by kernel_rfl) Tryz.sh3
theorem params8 : Tryz.f8.params.toList = [39, 28, 28] := by kernel_rfl
theorem law8 (qs : List PV) (h : TyVs Tryz.prog Tryz.f8.params.toList qs) : PSpec Tryz.prog 8 qs (.bool true) := by
  rw [params8] at h
  obtain ⟨⟨a0, a1, a2, _⟩, rfl, hq⟩ := ((ShVs.cons (ShV.agg (by kernel_rfl) Tryz.sh39) (ShVs.cons (ShV.one (by kernel_rfl) Tryz.sh28 (fun l => .list 1 (l.map cI)) (fun _ => rfl)) (ShVs.cons (ShV.one (by kernel_rfl) Tryz.sh28 (fun l => .list 1 (l.map cI)) (fun _ => rfl)) ShVs.nil))) : ShVs Tryz.prog [39, 28, 28] _ _) qs h
  exact law6_LockfileDriftOfSelections_spec 2000 a0 a1 a2 true (law_selections a0 a1 a2)
set_option maxRecDepth 100000 in
theorem witnessRow8 (os : Os) {H : Type} (enc : TypeId × Value → H) :
    (OpenSpec.ofChange Rows.lockfileDriftOfSelectionsSpec).preRow enc Tryz.prog Tryz.f8 Rows.lockfileDriftOfSelectionsRow.domain false Rows.lockfileDriftOfSelectionsRow.laid ((laidWorld os).forCall (fun _ _ => 0) ⟨#[], #[.agg #[.slice none 0 0], .slice none 0 0, .slice none 0 0], []⟩).memory #[.agg #[.slice none 0 0], .slice none 0 0, .slice none 0 0] := by
  have hw : (DataW.whole enc Tryz.prog ((laidWorld os).forCall (fun _ _ => 0) ⟨#[], #[.agg #[.slice none 0 0], .slice none 0 0, .slice none 0 0], []⟩).memory Tryz.f8.params.toList (OpenSpec.ofChange Rows.lockfileDriftOfSelectionsSpec).vars false (#[.agg #[.slice none 0 0], .slice none 0 0, .slice none 0 0] : Array Value).toList 8).map (fun x => (x.1, x.2.1)) =
      some ([.agg [.nil], .nil, .nil], []) := by kernel_rfl
  obtain ⟨⟨x1, x2, x3⟩, hx, hx1⟩ := Option.map_eq_some_iff.1 hw
  simp only [Prod.mk.injEq] at hx1
  obtain ⟨rfl, rfl⟩ := hx1
  exact OpenSpec.preRow_of_cond 8 hx (by kernel_rfl) (fun k hk => by cases hk) (by kernel_rfl) (laid_met os _)
theorem lifted8 (os : Os) (started : os.Started) (H : Type) (enc : TypeId × Value → H) (F : Stop.Interp) :
    ReturnsInHanded {} Tryz.checked os 8 .any ((OpenSpec.ofChange Rows.lockfileDriftOfSelectionsSpec).preRow enc Tryz.prog Tryz.f8 Rows.lockfileDriftOfSelectionsRow.domain false Rows.lockfileDriftOfSelectionsRow.laid) (((OpenSpec.ofChange Rows.lockfileDriftOfSelectionsSpec).at F).post enc Tryz.prog Tryz.f8 false true false false) := by
  refine law_lifted_row (C := Tryz.checked) (L := [3, 4, 9, 28, 37, 39, 47, 60, 72, 73, 75, 91, 93, 95, 109]) (tb := 4) F Tryz.ownT started (by kernel_rfl) Tryz.func8
    (witness_row_atRef (enc := enc) (C := Tryz.checked) false (laidWorld os) #[.agg #[.slice none 0 0], .slice none 0 0, .slice none 0 0] rfl (by kernel_rfl) (by kernel_rfl) (by kernel_rfl) (witnessRow8 os enc))
    (by kernel_rfl) Tryz.laidOutT (by kernel_rfl) (by kernel_rfl) (by kernel_rfl) rfl ?_ (fun W hs hm => glob_laid hs hm) law8
  intro ds hds
  match ds, hds with
  | [d0, d1, d2], _ => rfl
theorem named8 : Tryz.prog.funcNamed Rows.lockfileDriftOfSelectionsRow.func = some 8 := by kernel_rfl
theorem goes8 : false = Rows.lockfileDriftOfSelectionsRow.goesBy Tryz.prog := by kernel_rfl
theorem inPlace8 : (Rows.lockfileDriftOfSelectionsRow.inPlace == Tryz.prog.inPlace 8) = true := by kernel_rfl
theorem unfol8 : (Rows.lockfileDriftOfSelectionsRow.unfollowed == Tryz.prog.unfollowed 8) = true := by kernel_rfl
theorem recur8 : (Rows.lockfileDriftOfSelectionsRow.recurses == Tryz.prog.recurses 8) = true := by kernel_rfl
theorem vnamed8 : (Rows.lockfileDriftOfSelectionsRow.named == Tryz.prog.varsNamed 8) = true := by kernel_rfl
theorem lift8 : (Rows.lockfileDriftOfSelectionsRow.lifted == Tryz.prog.liftsFinal) = true := (congrArg (fun z => (Rows.lockfileDriftOfSelectionsRow.lifted == z)) (eq_of_beq jLifted).symm).trans (by kernel_rfl)
theorem make8 : (Tryz.prog.make == some Rows.lockfileDriftOfSelectionsRow.make) = true := (congrArg (fun z => (z == some Rows.lockfileDriftOfSelectionsRow.make)) (eq_of_beq jMake)).trans (by kernel_rfl)
theorem closed8 : joinedFacts Tryz.prog 8 Tryz.f8 (OpenSpec.ofChange Rows.lockfileDriftOfSelectionsSpec).bare Rows.lockfileDriftOfSelectionsRow = true := by
  unfold joinedFacts
  exact (jBand (jBand (jBand (jBand (jBand (jBand (jBand (jBand (jBand (jBand (jBand (jBand (jBand (jBand (jBand (jBand (jBand (jBand (jBand (jBand (jBand (jBand (jBand (jBand (jBand (jBand (jBand (jBand (jBand (jBand (jBand (by kernel_rfl) Tryz.laidOutT) jMaps) (by kernel_rfl)) (by kernel_rfl)) (by kernel_rfl)) (by kernel_rfl)) (by kernel_rfl)) (by kernel_rfl)) inPlace8) unfol8) recur8) vnamed8) (by kernel_rfl)) (by kernel_rfl)) (by kernel_rfl)) (by kernel_rfl)) (by kernel_rfl)) (by kernel_rfl)) (by kernel_rfl)) (by kernel_rfl)) (by kernel_rfl)) (by kernel_rfl)) (by kernel_rfl)) jHeard) jMayEnter) lift8) make8) (by kernel_rfl)) (by kernel_rfl)) (by kernel_rfl)) (by kernel_rfl))
theorem row8 : Rows.LockfileDriftOfSelectionsSaid :=
  OpenClaim.holds_of_cond 8 Tryz.f8 rfl rfl rfl rfl rfl rfl rfl ⟨rfl, rfl, rfl, rfl, rfl⟩ rfl rfl rfl rfl rfl named8 Tryz.func8 closed8
    (of_decide_eq_true (by kernel_rfl)) (by unfold Func.isWrapper; first | (rw [if_pos (by decide +kernel)]; kernel_rfl) | (rw [if_neg (by decide +kernel)]; exact ⟨rfl, rfl⟩))
    (fun os started H enc _ F => by rw [OpenClaim.pre_eq_preRow]; exact lifted8 os started H enc F)
theorem holds8 : Rows.LockfileDriftOfSelectionsCardSaid :=
  Claim7.holds_tied_plain_at .later [] [.data, .data, .data, .data, .sentinel, .sentinel, .pinned] true (true, "cc0c90b5fdc23d121c5431adac35ddd7de37a0056b3d5c13b3b37820f47944f3") true
    row8 (fun _ h => by cases h) (by kernel_rfl) (fun _ h => by cases h) lockfileDriftOfSelections_row_tie rfl ⟨rfl, rfl⟩ jMain rfl
    (fun f fn hf hfn => by
      obtain rfl : f = 8 := Option.some.inj ((show Tryz.prog.funcNamed Rows.lockfileDriftOfSelectionsRow.func = some 8 from named8).symm.trans hf) |>.symm
      obtain rfl : fn = Tryz.f8 := (Option.some.inj (Tryz.func8.symm.trans hfn)).symm
      exact ⟨jLooks, fun j t ht => by
        have hm : t ∈ Tryz.f8.params.toList := by
          have := Array.mem_of_getElem? ht
          simpa using this
        rw [params8] at hm
        have hall : ([39, 28, 28] : List TypeId).all (fun t => !Tryz.prog.wantsStandIn t) = true := by kernel_rfl
        have := List.all_eq_true.1 hall t hm
        exact (by simpa using this : Tryz.prog.wantsStandIn t = false)⟩)
    goes8
#print axioms holds8
end Go.Proofs.YtpcmhhbocifbcaaGreatDoor
