/- The given statements, from the plain laws: for every input the law returns true and leaves its arguments as they read; no condition beyond the row's own. -/
import Derived.Test.YtpcmhhbocifbcaaGreatDoorRows
import Derived.Test.YtpcmhhbocifbcaaGreatDoorPwShape
import Derived.Test.YtpcmhhbocifbcaaGreatDoorPwUpto
import Derived.Test.YtpcmhhbocifbcaaGreatDoorPwGlob2
import Derived.JoinedCond
import Derived.Deep.DeepWitnessRowRef
import Derived.Lib.LaidIn
import Derived.Test.YtpcmhhbocifbcaaGreatDoorCards
import Derived.Test.YtpcmhhbocifbcaaGreatDoorTie
import Derived.ProofKit
import Derived.Test.YtpcmhhbocifbcaaGreatDoorPE
import Derived.Test.YtpcmhhbocifbcaaGreatDoorWB
import Derived.Test.YtpcmhhbocifbcaaGreatDoorJ
namespace Go.Proofs.YtpcmhhbocifbcaaGreatDoor
open Go.PW Go Go.RowKit Go.WideShapes Go.ChangeShapes Go.ChangeAt
theorem Tryz.ownT : ownKnob Tryz.prog.godebug = none := by kernel_rfl
theorem Tryz.laidOutT : laidOutB Tryz.prog = true := by kernel_rfl
open Go.Lib
noncomputable def laidWorld (os : Os) : World :=
  let w0 := World.holding Tryz.prog os ⟨#[], #[], []⟩
  let put (h : Array Obj) (g : Nat) (cs : Array Value) : Array Obj := h.modify g fun
    | .cells _ t frozen => .cells cs t frozen
    | o => o
  let h1 := put w0.heap 4 #[.int .u8 0, .int .u8 1, .int .u8 28, .int .u8 2, .int .u8 29, .int .u8 14, .int .u8 24, .int .u8 3, .int .u8 30, .int .u8 22, .int .u8 20, .int .u8 15, .int .u8 25, .int .u8 17, .int .u8 4, .int .u8 8, .int .u8 31, .int .u8 27, .int .u8 13, .int .u8 23, .int .u8 21, .int .u8 19, .int .u8 16, .int .u8 7, .int .u8 26, .int .u8 12, .int .u8 18, .int .u8 6, .int .u8 11, .int .u8 5, .int .u8 10, .int .u8 9]
  let h2 := put h1 5 #[.int .u8 0, .int .u8 1, .int .u8 56, .int .u8 2, .int .u8 57, .int .u8 49, .int .u8 28, .int .u8 3, .int .u8 61, .int .u8 58, .int .u8 42, .int .u8 50, .int .u8 38, .int .u8 29, .int .u8 17, .int .u8 4, .int .u8 62, .int .u8 47, .int .u8 59, .int .u8 36, .int .u8 45, .int .u8 43, .int .u8 51, .int .u8 22, .int .u8 53, .int .u8 39, .int .u8 33, .int .u8 30, .int .u8 24, .int .u8 18, .int .u8 12, .int .u8 5, .int .u8 63, .int .u8 55, .int .u8 48, .int .u8 27, .int .u8 60, .int .u8 41, .int .u8 37, .int .u8 16, .int .u8 46, .int .u8 35, .int .u8 44, .int .u8 21, .int .u8 52, .int .u8 32, .int .u8 23, .int .u8 11, .int .u8 54, .int .u8 26, .int .u8 40, .int .u8 15, .int .u8 34, .int .u8 20, .int .u8 31, .int .u8 10, .int .u8 25, .int .u8 14, .int .u8 19, .int .u8 9, .int .u8 13, .int .u8 8, .int .u8 7, .int .u8 6]
  let h3 := put h2 1 #[.int .u64 1, .int .u64 10, .int .u64 100, .int .u64 1000, .int .u64 10000, .int .u64 100000, .int .u64 1000000, .int .u64 10000000, .int .u64 100000000, .int .u64 1000000000, .int .u64 10000000000, .int .u64 100000000000, .int .u64 1000000000000, .int .u64 10000000000000, .int .u64 100000000000000, .int .u64 1000000000000000, .int .u64 10000000000000000, .int .u64 100000000000000000, .int .u64 1000000000000000000, .int .u64 10000000000000000000]
  let h4 := put h3 7 #[.int .u8 128, .int .u8 191, .int .u8 160, .int .u8 191, .int .u8 128, .int .u8 159, .int .u8 144, .int .u8 191, .int .u8 128, .int .u8 143, .int .u8 0, .int .u8 0, .int .u8 0, .int .u8 0, .int .u8 0, .int .u8 0, .int .u8 0, .int .u8 0, .int .u8 0, .int .u8 0, .int .u8 0, .int .u8 0, .int .u8 0, .int .u8 0, .int .u8 0, .int .u8 0, .int .u8 0, .int .u8 0, .int .u8 0, .int .u8 0, .int .u8 0, .int .u8 0]
  let h5 := put h4 3 #[.iface 192 (.pointer (some ⟨w0.heap.size + 0, 0, none⟩))]
  let h6 := put h5 2 #[.iface 192 (.pointer (some ⟨w0.heap.size + 1, 0, none⟩))]
  let h7 := put h6 6 (Go.Pinned.utf8FirstZ.map fun (z : Nat) => Value.int .u8 (z : Int)).toArray
  { w0 with heap := ((h7.push (.cells #[.string ⟨#[118, 97, 108, 117, 101, 32, 111, 117, 116, 32, 111, 102, 32, 114, 97, 110, 103, 101]⟩] 194 (0, 0))).push (.cells #[.string ⟨#[105, 110, 118, 97, 108, 105, 100, 32, 115, 121, 110, 116, 97, 120]⟩] 194 (0, 0))) }
theorem laid_met (os : Os) (args : Array Value) : laidMet Tryz.prog [("math/bits.deBruijn32tab", Rows.laid_math_bits_deBruijn32tab), ("math/bits.deBruijn64tab", Rows.laid_math_bits_deBruijn64tab), ("internal/strconv.uint64pow10", Rows.laid_internal_strconv_uint64pow10), ("unicode/utf8.acceptRanges", Rows.laid_unicode_utf8_acceptRanges), ("strconv.ErrRange", Rows.laid_strconv_ErrRange), ("strconv.ErrSyntax", Rows.laid_strconv_ErrSyntax), ("unicode/utf8.first", Rows.laid_unicode_utf8_first)] ((laidWorld os).forCall (fun _ _ => 0) ⟨#[], args, []⟩).memory :=
  (LaidIn.of_run (l := [("math/bits.deBruijn32tab", Rows.laid_math_bits_deBruijn32tab), ("math/bits.deBruijn64tab", Rows.laid_math_bits_deBruijn64tab), ("internal/strconv.uint64pow10", Rows.laid_internal_strconv_uint64pow10), ("unicode/utf8.acceptRanges", Rows.laid_unicode_utf8_acceptRanges), ("strconv.ErrRange", Rows.laid_strconv_ErrRange), ("strconv.ErrSyntax", Rows.laid_strconv_ErrSyntax), ("unicode/utf8.first", Rows.laid_unicode_utf8_first)]) [4, 5, 1, 7, 3, 2, 6, (World.holding Tryz.prog os ⟨#[], #[], []⟩).heap.size + 0, (World.holding Tryz.prog os ⟨#[], #[], []⟩).heap.size + 1] 8 (by kernel_rfl) (by kernel_rfl) (by kernel_rfl) (by kernel_rfl)).met
theorem glob_laid {W : World} (hs : W.ShapedOpen Tryz.prog) (hm : laidMetH Tryz.prog [("math/bits.deBruijn32tab", Rows.laid_math_bits_deBruijn32tab), ("math/bits.deBruijn64tab", Rows.laid_math_bits_deBruijn64tab), ("internal/strconv.uint64pow10", Rows.laid_internal_strconv_uint64pow10), ("unicode/utf8.acceptRanges", Rows.laid_unicode_utf8_acceptRanges), ("strconv.ErrRange", Rows.laid_strconv_ErrRange), ("strconv.ErrSyntax", Rows.laid_strconv_ErrSyntax), ("unicode/utf8.first", Rows.laid_unicode_utf8_first)] W) : Glob W (· < W.heap.size) := by
  have hm2 := met_of_h (by rfl) hm
  intro g cs hg
  simp only [globs, PW.look] at hg
  repeat' split at hg
  · rename_i e; injection hg with hg; subst e; subst hg; exact (glob_any (g := 0) (t := 3) (zero := #[.int .i64 0]) hs (of_decide_eq_true (by kernel_rfl)) (by kernel_rfl) rfl (by kernel_rfl) (by kernel_rfl) (by kernel_rfl))
  · rename_i e; injection hg with hg; subst e; subst hg; exact (glob_of (n := "internal/strconv.uint64pow10") (g := 1) (m := 20) (t := 161) (e := 146) (d := Rows.laid_internal_strconv_uint64pow10) (qs := _) (by simp) (by kernel_rfl) (by kernel_rfl) (by kernel_rfl) (by kernel_rfl) (by kernel_rfl) (by kernel_rfl) (by decide) rfl hm2)
  · rename_i e; injection hg with hg; subst e; subst hg; exact (glob_ifc (n := "strconv.ErrSyntax") (nm := "*errors.errorString") (g := 2) (t := 131) (d := .ptr (.agg [.lit (.string [105, 110, 118, 97, 108, 105, 100, 32, 115, 121, 110, 116, 97, 120])])) (.tail _ (.tail _ (.tail _ (.tail _ (.tail _ (.head _)))))) (by kernel_rfl) (by kernel_rfl) (by kernel_rfl) hm2)
  · rename_i e; injection hg with hg; subst e; subst hg; exact (glob_ifc (n := "strconv.ErrRange") (nm := "*errors.errorString") (g := 3) (t := 131) (d := .ptr (.agg [.lit (.string [118, 97, 108, 117, 101, 32, 111, 117, 116, 32, 111, 102, 32, 114, 97, 110, 103, 101])])) (.tail _ (.tail _ (.tail _ (.tail _ (.head _))))) (by kernel_rfl) (by kernel_rfl) (by kernel_rfl) hm2)
  · cases hg
theorem uptoB1 {H : Type} (s : List UInt8) : s.length ≤ Rows.uptoBulk (H := H) (.lit (.string s)) := Nat.le_succ _
theorem uptoAll {H : Type} : ∀ (l : List (DataW H)) (d : DataW H), d ∈ l → Rows.uptoBulk d ≤ Rows.uptoBulkAll l
  | [], _, h => by cases h
  | x :: l, d, h => by
    show _ ≤ Rows.uptoBulk x + Rows.uptoBulkAll l
    rcases List.mem_cons.1 h with g | g
    · subst g; omega
    · have := uptoAll l d g; omega
theorem uptoB2 {H : Type} (es sp : List (DataW H)) (d : DataW H) (h : d ∈ es) : Rows.uptoBulk d ≤ Rows.uptoBulk (.slice es sp) := by
  have := uptoAll es d h
  show _ ≤ Rows.uptoBulkAll es + Rows.uptoBulkAll sp + 1
  omega
theorem uptoB3 {H : Type} (ps : List (DataW H)) (d : DataW H) (h : d ∈ ps) : Rows.uptoBulk d ≤ Rows.uptoBulk (.agg ps) := by
  have := uptoAll ps d h
  show _ ≤ Rows.uptoBulkAll ps + 1
  omega
theorem uptoK {H : Type} (ds : List (DataW H)) (h : Rows.uptoSmall H ds = true) : ∀ d ∈ ds, Rows.uptoBulk d ≤ 1048576 := by
  intro d hd
  have := uptoAll ds d hd
  have h : Rows.uptoBulkAll ds ≤ 1048576 := of_decide_eq_true h
  omega
theorem Tryz.sh3 : Shp Tryz.prog 3 cI (inK .i64) := Shp.i64 (by kernel_rfl)
theorem Tryz.sh9 : Shp Tryz.prog 9 cS (fun (s : List UInt8) => s.length ≤ reachBytes) := Shp.str (by kernel_rfl)
theorem Tryz.sh47 : Shp Tryz.prog 47 (cL 1 cS) (fun (l : List (List UInt8)) => l.length * 16 ≤ reachBytes ∧ ∀ a ∈ l, (fun (s : List UInt8) => s.length ≤ reachBytes) a) := Shp.slice (e := 9) (by kernel_rfl) (by kernel_rfl) (by kernel_rfl) Tryz.sh9
def SMajorMinorPatchPre.ok (x : SMajorMinorPatchPre) : Prop := (inK .i64) x.Major ∧ (inK .i64) x.Minor ∧ (inK .i64) x.Patch ∧ (fun (l : List (List UInt8)) => l.length * 16 ≤ reachBytes ∧ ∀ a ∈ l, (fun (s : List UInt8) => s.length ≤ reachBytes) a) x.Pre ∧ True
theorem Tryz.sh60 : Shp Tryz.prog 60 SMajorMinorPatchPre.cells SMajorMinorPatchPre.ok := Shp.of (Shp.struct (ts := [3, 3, 3, 47]) (by kernel_rfl) (Shps.cons Tryz.sh3 (Shps.cons Tryz.sh3 (Shps.cons Tryz.sh3 (Shps.cons Tryz.sh47 Shps.nil))))) (fun x => (⟨x.1, x.2.1, x.2.2.1, x.2.2.2.1⟩ : SMajorMinorPatchPre)) (fun _ => rfl) (fun _ h => h)
def SPackageVersionDigest.ok (x : SPackageVersionDigest) : Prop := (inK .i64) x.Package ∧ SMajorMinorPatchPre.ok x.Version ∧ (inK .i64) x.Digest ∧ True
theorem Tryz.sh62 : Shp Tryz.prog 62 SPackageVersionDigest.cells SPackageVersionDigest.ok := Shp.of (Shp.struct (ts := [3, 60, 3]) (by kernel_rfl) (Shps.cons Tryz.sh3 (Shps.cons Tryz.sh60 (Shps.cons Tryz.sh3 Shps.nil)))) (fun x => (⟨x.1, x.2.1, x.2.2.1⟩ : SPackageVersionDigest)) (fun _ => rfl) (fun _ h => h)
theorem Tryz.sh22 : Shp Tryz.prog 22 (cL 6 SPackageVersionDigest.cells) (fun (l : List SPackageVersionDigest) => l.length * 64 ≤ reachBytes ∧ ∀ a ∈ l, SPackageVersionDigest.ok a) := Shp.slice (e := 62) (by kernel_rfl) (by kernel_rfl) (by kernel_rfl) Tryz.sh62
theorem params6 : Tryz.f6.params.toList = [22, 47] := by kernel_rfl
theorem law6 (qs : List PV) (h : TyVs Tryz.prog Tryz.f6.params.toList qs) (hps : ∀ q ∈ qs, PS 1048576 q) : PSpec Tryz.prog 6 qs (.bool true) := by
  rw [params6] at h
  obtain ⟨⟨a0, a1, _⟩, rfl, hq⟩ := ((ShVs.cons (ShV.one (by kernel_rfl) Tryz.sh22 (fun l => .list 6 (l.map SPackageVersionDigest.cells)) (fun _ => rfl)) (ShVs.cons (ShV.one (by kernel_rfl) Tryz.sh47 (fun l => .list 1 (l.map cS)) (fun _ => rfl)) ShVs.nil)) : ShVs Tryz.prog [22, 47] _ _) qs h
  have hs := PS.strs (l := a1) (hps _ (.tail _ (.head _)))
  exact law6_LockfileTextsAreCanonical_spec 3000000 a0 a1 true (law_canonical (fun x hx => Nat.le_trans (hs x hx) (by decide)) a0)
set_option maxRecDepth 100000 in
theorem witnessRow6 (os : Os) {H : Type} (enc : TypeId × Value → H) :
    (Rows.OpenSpec.upto Rows.lockfileTextsAreCanonicalSpec).preRow enc Tryz.prog Tryz.f6 Rows.lockfileTextsAreCanonicalUptoRow.domain false Rows.lockfileTextsAreCanonicalUptoRow.laid ((laidWorld os).forCall (fun _ _ => 0) ⟨#[], #[.slice none 0 0, .slice none 0 0], []⟩).memory #[.slice none 0 0, .slice none 0 0] := by
  have hw : (DataW.whole enc Tryz.prog ((laidWorld os).forCall (fun _ _ => 0) ⟨#[], #[.slice none 0 0, .slice none 0 0], []⟩).memory Tryz.f6.params.toList (Rows.OpenSpec.upto Rows.lockfileTextsAreCanonicalSpec).vars false (#[.slice none 0 0, .slice none 0 0] : Array Value).toList 8).map (fun x => (x.1, x.2.1)) =
      some ([.nil, .nil], []) := by kernel_rfl
  obtain ⟨⟨x1, x2, x3⟩, hx, hx1⟩ := Option.map_eq_some_iff.1 hw
  simp only [Prod.mk.injEq] at hx1
  obtain ⟨rfl, rfl⟩ := hx1
  exact OpenSpec.preRow_of_cond 8 hx (by kernel_rfl) (fun k hk => by injection hk with hk; subst hk; exact (by kernel_rfl : Rows.uptoSmall H [.nil, .nil] = true)) (by kernel_rfl) (laid_met os _)
theorem lifted6 (os : Os) (started : os.Started) (H : Type) (enc : TypeId × Value → H) (F : Stop.Interp) :
    ReturnsInHanded {} Tryz.checked os 6 .any ((Rows.OpenSpec.upto Rows.lockfileTextsAreCanonicalSpec).preRow enc Tryz.prog Tryz.f6 Rows.lockfileTextsAreCanonicalUptoRow.domain false Rows.lockfileTextsAreCanonicalUptoRow.laid) (((Rows.OpenSpec.upto Rows.lockfileTextsAreCanonicalSpec).at F).post enc Tryz.prog Tryz.f6 false true false false) := by
  refine law_lifted_upto (B := Rows.uptoBulk) (S := 1048576) (kc := Rows.uptoSmall) uptoB1 uptoB2 uptoB3 uptoK (C := Tryz.checked) (L := [3, 9, 22, 47, 60, 62]) (tb := 4) F Tryz.ownT started (by kernel_rfl) Tryz.func6
    (witness_row_atRef (enc := enc) (C := Tryz.checked) false (laidWorld os) #[.slice none 0 0, .slice none 0 0] rfl (by kernel_rfl) (by kernel_rfl) (by kernel_rfl) (witnessRow6 os enc))
    (by kernel_rfl) Tryz.laidOutT (by kernel_rfl) (by kernel_rfl) (by kernel_rfl) rfl ?_ (fun W hs hm => glob_laid hs hm) law6
  intro ds hds
  match ds, hds with
  | [d0, d1], _ => rfl
theorem named6 : Tryz.prog.funcNamed Rows.lockfileTextsAreCanonicalUptoRow.func = some 6 := by kernel_rfl
theorem goes6 : false = Rows.lockfileTextsAreCanonicalUptoRow.goesBy Tryz.prog := by kernel_rfl
theorem inPlace6 : (Rows.lockfileTextsAreCanonicalUptoRow.inPlace == Tryz.prog.inPlace 6) = true := by kernel_rfl
theorem unfol6 : (Rows.lockfileTextsAreCanonicalUptoRow.unfollowed == Tryz.prog.unfollowed 6) = true := by kernel_rfl
theorem recur6 : (Rows.lockfileTextsAreCanonicalUptoRow.recurses == Tryz.prog.recurses 6) = true := by kernel_rfl
theorem vnamed6 : (Rows.lockfileTextsAreCanonicalUptoRow.named == Tryz.prog.varsNamed 6) = true := by kernel_rfl
theorem lift6 : (Rows.lockfileTextsAreCanonicalUptoRow.lifted == Tryz.prog.liftsFinal) = true := (congrArg (fun z => (Rows.lockfileTextsAreCanonicalUptoRow.lifted == z)) (eq_of_beq jLifted).symm).trans (by kernel_rfl)
theorem make6 : (Tryz.prog.make == some Rows.lockfileTextsAreCanonicalUptoRow.make) = true := (congrArg (fun z => (z == some Rows.lockfileTextsAreCanonicalUptoRow.make)) (eq_of_beq jMake)).trans (by kernel_rfl)
theorem closed6 : joinedFacts Tryz.prog 6 Tryz.f6 (Rows.OpenSpec.upto Rows.lockfileTextsAreCanonicalSpec).bare Rows.lockfileTextsAreCanonicalUptoRow = true := by
  unfold joinedFacts
  exact (jBand (jBand (jBand (jBand (jBand (jBand (jBand (jBand (jBand (jBand (jBand (jBand (jBand (jBand (jBand (jBand (jBand (jBand (jBand (jBand (jBand (jBand (jBand (jBand (jBand (jBand (jBand (jBand (jBand (jBand (jBand (by kernel_rfl) Tryz.laidOutT) jMaps) (by kernel_rfl)) (by kernel_rfl)) (by kernel_rfl)) (by kernel_rfl)) (by kernel_rfl)) (by kernel_rfl)) inPlace6) unfol6) recur6) vnamed6) (by kernel_rfl)) (by kernel_rfl)) (by kernel_rfl)) (by kernel_rfl)) (by kernel_rfl)) (by kernel_rfl)) (by kernel_rfl)) (by kernel_rfl)) (by kernel_rfl)) (by kernel_rfl)) (by kernel_rfl)) jHeard) jMayEnter) lift6) make6) (by kernel_rfl)) (by kernel_rfl)) (by kernel_rfl)) (by kernel_rfl))
theorem row6 : Rows.LockfileTextsAreCanonicalUptoSaid :=
  OpenClaim.holds_of_cond 6 Tryz.f6 rfl rfl rfl rfl rfl rfl rfl ⟨rfl, rfl, rfl, rfl, rfl⟩ rfl rfl rfl rfl rfl named6 Tryz.func6 closed6
    (of_decide_eq_true (by kernel_rfl)) (by unfold Func.isWrapper; first | (rw [if_pos (by decide +kernel)]; kernel_rfl) | (rw [if_neg (by decide +kernel)]; exact ⟨rfl, rfl⟩))
    (fun os started H enc _ F => by rw [OpenClaim.pre_eq_preRow]; exact lifted6 os started H enc F)
theorem holds6 : Rows.LockfileTextsAreCanonicalUptoCardSaid :=
  Claim7.holds_tied_plain_at .later [] [.data, .data, .data, .data, .sentinel, .sentinel, .pinned] true (true, "cc0c90b5fdc23d121c5431adac35ddd7de37a0056b3d5c13b3b37820f47944f3") true
    row6 (fun _ h => by cases h) (by kernel_rfl) (fun _ h => by cases h) lockfileTextsAreCanonicalUpto_row_tie rfl ⟨rfl, rfl⟩ jMain rfl
    (fun f fn hf hfn => by
      obtain rfl : f = 6 := Option.some.inj ((show Tryz.prog.funcNamed Rows.lockfileTextsAreCanonicalUptoRow.func = some 6 from named6).symm.trans hf) |>.symm
      obtain rfl : fn = Tryz.f6 := (Option.some.inj (Tryz.func6.symm.trans hfn)).symm
      exact ⟨jLooks, fun j t ht => by
        have hm : t ∈ Tryz.f6.params.toList := by
          have := Array.mem_of_getElem? ht
          simpa using this
        rw [params6] at hm
        have hall : ([22, 47] : List TypeId).all (fun t => !Tryz.prog.wantsStandIn t) = true := by kernel_rfl
        have := List.all_eq_true.1 hall t hm
        exact (by simpa using this : Tryz.prog.wantsStandIn t = false)⟩)
    goes6
#print axioms holds6
end Go.Proofs.YtpcmhhbocifbcaaGreatDoor
