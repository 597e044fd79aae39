/- The given statements, from the plain laws: for every input the law returns true and leaves its arguments as they read; no condition beyond the row's own. -/
import Derived.Test.YtjmmlddioeehbaaGreatDoorRows
import Derived.Test.YtjmmlddioeehbaaGreatDoorPwShape
import Derived.Test.YtjmmlddioeehbaaGreatDoorPwGa
import Derived.JoinedCond
import Derived.Deep.DeepWitnessRowRef
import Derived.Lib.LaidIn
import Derived.Test.YtjmmlddioeehbaaGreatDoorCards
import Derived.Test.YtjmmlddioeehbaaGreatDoorTie
import Derived.ProofKit
import Derived.Test.YtjmmlddioeehbaaGreatDoorPE
import Derived.Test.YtjmmlddioeehbaaGreatDoorWB
import Derived.Test.YtjmmlddioeehbaaGreatDoorJ
namespace Go.Proofs.YtjmmlddioeehbaaGreatDoor
open Go.PW Go Go.RowKit Go.WideShapes Go.ChangeShapes Go.ChangeAt
theorem Tryz.ownT : ownKnob Tryz.prog.godebug = none := by kernel_rfl
theorem Tryz.laidOutT : laidOutB Tryz.prog = true := by kernel_rfl
open Go.Lib
noncomputable def laidWorld (os : Os) : World :=
  let w0 := World.holding Tryz.prog os ⟨#[], #[], []⟩
  let put (h : Array Obj) (g : Nat) (cs : Array Value) : Array Obj := h.modify g fun
    | .cells _ t frozen => .cells cs t frozen
    | o => o
  let h1 := put w0.heap 4 #[.int .u8 0, .int .u8 1, .int .u8 28, .int .u8 2, .int .u8 29, .int .u8 14, .int .u8 24, .int .u8 3, .int .u8 30, .int .u8 22, .int .u8 20, .int .u8 15, .int .u8 25, .int .u8 17, .int .u8 4, .int .u8 8, .int .u8 31, .int .u8 27, .int .u8 13, .int .u8 23, .int .u8 21, .int .u8 19, .int .u8 16, .int .u8 7, .int .u8 26, .int .u8 12, .int .u8 18, .int .u8 6, .int .u8 11, .int .u8 5, .int .u8 10, .int .u8 9]
  let h2 := put h1 5 #[.int .u8 0, .int .u8 1, .int .u8 56, .int .u8 2, .int .u8 57, .int .u8 49, .int .u8 28, .int .u8 3, .int .u8 61, .int .u8 58, .int .u8 42, .int .u8 50, .int .u8 38, .int .u8 29, .int .u8 17, .int .u8 4, .int .u8 62, .int .u8 47, .int .u8 59, .int .u8 36, .int .u8 45, .int .u8 43, .int .u8 51, .int .u8 22, .int .u8 53, .int .u8 39, .int .u8 33, .int .u8 30, .int .u8 24, .int .u8 18, .int .u8 12, .int .u8 5, .int .u8 63, .int .u8 55, .int .u8 48, .int .u8 27, .int .u8 60, .int .u8 41, .int .u8 37, .int .u8 16, .int .u8 46, .int .u8 35, .int .u8 44, .int .u8 21, .int .u8 52, .int .u8 32, .int .u8 23, .int .u8 11, .int .u8 54, .int .u8 26, .int .u8 40, .int .u8 15, .int .u8 34, .int .u8 20, .int .u8 31, .int .u8 10, .int .u8 25, .int .u8 14, .int .u8 19, .int .u8 9, .int .u8 13, .int .u8 8, .int .u8 7, .int .u8 6]
  let h3 := put h2 1 #[.int .u64 1, .int .u64 10, .int .u64 100, .int .u64 1000, .int .u64 10000, .int .u64 100000, .int .u64 1000000, .int .u64 10000000, .int .u64 100000000, .int .u64 1000000000, .int .u64 10000000000, .int .u64 100000000000, .int .u64 1000000000000, .int .u64 10000000000000, .int .u64 100000000000000, .int .u64 1000000000000000, .int .u64 10000000000000000, .int .u64 100000000000000000, .int .u64 1000000000000000000, .int .u64 10000000000000000000]
  let h4 := put h3 7 #[.int .u8 128, .int .u8 191, .int .u8 160, .int .u8 191, .int .u8 128, .int .u8 159, .int .u8 144, .int .u8 191, .int .u8 128, .int .u8 143, .int .u8 0, .int .u8 0, .int .u8 0, .int .u8 0, .int .u8 0, .int .u8 0, .int .u8 0, .int .u8 0, .int .u8 0, .int .u8 0, .int .u8 0, .int .u8 0, .int .u8 0, .int .u8 0, .int .u8 0, .int .u8 0, .int .u8 0, .int .u8 0, .int .u8 0, .int .u8 0, .int .u8 0, .int .u8 0]
  let h5 := put h4 3 #[.iface 167 (.pointer (some ⟨w0.heap.size + 0, 0, none⟩))]
  let h6 := put h5 2 #[.iface 167 (.pointer (some ⟨w0.heap.size + 1, 0, none⟩))]
  let h7 := put h6 6 (Go.Pinned.utf8FirstZ.map fun (z : Nat) => Value.int .u8 (z : Int)).toArray
  { w0 with heap := ((h7.push (.cells #[.string ⟨#[118, 97, 108, 117, 101, 32, 111, 117, 116, 32, 111, 102, 32, 114, 97, 110, 103, 101]⟩] 169 (0, 0))).push (.cells #[.string ⟨#[105, 110, 118, 97, 108, 105, 100, 32, 115, 121, 110, 116, 97, 120]⟩] 169 (0, 0))) }
theorem laid_met (os : Os) (args : Array Value) : laidMet Tryz.prog [("math/bits.deBruijn32tab", Rows.laid_math_bits_deBruijn32tab), ("math/bits.deBruijn64tab", Rows.laid_math_bits_deBruijn64tab), ("internal/strconv.uint64pow10", Rows.laid_internal_strconv_uint64pow10), ("unicode/utf8.acceptRanges", Rows.laid_unicode_utf8_acceptRanges), ("strconv.ErrRange", Rows.laid_strconv_ErrRange), ("strconv.ErrSyntax", Rows.laid_strconv_ErrSyntax), ("unicode/utf8.first", Rows.laid_unicode_utf8_first)] ((laidWorld os).forCall (fun _ _ => 0) ⟨#[], args, []⟩).memory :=
  (LaidIn.of_run (l := [("math/bits.deBruijn32tab", Rows.laid_math_bits_deBruijn32tab), ("math/bits.deBruijn64tab", Rows.laid_math_bits_deBruijn64tab), ("internal/strconv.uint64pow10", Rows.laid_internal_strconv_uint64pow10), ("unicode/utf8.acceptRanges", Rows.laid_unicode_utf8_acceptRanges), ("strconv.ErrRange", Rows.laid_strconv_ErrRange), ("strconv.ErrSyntax", Rows.laid_strconv_ErrSyntax), ("unicode/utf8.first", Rows.laid_unicode_utf8_first)]) [4, 5, 1, 7, 3, 2, 6, (World.holding Tryz.prog os ⟨#[], #[], []⟩).heap.size + 0, (World.holding Tryz.prog os ⟨#[], #[], []⟩).heap.size + 1] 8 (by kernel_rfl) (by kernel_rfl) (by kernel_rfl) (by kernel_rfl)).met
theorem glob_laid {W : World} (hs : W.ShapedOpen Tryz.prog) (hm : laidMetH Tryz.prog [("math/bits.deBruijn32tab", Rows.laid_math_bits_deBruijn32tab), ("math/bits.deBruijn64tab", Rows.laid_math_bits_deBruijn64tab), ("internal/strconv.uint64pow10", Rows.laid_internal_strconv_uint64pow10), ("unicode/utf8.acceptRanges", Rows.laid_unicode_utf8_acceptRanges), ("strconv.ErrRange", Rows.laid_strconv_ErrRange), ("strconv.ErrSyntax", Rows.laid_strconv_ErrSyntax), ("unicode/utf8.first", Rows.laid_unicode_utf8_first)] W) : Glob W (· < W.heap.size) := by
  have hm2 := met_of_h (by rfl) hm
  intro g cs hg
  simp only [globs, PW.look] at hg
  repeat' split at hg
  · rename_i e; injection hg with hg; subst e; subst hg; exact (glob_any (g := 0) (t := 3) (zero := #[.int .i64 0]) hs (of_decide_eq_true (by kernel_rfl)) (by kernel_rfl) rfl (by kernel_rfl) (by kernel_rfl) (by kernel_rfl))
  · rename_i e; injection hg with hg; subst e; subst hg; exact (glob_of (n := "internal/strconv.uint64pow10") (g := 1) (m := 20) (t := 152) (e := 139) (d := Rows.laid_internal_strconv_uint64pow10) (qs := _) (by simp) (by kernel_rfl) (by kernel_rfl) (by kernel_rfl) (by kernel_rfl) (by kernel_rfl) (by kernel_rfl) (by decide) rfl hm2)
  · rename_i e; injection hg with hg; subst e; subst hg; exact (glob_ifc (n := "strconv.ErrSyntax") (nm := "*errors.errorString") (g := 2) (t := 78) (d := .ptr (.agg [.lit (.string [105, 110, 118, 97, 108, 105, 100, 32, 115, 121, 110, 116, 97, 120])])) (.tail _ (.tail _ (.tail _ (.tail _ (.tail _ (.head _)))))) (by kernel_rfl) (by kernel_rfl) (by kernel_rfl) hm2)
  · rename_i e; injection hg with hg; subst e; subst hg; exact (glob_ifc (n := "strconv.ErrRange") (nm := "*errors.errorString") (g := 3) (t := 78) (d := .ptr (.agg [.lit (.string [118, 97, 108, 117, 101, 32, 111, 117, 116, 32, 111, 102, 32, 114, 97, 110, 103, 101])])) (.tail _ (.tail _ (.tail _ (.tail _ (.head _))))) (by kernel_rfl) (by kernel_rfl) (by kernel_rfl) hm2)
  · cases hg
theorem Tryz.sh9 : Shp Tryz.prog 9 cS (fun (s : List UInt8) => s.length ≤ reachBytes) := Shp.str (by kernel_rfl)
theorem Tryz.sh22 : Shp Tryz.prog 22 (cL 1 cS) (fun (l : List (List UInt8)) => l.length * 16 ≤ reachBytes ∧ ∀ a ∈ l, (fun (s : List UInt8) => s.length ≤ reachBytes) a) := Shp.slice (e := 9) (by kernel_rfl) (by kernel_rfl) (by kernel_rfl) Tryz.sh9
theorem Tryz.sh3 : Shp Tryz.prog 3 cI (inK .i64) := Shp.i64 (by kernel_rfl)
def SAtOldNew.ok (x : SAtOldNew) : Prop := (inK .i64) x.At ∧ (fun (l : List (List UInt8)) => l.length * 16 ≤ reachBytes ∧ ∀ a ∈ l, (fun (s : List UInt8) => s.length ≤ reachBytes) a) x.Old ∧ (fun (l : List (List UInt8)) => l.length * 16 ≤ reachBytes ∧ ∀ a ∈ l, (fun (s : List UInt8) => s.length ≤ reachBytes) a) x.New ∧ True
theorem Tryz.sh45 : Shp Tryz.prog 45 SAtOldNew.cells SAtOldNew.ok := Shp.of (Shp.struct (ts := [3, 22, 22]) (by kernel_rfl) (Shps.cons Tryz.sh3 (Shps.cons Tryz.sh22 (Shps.cons Tryz.sh22 Shps.nil)))) (fun x => (⟨x.1, x.2.1, x.2.2.1⟩ : SAtOldNew)) (fun _ => rfl) (fun _ h => h)
theorem Tryz.sh28 : Shp Tryz.prog 28 (cL 3 SAtOldNew.cells) (fun (l : List SAtOldNew) => l.length * 56 ≤ reachBytes ∧ ∀ a ∈ l, SAtOldNew.ok a) := Shp.slice (e := 45) (by kernel_rfl) (by kernel_rfl) (by kernel_rfl) Tryz.sh45
def SHunks.ok (x : SHunks) : Prop := (fun (l : List SAtOldNew) => l.length * 56 ≤ reachBytes ∧ ∀ a ∈ l, SAtOldNew.ok a) x.Hunks ∧ True
theorem Tryz.sh30 : Shp Tryz.prog 30 SHunks.cells SHunks.ok := Shp.of (Shp.struct (ts := [28]) (by kernel_rfl) (Shps.cons Tryz.sh28 Shps.nil)) (fun x => (⟨x.1⟩ : SHunks)) (fun _ => rfl) (fun _ h => h)
theorem Tryz.sh23 : Shp Tryz.prog 23 (cL 1 SHunks.cells) (fun (l : List SHunks) => l.length * 24 ≤ reachBytes ∧ ∀ a ∈ l, SHunks.ok a) := Shp.slice (e := 30) (by kernel_rfl) (by kernel_rfl) (by kernel_rfl) Tryz.sh30
theorem params3 : Tryz.f3.params.toList = [22, 23, 3] := by kernel_rfl
theorem law3 (qs : List PV) (h : TyVs Tryz.prog Tryz.f3.params.toList qs) : PSpec Tryz.prog 3 qs (.bool true) := by
  rw [params3] at h
  obtain ⟨⟨a0, a1, a2, _⟩, rfl, hq⟩ := ((ShVs.cons (ShV.one (by kernel_rfl) Tryz.sh22 (fun l => .list 1 (l.map cS)) (fun _ => rfl)) (ShVs.cons (ShV.one (by kernel_rfl) Tryz.sh23 (fun l => .list 1 (l.map SHunks.cells)) (fun _ => rfl)) (ShVs.cons (ShV.one (by kernel_rfl) Tryz.sh3 (fun n => .int .i64 n) (fun _ => rfl)) ShVs.nil))) : ShVs Tryz.prog [22, 23, 3] _ _) qs h
  exact top_TopStacksSurviveTransport_spec 6000 a0 a1 a2 true (law_stacks2 a0 a1 a2 hq)
set_option maxRecDepth 100000 in
theorem witnessRow3 (os : Os) {H : Type} (enc : TypeId × Value → H) :
    (OpenSpec.ofChange Rows.topStacksSurviveTransportSpec).preRow enc Tryz.prog Tryz.f3 Rows.topStacksSurviveTransportRow.domain false Rows.topStacksSurviveTransportRow.laid ((laidWorld os).forCall (fun _ _ => 0) ⟨#[], #[.slice none 0 0, .slice none 0 0, .int .i64 0], []⟩).memory #[.slice none 0 0, .slice none 0 0, .int .i64 0] := by
  have hw : (DataW.whole enc Tryz.prog ((laidWorld os).forCall (fun _ _ => 0) ⟨#[], #[.slice none 0 0, .slice none 0 0, .int .i64 0], []⟩).memory Tryz.f3.params.toList (OpenSpec.ofChange Rows.topStacksSurviveTransportSpec).vars false (#[.slice none 0 0, .slice none 0 0, .int .i64 0] : Array Value).toList 8).map (fun x => (x.1, x.2.1)) =
      some ([.nil, .nil, .lit (.int .i64 0)], []) := by kernel_rfl
  obtain ⟨⟨x1, x2, x3⟩, hx, hx1⟩ := Option.map_eq_some_iff.1 hw
  simp only [Prod.mk.injEq] at hx1
  obtain ⟨rfl, rfl⟩ := hx1
  exact OpenSpec.preRow_of_cond 8 hx (by kernel_rfl) (fun k hk => by cases hk) (by kernel_rfl) (laid_met os _)
theorem lifted3 (os : Os) (started : os.Started) (H : Type) (enc : TypeId × Value → H) (F : Stop.Interp) :
    ReturnsInHanded {} Tryz.checked os 3 .any ((OpenSpec.ofChange Rows.topStacksSurviveTransportSpec).preRow enc Tryz.prog Tryz.f3 Rows.topStacksSurviveTransportRow.domain false Rows.topStacksSurviveTransportRow.laid) (((OpenSpec.ofChange Rows.topStacksSurviveTransportSpec).at F).post enc Tryz.prog Tryz.f3 false true false false) := by
  refine law_lifted_row (C := Tryz.checked) (L := [3, 9, 22, 23, 28, 30, 45]) (tb := 4) F Tryz.ownT started (by kernel_rfl) Tryz.func3
    (witness_row_atRef (enc := enc) (C := Tryz.checked) false (laidWorld os) #[.slice none 0 0, .slice none 0 0, .int .i64 0] rfl (by kernel_rfl) (by kernel_rfl) (by kernel_rfl) (witnessRow3 os enc))
    (by kernel_rfl) Tryz.laidOutT (by kernel_rfl) (by kernel_rfl) (by kernel_rfl) rfl ?_ (fun W hs hm => glob_laid hs hm) law3
  intro ds hds
  match ds, hds with
  | [d0, d1, d2], _ => rfl
theorem named3 : Tryz.prog.funcNamed Rows.topStacksSurviveTransportRow.func = some 3 := by kernel_rfl
theorem goes3 : false = Rows.topStacksSurviveTransportRow.goesBy Tryz.prog := by kernel_rfl
theorem inPlace3 : (Rows.topStacksSurviveTransportRow.inPlace == Tryz.prog.inPlace 3) = true := by kernel_rfl
theorem unfol3 : (Rows.topStacksSurviveTransportRow.unfollowed == Tryz.prog.unfollowed 3) = true := by kernel_rfl
theorem recur3 : (Rows.topStacksSurviveTransportRow.recurses == Tryz.prog.recurses 3) = true := by kernel_rfl
theorem vnamed3 : (Rows.topStacksSurviveTransportRow.named == Tryz.prog.varsNamed 3) = true := by kernel_rfl
theorem lift3 : (Rows.topStacksSurviveTransportRow.lifted == Tryz.prog.liftsFinal) = true := (congrArg (fun z => (Rows.topStacksSurviveTransportRow.lifted == z)) (eq_of_beq jLifted).symm).trans (by kernel_rfl)
theorem make3 : (Tryz.prog.make == some Rows.topStacksSurviveTransportRow.make) = true := (congrArg (fun z => (z == some Rows.topStacksSurviveTransportRow.make)) (eq_of_beq jMake)).trans (by kernel_rfl)
theorem closed3 : joinedFacts Tryz.prog 3 Tryz.f3 (OpenSpec.ofChange Rows.topStacksSurviveTransportSpec).bare Rows.topStacksSurviveTransportRow = true := by
  unfold joinedFacts
  exact (jBand (jBand (jBand (jBand (jBand (jBand (jBand (jBand (jBand (jBand (jBand (jBand (jBand (jBand (jBand (jBand (jBand (jBand (jBand (jBand (jBand (jBand (jBand (jBand (jBand (jBand (jBand (jBand (jBand (jBand (jBand (by kernel_rfl) Tryz.laidOutT) jMaps) (by kernel_rfl)) (by kernel_rfl)) (by kernel_rfl)) (by kernel_rfl)) (by kernel_rfl)) (by kernel_rfl)) inPlace3) unfol3) recur3) vnamed3) (by kernel_rfl)) (by kernel_rfl)) (by kernel_rfl)) (by kernel_rfl)) (by kernel_rfl)) (by kernel_rfl)) (by kernel_rfl)) (by kernel_rfl)) (by kernel_rfl)) (by kernel_rfl)) (by kernel_rfl)) jHeard) jMayEnter) lift3) make3) (by kernel_rfl)) (by kernel_rfl)) (by kernel_rfl)) (by kernel_rfl))
theorem row3 : Rows.TopStacksSurviveTransportSaid :=
  OpenClaim.holds_of_cond 3 Tryz.f3 rfl rfl rfl rfl rfl rfl rfl ⟨rfl, rfl, rfl, rfl, rfl⟩ rfl rfl rfl rfl rfl named3 Tryz.func3 closed3
    (of_decide_eq_true (by kernel_rfl)) (by unfold Func.isWrapper; first | (rw [if_pos (by decide +kernel)]; kernel_rfl) | (rw [if_neg (by decide +kernel)]; exact ⟨rfl, rfl⟩))
    (fun os started H enc _ F => by rw [OpenClaim.pre_eq_preRow]; exact lifted3 os started H enc F)
theorem holds3 : Rows.TopStacksSurviveTransportCardSaid :=
  Claim7.holds_tied_plain_at .later [] [.data, .data, .data, .data, .sentinel, .sentinel, .pinned] true (true, "c6a22df27b8d3f3abdaab499b33662b898e0514b434b8bac1159bb451f6ebd27") true
    row3 (fun _ h => by cases h) (by kernel_rfl) (fun _ h => by cases h) topStacksSurviveTransport_row_tie rfl ⟨rfl, rfl⟩ jMain rfl
    (fun f fn hf hfn => by
      obtain rfl : f = 3 := Option.some.inj ((show Tryz.prog.funcNamed Rows.topStacksSurviveTransportRow.func = some 3 from named3).symm.trans hf) |>.symm
      obtain rfl : fn = Tryz.f3 := (Option.some.inj (Tryz.func3.symm.trans hfn)).symm
      exact ⟨jLooks, fun j t ht => by
        have hm : t ∈ Tryz.f3.params.toList := by
          have := Array.mem_of_getElem? ht
          simpa using this
        rw [params3] at hm
        have hall : ([22, 23, 3] : List TypeId).all (fun t => !Tryz.prog.wantsStandIn t) = true := by kernel_rfl
        have := List.all_eq_true.1 hall t hm
        exact (by simpa using this : Tryz.prog.wantsStandIn t = false)⟩)
    goes3
#print axioms holds3
end Go.Proofs.YtjmmlddioeehbaaGreatDoor
