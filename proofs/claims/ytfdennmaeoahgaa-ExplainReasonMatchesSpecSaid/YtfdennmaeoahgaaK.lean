/- Contracts of the library's functions, over this program. -/
import Derived.Test.YtfdennmaeoahgaaC
import Derived.Shelf.Abstract
import Derived.WalkKit
import Derived.KernelRfl
import Derived.Test.YtfdennmaeoahgaaPwShelf
import Derived.Shelf.Small.Strs
import Derived.Test.YtfdennmaeoahgaaPwRunes
import Derived.Shelf.GgClosure.StringsIndexFuncTop
set_option linter.unusedVariables false
set_option linter.unusedSimpArgs false
namespace Go.Proofs.Ytfdennmaeoahgaa
open Go.Shelf Go.RowKit Go.PW
attribute [local go_sem] Oper.semAt_some
def Try.lays106_ren : Go.Shelf.Ren := ⟨fun | 106 => 93 | 213 => 96 | 265 => 98 | n => n, fun | 9 => 9 | 3 => 3 | n => n, fun | n => n⟩
theorem Try.lays106 : Go.Proofs.Lays.n106 Try.prog Try.lays106_ren where
  mixed := by kernel_rfl
  f106 := Try.func93.trans (congrArg some (by kernel_rfl))
  f213 := Try.func96.trans (congrArg some (by kernel_rfl))
  f265 := Try.func98.trans (congrArg some (by kernel_rfl))
  t3 := Try.underlying3
  a3 := Try.isAgg3
  z3 := Try.sizeOf3
  v3 := Try.zeroValue3
  t9 := Try.underlying9
  a9 := Try.isAgg9
  z9 := Try.sizeOf9
  v9 := Try.zeroValue9
def Try.laysGw17_ren : Go.Shelf.Ren := ⟨fun | 17 => 94 | 15 => 97 | 20 => 99 | n => n, fun | 9 => 9 | 23 => 122 | 4 => 4 | 3 => 3 | 0 => 0 | 21 => 21 | n => n, fun | n => n⟩
theorem Try.laysGw17 : Go.Proofs.LaysGw.n17 Try.prog Try.laysGw17_ren where
  mixed := by kernel_rfl
  f15 := Try.func97.trans (congrArg some (by kernel_rfl))
  f17 := Try.func94.trans (congrArg some (by kernel_rfl))
  f20 := Try.func99.trans (congrArg some (by kernel_rfl))
  t0 := Try.underlying0
  a0 := Try.isAgg0
  z0 := Try.sizeOf0
  v0 := Try.zeroValue0
  i0 := by kernel_rfl
  t3 := Try.underlying3
  a3 := Try.isAgg3
  z3 := Try.sizeOf3
  v3 := Try.zeroValue3
  i3 := by kernel_rfl
  t4 := Try.underlying4
  a4 := Try.isAgg4
  z4 := Try.sizeOf4
  v4 := Try.zeroValue4
  i4 := by kernel_rfl
  t9 := Try.underlying9
  a9 := Try.isAgg9
  z9 := Try.sizeOf9
  v9 := Try.zeroValue9
  i9 := by kernel_rfl
  t21 := Try.underlying21
  a21 := Try.isAgg21
  z21 := Try.sizeOf21
  v21 := Try.zeroValue21
  i21 := by kernel_rfl
  t23 := Try.underlying122
  a23 := Try.isAgg122
  z23 := Try.sizeOf122
  v23 := Try.zeroValue122
  i23 := by kernel_rfl
theorem k_Compare (a b : List UInt8) : PSpec Try.prog 93 [.str a, .str b] (.int .i64 (libCompare a b)) := PSpec.ofStr2 fun w => Any.strings_Compare Try.lays106 ⟨a.toArray⟩ ⟨b.toArray⟩ w
theorem k_noDigit (w : World) : PredAt Try.prog 95 #[] encR noDigit w := fun W r _ => by
  unfold FnGives
  by_cases h1 : r < 48 <;> by_cases h2 : 57 < r
  all_goals
    have z1 : (r : Int) < 48 ↔ r < 48 := by omega
    have z2 : (57 : Int) < (r : Int) ↔ 57 < r := by omega
    go_enter Try.func95, Try.ntmps95
    go_wp2
    all_goals first | (exfalso; omega) | (go_ret; exact ⟨by simp [noDigit, h1, h2], 0, rfl⟩)
theorem k_ContainsFunc (s : List UInt8) : PSpec Try.prog 94 [.str s, .fn 95 [] []] (.bool (libNonDigits s)) :=
  PSpec.ofStrF fun w => Any.strings_ContainsFunc Try.laysGw17 95 #[] (enters_of Try.func95 (by kernel_rfl) rfl) noDigit ⟨s.toArray⟩ w (k_noDigit w)
end Go.Proofs.Ytfdennmaeoahgaa
