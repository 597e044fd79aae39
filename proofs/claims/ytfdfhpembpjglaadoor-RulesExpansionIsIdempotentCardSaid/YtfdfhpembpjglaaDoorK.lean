/- Contracts of the library's functions, over this program. -/
import Derived.Test.YtfdfhpembpjglaaDoorC
import Derived.Shelf.Abstract
import Derived.WalkKit
import Derived.KernelRfl
import Derived.Test.YtfdfhpembpjglaaDoorPwSortI
import Derived.Shelf.Sort.Plain
import Derived.Shelf.Slices.In.SortNone
import Derived.Shelf.Slices.CompactI
set_option linter.unusedVariables false
set_option linter.unusedSimpArgs false
namespace Go.Proofs.YtfdfhpembpjglaaDoor
open Go.Shelf Go.RowKit Go.PW
attribute [local go_sem] Oper.semAt_some
def Tryd.lays189_ren : Go.Shelf.Ren := ⟨fun | 189 => 33 | 125 => 37 | 257 => 36 | 128 => 48 | 129 => 49 | 294 => 39 | 295 => 40 | 296 => 41 | 297 => 42 | 298 => 43 | 299 => 44 | 216 => 45 | 300 => 46 | 301 => 47 | 328 => 50 | 329 => 51 | 330 => 52 | 331 => 53 | 332 => 54 | 215 => 55 | 343 => 56 | n => n, fun | 28 => 29 | 3 => 3 | 46 => 64 | 0 => 0 | 51 => 75 | 53 => 77 | 4 => 4 | 183 => 68 | 182 => 67 | 131 => 72 | 5 => 5 | 9 => 9 | 218 => 78 | 222 => 82 | 228 => 85 | 229 => 86 | n => n, fun | n => n⟩
theorem Tryd.lays189 : Go.Proofs.Lays.n189 Tryd.prog Tryd.lays189_ren where
  mixed := by kernel_rfl
  f125 := Tryd.func37.trans (congrArg some (by kernel_rfl))
  f128 := Tryd.func48.trans (congrArg some (by kernel_rfl))
  f129 := Tryd.func49.trans (congrArg some (by kernel_rfl))
  f189 := Tryd.func33.trans (congrArg some (by kernel_rfl))
  f215 := Tryd.func55.trans (congrArg some (by kernel_rfl))
  f216 := Tryd.func45.trans (congrArg some (by kernel_rfl))
  f257 := Tryd.func36.trans (congrArg some (by kernel_rfl))
  f294 := Tryd.func39.trans (congrArg some (by kernel_rfl))
  f295 := Tryd.func40.trans (congrArg some (by kernel_rfl))
  f296 := Tryd.func41.trans (congrArg some (by kernel_rfl))
  f297 := Tryd.func42.trans (congrArg some (by kernel_rfl))
  f298 := Tryd.func43.trans (congrArg some (by kernel_rfl))
  f299 := Tryd.func44.trans (congrArg some (by kernel_rfl))
  f300 := Tryd.func46.trans (congrArg some (by kernel_rfl))
  f301 := Tryd.func47.trans (congrArg some (by kernel_rfl))
  f328 := Tryd.func50.trans (congrArg some (by kernel_rfl))
  f329 := Tryd.func51.trans (congrArg some (by kernel_rfl))
  f330 := Tryd.func52.trans (congrArg some (by kernel_rfl))
  f331 := Tryd.func53.trans (congrArg some (by kernel_rfl))
  f332 := Tryd.func54.trans (congrArg some (by kernel_rfl))
  f343 := Tryd.func56.trans (congrArg some (by kernel_rfl))
  t0 := Tryd.underlying0
  a0 := Tryd.isAgg0
  z0 := Tryd.sizeOf0
  v0 := Tryd.zeroValue0
  t3 := Tryd.underlying3
  a3 := Tryd.isAgg3
  z3 := Tryd.sizeOf3
  v3 := Tryd.zeroValue3
  t4 := Tryd.underlying4
  a4 := Tryd.isAgg4
  z4 := Tryd.sizeOf4
  v4 := Tryd.zeroValue4
  t5 := Tryd.underlying5
  a5 := Tryd.isAgg5
  z5 := Tryd.sizeOf5
  v5 := Tryd.zeroValue5
  t9 := Tryd.underlying9
  a9 := Tryd.isAgg9
  z9 := Tryd.sizeOf9
  v9 := Tryd.zeroValue9
  t28 := Tryd.underlying29
  a28 := Tryd.isAgg29
  z28 := Tryd.sizeOf29
  v28 := Tryd.zeroValue29
  t46 := Tryd.underlying64
  a46 := Tryd.isAgg64
  z46 := Tryd.sizeOf64
  v46 := Tryd.zeroValue64
  t51 := Tryd.underlying75
  a51 := Tryd.isAgg75
  z51 := Tryd.sizeOf75
  v51 := Tryd.zeroValue75
  t53 := Tryd.underlying77
  a53 := Tryd.isAgg77
  z53 := Tryd.sizeOf77
  v53 := Tryd.zeroValue77
  t131 := Tryd.underlying72
  a131 := Tryd.isAgg72
  z131 := Tryd.sizeOf72
  v131 := Tryd.zeroValue72
  t182 := Tryd.underlying67
  a182 := Tryd.isAgg67
  z182 := Tryd.sizeOf67
  v182 := Tryd.zeroValue67
  t183 := Tryd.underlying68
  a183 := Tryd.isAgg68
  z183 := Tryd.sizeOf68
  v183 := Tryd.zeroValue68
  t218 := Tryd.underlying78
  a218 := Tryd.isAgg78
  z218 := Tryd.sizeOf78
  v218 := Tryd.zeroValue78
  t222 := Tryd.underlying82
  a222 := Tryd.isAgg82
  z222 := Tryd.sizeOf82
  v222 := Tryd.zeroValue82
  t228 := Tryd.underlying85
  a228 := Tryd.isAgg85
  z228 := Tryd.sizeOf85
  v228 := Tryd.zeroValue85
  t229 := Tryd.underlying86
  a229 := Tryd.isAgg86
  z229 := Tryd.sizeOf86
  v229 := Tryd.zeroValue86
def Tryd.lays20_ren : Go.Shelf.Ren := ⟨fun | 20 => 34 | n => n, fun | 22 => 29 | 3 => 3 | 4 => 4 | 0 => 0 | n => n, fun | n => n⟩
theorem Tryd.lays20 : Go.Proofs.Lays2.n20 Tryd.prog Tryd.lays20_ren where
  mixed := by kernel_rfl
  f20 := Tryd.func34.trans (congrArg some (by kernel_rfl))
  t0 := Tryd.underlying0
  a0 := Tryd.isAgg0
  z0 := Tryd.sizeOf0
  v0 := Tryd.zeroValue0
  t3 := Tryd.underlying3
  a3 := Tryd.isAgg3
  z3 := Tryd.sizeOf3
  v3 := Tryd.zeroValue3
  t4 := Tryd.underlying4
  a4 := Tryd.isAgg4
  z4 := Tryd.sizeOf4
  v4 := Tryd.zeroValue4
  t22 := Tryd.underlying29
  a22 := Tryd.isAgg29
  z22 := Tryd.sizeOf29
  v22 := Tryd.zeroValue29
  i3 := by kernel_rfl
theorem k_SortI (ss : List Int) : PMut Tryd.prog 33 [.own 1 0] [(1, ⟨0, 3, 1, List.map cI ss, true, false, false⟩)] (.tup []) [(1, ⟨0, 3, 1, List.map cI (sortedI ss), true, false, false⟩)] :=
  PMut.sortI (fun blk off cap w h1 h2 h3 => Any.slices_Sort_int Tryd.lays189 blk off cap ss w h1 h2 h3) fun w => (Any.slices_Sort_int_none Tryd.lays189 none 0 w).mono fun _ _ ⟨h1, h2⟩ => ⟨h1, h2 ▸ World.grownBy.refl w none⟩
theorem k_CompactI (ss : List Int) : PMut Tryd.prog 34 [.own 1 0] [(1, ⟨0, 3, 1, List.map cI ss, true, false, false⟩)] (.sub 1 0 0 (Lib.compact ss).length) [(1, ⟨0, 3, 1, List.map cI (compactRow ss), true, false, false⟩)] :=
  PMut.compactI (compact_length_le ss) (fun blk off cap w h1 h2 h3 => Any.slices_Compact_int Tryd.lays20 blk off cap ss w h1 h2 h3) fun w => Any.slices_Compact_int_empty Tryd.lays20 none 0 w
end Go.Proofs.YtfdfhpembpjglaaDoor
