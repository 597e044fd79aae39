/- Contracts of the library's functions, over this program. -/
import Derived.Test.YtjmmlddioeehbaaGreatDoorC
import Derived.Test.YtjmmlddioeehbaaGreatDoorPwSplit
import Derived.Shelf.Small.Strs
import Derived.Shelf.Strings.Search3
import Derived.Shelf.Abstract
import Derived.WalkKit
import Derived.OwnWalkIn
import Derived.TacticsInMore
import Derived.LoopNIn
import Derived.LoopIn
import Derived.KernelRfl
import Derived.RangeFuncCalls
import Derived.Test.YtjmmlddioeehbaaGreatDoorPwEa
import Derived.Shelf.Spec.SlicesInsertGrow
import Derived.Test.YtjmmlddioeehbaaGreatDoorPwStrconv
import Derived.Test.YtjmmlddioeehbaaGreatDoorPwXa
import Derived.Shelf.Strconv.Itoa3
import Derived.Shelf.Strconv.AtoiAll
import Derived.Shelf.Strings.Cut
import Derived.Lib.AppendIntMem
import Derived.WalkSmall
set_option linter.unusedVariables false
set_option linter.unusedSimpArgs false
namespace Go.Proofs.YtjmmlddioeehbaaGreatDoor
open Go.Shelf Go.RowKit Go.PW
attribute [local go_sem] Oper.semAt_some
def Tryz.lays106_ren : Go.Shelf.Ren := ⟨fun | 106 => 67 | 213 => 79 | 265 => 92 | n => n, fun | 9 => 9 | 3 => 3 | n => n, fun | n => n⟩
theorem Tryz.lays106 : Go.Proofs.Lays.n106 Tryz.prog Tryz.lays106_ren where
  mixed := by kernel_rfl
  f106 := Tryz.func67.trans (congrArg some (by kernel_rfl))
  f213 := Tryz.func79.trans (congrArg some (by kernel_rfl))
  f265 := Tryz.func92.trans (congrArg some (by kernel_rfl))
  t3 := Tryz.underlying3
  a3 := Tryz.isAgg3
  z3 := Tryz.sizeOf3
  v3 := Tryz.zeroValue3
  t9 := Tryz.underlying9
  a9 := Tryz.isAgg9
  z9 := Tryz.sizeOf9
  v9 := Tryz.zeroValue9
def Tryz.lays137_ren : Go.Shelf.Ren := ⟨fun | 137 => 60 | 217 => 69 | 266 => 82 | n => n, fun | 9 => 9 | 5 => 5 | 3 => 3 | n => n, fun | n => n⟩
theorem Tryz.lays137 : Go.Proofs.Lays.n137 Tryz.prog Tryz.lays137_ren where
  mixed := by kernel_rfl
  f137 := Tryz.func60.trans (congrArg some (by kernel_rfl))
  f217 := Tryz.func69.trans (congrArg some (by kernel_rfl))
  f266 := Tryz.func82.trans (congrArg some (by kernel_rfl))
  t3 := Tryz.underlying3
  a3 := Tryz.isAgg3
  z3 := Tryz.sizeOf3
  v3 := Tryz.zeroValue3
  t5 := Tryz.underlying5
  a5 := Tryz.isAgg5
  z5 := Tryz.sizeOf5
  v5 := Tryz.zeroValue5
  t9 := Tryz.underlying9
  a9 := Tryz.isAgg9
  z9 := Tryz.sizeOf9
  v9 := Tryz.zeroValue9
def Tryz.lays143_ren : Go.Shelf.Ren := ⟨fun | 143 => 106 | 219 => 54 | 217 => 69 | 225 => 70 | 224 => 71 | 267 => 72 | 266 => 82 | 314 => 83 | n => n, fun | 9 => 9 | 3 => 3 | 4 => 4 | 5 => 5 | 46 => 126 | 146 => 135 | 51 => 134 | n => n, fun | 1 => 0 | n => n⟩
theorem Tryz.lays143 : Go.Proofs.Lays.n143 Tryz.prog Tryz.lays143_ren where
  mixed := by kernel_rfl
  f143 := Tryz.func106.trans (congrArg some (by kernel_rfl))
  f217 := Tryz.func69.trans (congrArg some (by kernel_rfl))
  f219 := Tryz.func54.trans (congrArg some (by kernel_rfl))
  f224 := Tryz.func71.trans (congrArg some (by kernel_rfl))
  f225 := Tryz.func70.trans (congrArg some (by kernel_rfl))
  f266 := Tryz.func82.trans (congrArg some (by kernel_rfl))
  f267 := Tryz.func72.trans (congrArg some (by kernel_rfl))
  f314 := Tryz.func83.trans (congrArg some (by kernel_rfl))
  t3 := Tryz.underlying3
  a3 := Tryz.isAgg3
  z3 := Tryz.sizeOf3
  v3 := Tryz.zeroValue3
  t4 := Tryz.underlying4
  a4 := Tryz.isAgg4
  z4 := Tryz.sizeOf4
  v4 := Tryz.zeroValue4
  t5 := Tryz.underlying5
  a5 := Tryz.isAgg5
  z5 := Tryz.sizeOf5
  v5 := Tryz.zeroValue5
  t9 := Tryz.underlying9
  a9 := Tryz.isAgg9
  z9 := Tryz.sizeOf9
  v9 := Tryz.zeroValue9
  t46 := Tryz.underlying126
  a46 := Tryz.isAgg126
  z46 := Tryz.sizeOf126
  v46 := Tryz.zeroValue126
  t51 := Tryz.underlying134
  a51 := Tryz.isAgg134
  z51 := Tryz.sizeOf134
  v51 := Tryz.zeroValue134
  t146 := Tryz.underlying135
  a146 := Tryz.isAgg135
  z146 := Tryz.sizeOf135
  v146 := Tryz.zeroValue135
  g1 := by kernel_rfl
def Tryz.lays171_ren : Go.Shelf.Ren := ⟨fun | 171 => 45 | 243 => 62 | 246 => 75 | 283 => 87 | 284 => 88 | 285 => 89 | 286 => 90 | 129 => 100 | 317 => 99 | 318 => 101 | 319 => 102 | 320 => 103 | 337 => 111 | 338 => 112 | n => n, fun | 3 => 3 | 9 => 9 | 2 => 2 | 4 => 4 | 171 => 138 | 0 => 0 | 53 => 139 | 37 => 41 | 5 => 5 | 173 => 142 | 212 => 152 | 51 => 134 | 20 => 20 | 213 => 153 | 46 => 126 | 232 => 170 | 233 => 171 | n => n, fun | 17 => 1 | 18 => 4 | 19 => 5 | n => n⟩
theorem Tryz.lays171 : Go.Proofs.LaysM.n171 Tryz.prog Tryz.lays171_ren where
  mixed := by kernel_rfl
  f129 := Tryz.func100.trans (congrArg some (by kernel_rfl))
  f171 := Tryz.func45.trans (congrArg some (by kernel_rfl))
  f243 := Tryz.func62.trans (congrArg some (by kernel_rfl))
  f246 := Tryz.func75.trans (congrArg some (by kernel_rfl))
  f283 := Tryz.func87.trans (congrArg some (by kernel_rfl))
  f284 := Tryz.func88.trans (congrArg some (by kernel_rfl))
  f285 := Tryz.func89.trans (congrArg some (by kernel_rfl))
  f286 := Tryz.func90.trans (congrArg some (by kernel_rfl))
  f317 := Tryz.func99.trans (congrArg some (by kernel_rfl))
  f318 := Tryz.func101.trans (congrArg some (by kernel_rfl))
  f319 := Tryz.func102.trans (congrArg some (by kernel_rfl))
  f320 := Tryz.func103.trans (congrArg some (by kernel_rfl))
  f337 := Tryz.func111.trans (congrArg some (by kernel_rfl))
  f338 := Tryz.func112.trans (congrArg some (by kernel_rfl))
  t0 := Tryz.underlying0
  a0 := Tryz.isAgg0
  z0 := Tryz.sizeOf0
  v0 := Tryz.zeroValue0
  t2 := Tryz.underlying2
  a2 := Tryz.isAgg2
  z2 := Tryz.sizeOf2
  v2 := Tryz.zeroValue2
  t3 := Tryz.underlying3
  a3 := Tryz.isAgg3
  z3 := Tryz.sizeOf3
  v3 := Tryz.zeroValue3
  t4 := Tryz.underlying4
  a4 := Tryz.isAgg4
  z4 := Tryz.sizeOf4
  v4 := Tryz.zeroValue4
  t5 := Tryz.underlying5
  a5 := Tryz.isAgg5
  z5 := Tryz.sizeOf5
  v5 := Tryz.zeroValue5
  t9 := Tryz.underlying9
  a9 := Tryz.isAgg9
  z9 := Tryz.sizeOf9
  v9 := Tryz.zeroValue9
  t20 := Tryz.underlying20
  a20 := Tryz.isAgg20
  z20 := Tryz.sizeOf20
  v20 := Tryz.zeroValue20
  t37 := Tryz.underlying41
  a37 := Tryz.isAgg41
  z37 := Tryz.sizeOf41
  v37 := Tryz.zeroValue41
  t46 := Tryz.underlying126
  a46 := Tryz.isAgg126
  z46 := Tryz.sizeOf126
  v46 := Tryz.zeroValue126
  t51 := Tryz.underlying134
  a51 := Tryz.isAgg134
  z51 := Tryz.sizeOf134
  v51 := Tryz.zeroValue134
  t53 := Tryz.underlying139
  a53 := Tryz.isAgg139
  z53 := Tryz.sizeOf139
  v53 := Tryz.zeroValue139
  t171 := Tryz.underlying138
  a171 := Tryz.isAgg138
  z171 := Tryz.sizeOf138
  v171 := Tryz.zeroValue138
  t173 := Tryz.underlying142
  a173 := Tryz.isAgg142
  z173 := Tryz.sizeOf142
  v173 := Tryz.zeroValue142
  t212 := Tryz.underlying152
  a212 := Tryz.isAgg152
  z212 := Tryz.sizeOf152
  v212 := Tryz.zeroValue152
  t213 := Tryz.underlying153
  a213 := Tryz.isAgg153
  z213 := Tryz.sizeOf153
  t232 := Tryz.underlying170
  a232 := Tryz.isAgg170
  z232 := Tryz.sizeOf170
  v232 := Tryz.zeroValue170
  t233 := Tryz.underlying171
  a233 := Tryz.isAgg171
  z233 := Tryz.sizeOf171
  v233 := Tryz.zeroValue171
  g17 := by kernel_rfl
  g18 := by kernel_rfl
  g19 := by kernel_rfl
  i0 := by kernel_rfl
  i2 := by kernel_rfl
  i3 := by kernel_rfl
  i4 := by kernel_rfl
  i5 := by kernel_rfl
  i9 := by kernel_rfl
  i20 := by kernel_rfl
  i37 := by kernel_rfl
  i46 := by kernel_rfl
  i51 := by kernel_rfl
  i53 := by kernel_rfl
  i171 := by kernel_rfl
  i173 := by kernel_rfl
  i212 := by kernel_rfl
  i232 := by kernel_rfl
  i233 := by kernel_rfl
  m17 := by kernel_rfl
  m18 := by kernel_rfl
  m19 := by kernel_rfl
def Tryz.lays172_ren : Go.Shelf.Ren := ⟨fun | 172 => 74 | 244 => 85 | 245 => 86 | 247 => 94 | 279 => 95 | 280 => 96 | 281 => 97 | 282 => 98 | 287 => 108 | 316 => 109 | 171 => 45 | 205 => 110 | 321 => 114 | 322 => 115 | 243 => 62 | 246 => 75 | 283 => 87 | 284 => 88 | 285 => 89 | 286 => 90 | 129 => 100 | 317 => 99 | 318 => 101 | 319 => 102 | 320 => 103 | 337 => 111 | 338 => 112 | n => n, fun | 9 => 9 | 3 => 3 | 75 => 78 | 76 => 79 | 4 => 4 | 5 => 5 | 167 => 145 | 37 => 41 | 0 => 0 | 85 => 146 | 2 => 2 | 168 => 148 | 53 => 139 | 175 => 159 | 46 => 126 | 210 => 163 | 127 => 83 | 145 => 169 | 143 => 167 | 21 => 21 | 171 => 138 | 173 => 142 | 212 => 152 | 51 => 134 | 20 => 20 | 213 => 153 | 232 => 170 | 233 => 171 | 80 => 49 | n => n, fun | 15 => 2 | 16 => 3 | 17 => 1 | 18 => 4 | 19 => 5 | n => n⟩
theorem Tryz.lays172 : Go.Proofs.LaysC.n172 Tryz.prog Tryz.lays172_ren where
  mixed := by kernel_rfl
  f129 := Tryz.func100.trans (congrArg some (by kernel_rfl))
  f171 := Tryz.func45.trans (congrArg some (by kernel_rfl))
  f172 := Tryz.func74.trans (congrArg some (by kernel_rfl))
  f205 := Tryz.func110.trans (congrArg some (by kernel_rfl))
  f243 := Tryz.func62.trans (congrArg some (by kernel_rfl))
  f244 := Tryz.func85.trans (congrArg some (by kernel_rfl))
  f245 := Tryz.func86.trans (congrArg some (by kernel_rfl))
  f246 := Tryz.func75.trans (congrArg some (by kernel_rfl))
  f247 := Tryz.func94.trans (congrArg some (by kernel_rfl))
  f279 := Tryz.func95.trans (congrArg some (by kernel_rfl))
  f280 := Tryz.func96.trans (congrArg some (by kernel_rfl))
  f281 := Tryz.func97.trans (congrArg some (by kernel_rfl))
  f282 := Tryz.func98.trans (congrArg some (by kernel_rfl))
  f283 := Tryz.func87.trans (congrArg some (by kernel_rfl))
  f284 := Tryz.func88.trans (congrArg some (by kernel_rfl))
  f285 := Tryz.func89.trans (congrArg some (by kernel_rfl))
  f286 := Tryz.func90.trans (congrArg some (by kernel_rfl))
  f287 := Tryz.func108.trans (congrArg some (by kernel_rfl))
  f316 := Tryz.func109.trans (congrArg some (by kernel_rfl))
  f317 := Tryz.func99.trans (congrArg some (by kernel_rfl))
  f318 := Tryz.func101.trans (congrArg some (by kernel_rfl))
  f319 := Tryz.func102.trans (congrArg some (by kernel_rfl))
  f320 := Tryz.func103.trans (congrArg some (by kernel_rfl))
  f321 := Tryz.func114.trans (congrArg some (by kernel_rfl))
  f322 := Tryz.func115.trans (congrArg some (by kernel_rfl))
  f337 := Tryz.func111.trans (congrArg some (by kernel_rfl))
  f338 := Tryz.func112.trans (congrArg some (by kernel_rfl))
  t0 := Tryz.underlying0
  a0 := Tryz.isAgg0
  z0 := Tryz.sizeOf0
  v0 := Tryz.zeroValue0
  t2 := Tryz.underlying2
  a2 := Tryz.isAgg2
  z2 := Tryz.sizeOf2
  v2 := Tryz.zeroValue2
  t3 := Tryz.underlying3
  a3 := Tryz.isAgg3
  z3 := Tryz.sizeOf3
  v3 := Tryz.zeroValue3
  t4 := Tryz.underlying4
  a4 := Tryz.isAgg4
  z4 := Tryz.sizeOf4
  v4 := Tryz.zeroValue4
  t5 := Tryz.underlying5
  a5 := Tryz.isAgg5
  z5 := Tryz.sizeOf5
  v5 := Tryz.zeroValue5
  t9 := Tryz.underlying9
  a9 := Tryz.isAgg9
  z9 := Tryz.sizeOf9
  v9 := Tryz.zeroValue9
  t20 := Tryz.underlying20
  a20 := Tryz.isAgg20
  z20 := Tryz.sizeOf20
  v20 := Tryz.zeroValue20
  t21 := Tryz.underlying21
  a21 := Tryz.isAgg21
  z21 := Tryz.sizeOf21
  v21 := Tryz.zeroValue21
  t37 := Tryz.underlying41
  a37 := Tryz.isAgg41
  z37 := Tryz.sizeOf41
  v37 := Tryz.zeroValue41
  t46 := Tryz.underlying126
  a46 := Tryz.isAgg126
  z46 := Tryz.sizeOf126
  v46 := Tryz.zeroValue126
  t51 := Tryz.underlying134
  a51 := Tryz.isAgg134
  z51 := Tryz.sizeOf134
  v51 := Tryz.zeroValue134
  t53 := Tryz.underlying139
  a53 := Tryz.isAgg139
  z53 := Tryz.sizeOf139
  v53 := Tryz.zeroValue139
  t75 := Tryz.underlying78
  a75 := Tryz.isAgg78
  z75 := Tryz.sizeOf78
  v75 := Tryz.zeroValue78
  t76 := Tryz.underlying79
  a76 := Tryz.isAgg79
  z76 := Tryz.sizeOf79
  v76 := Tryz.zeroValue79
  t85 := Tryz.underlying146
  a85 := Tryz.isAgg146
  z85 := Tryz.sizeOf146
  v85 := Tryz.zeroValue146
  t127 := Tryz.underlying83
  a127 := Tryz.isAgg83
  z127 := Tryz.sizeOf83
  v127 := Tryz.zeroValue83
  t143 := Tryz.underlying167
  a143 := Tryz.isAgg167
  z143 := Tryz.sizeOf167
  v143 := Tryz.zeroValue167
  t145 := Tryz.underlying169
  a145 := Tryz.isAgg169
  z145 := Tryz.sizeOf169
  v145 := Tryz.zeroValue169
  t167 := Tryz.underlying145
  a167 := Tryz.isAgg145
  z167 := Tryz.sizeOf145
  v167 := Tryz.zeroValue145
  t168 := Tryz.underlying148
  a168 := Tryz.isAgg148
  z168 := Tryz.sizeOf148
  v168 := Tryz.zeroValue148
  t171 := Tryz.underlying138
  a171 := Tryz.isAgg138
  z171 := Tryz.sizeOf138
  v171 := Tryz.zeroValue138
  t173 := Tryz.underlying142
  a173 := Tryz.isAgg142
  z173 := Tryz.sizeOf142
  v173 := Tryz.zeroValue142
  t175 := Tryz.underlying159
  a175 := Tryz.isAgg159
  z175 := Tryz.sizeOf159
  v175 := Tryz.zeroValue159
  t210 := Tryz.underlying163
  a210 := Tryz.isAgg163
  z210 := Tryz.sizeOf163
  v210 := Tryz.zeroValue163
  t212 := Tryz.underlying152
  a212 := Tryz.isAgg152
  z212 := Tryz.sizeOf152
  v212 := Tryz.zeroValue152
  t213 := Tryz.underlying153
  a213 := Tryz.isAgg153
  z213 := Tryz.sizeOf153
  t232 := Tryz.underlying170
  a232 := Tryz.isAgg170
  z232 := Tryz.sizeOf170
  v232 := Tryz.zeroValue170
  t233 := Tryz.underlying171
  a233 := Tryz.isAgg171
  z233 := Tryz.sizeOf171
  v233 := Tryz.zeroValue171
  g15 := by kernel_rfl
  g16 := by kernel_rfl
  g17 := by kernel_rfl
  g18 := by kernel_rfl
  g19 := by kernel_rfl
  t80 := Tryz.underlying49
  a80 := Tryz.isAgg49
  z80 := Tryz.sizeOf49
  v80 := Tryz.zeroValue49
  i0 := by kernel_rfl
  i2 := by kernel_rfl
  i3 := by kernel_rfl
  i4 := by kernel_rfl
  i5 := by kernel_rfl
  i9 := by kernel_rfl
  i20 := by kernel_rfl
  i21 := by kernel_rfl
  i37 := by kernel_rfl
  i46 := by kernel_rfl
  i51 := by kernel_rfl
  i53 := by kernel_rfl
  i75 := by kernel_rfl
  i76 := by kernel_rfl
  i80 := by kernel_rfl
  i85 := by kernel_rfl
  i127 := by kernel_rfl
  i143 := by kernel_rfl
  i145 := by kernel_rfl
  i167 := by kernel_rfl
  i168 := by kernel_rfl
  i171 := by kernel_rfl
  i173 := by kernel_rfl
  i175 := by kernel_rfl
  i210 := by kernel_rfl
  i212 := by kernel_rfl
  i232 := by kernel_rfl
  i233 := by kernel_rfl
  m15 := by kernel_rfl
  m16 := by kernel_rfl
  m17 := by kernel_rfl
  m18 := by kernel_rfl
  m19 := by kernel_rfl
  c0 := by kernel_rfl
  c2 := by kernel_rfl
  c3 := by kernel_rfl
  c4 := by kernel_rfl
  c5 := by kernel_rfl
  c9 := by kernel_rfl
  c20 := by kernel_rfl
  c21 := by kernel_rfl
  c37 := by kernel_rfl
  c46 := by kernel_rfl
  c51 := by kernel_rfl
  c53 := by kernel_rfl
  c75 := by kernel_rfl
  c76 := by kernel_rfl
  c80 := by kernel_rfl
  c85 := by kernel_rfl
  c127 := by kernel_rfl
  c143 := by kernel_rfl
  c145 := by kernel_rfl
  c167 := by kernel_rfl
  c168 := by kernel_rfl
  c171 := by kernel_rfl
  c173 := by kernel_rfl
  c175 := by kernel_rfl
  c210 := by kernel_rfl
  c212 := by kernel_rfl
  c213 := by kernel_rfl
  c232 := by kernel_rfl
  c233 := by kernel_rfl
def Tryz.lays145_ren : Go.Shelf.Ren := ⟨fun | 145 => 18 | 220 => 36 | 219 => 54 | 217 => 69 | 225 => 70 | 224 => 71 | 267 => 72 | 266 => 82 | 314 => 83 | n => n, fun | 9 => 9 | 4 => 4 | 59 => 66 | 3 => 3 | 5 => 5 | 46 => 126 | 146 => 135 | 51 => 134 | n => n, fun | 1 => 0 | n => n⟩
theorem Tryz.lays145 : Go.Proofs.Lays.n145 Tryz.prog Tryz.lays145_ren where
  mixed := by kernel_rfl
  f145 := Tryz.func18.trans (congrArg some (by kernel_rfl))
  f217 := Tryz.func69.trans (congrArg some (by kernel_rfl))
  f219 := Tryz.func54.trans (congrArg some (by kernel_rfl))
  f220 := Tryz.func36.trans (congrArg some (by kernel_rfl))
  f224 := Tryz.func71.trans (congrArg some (by kernel_rfl))
  f225 := Tryz.func70.trans (congrArg some (by kernel_rfl))
  f266 := Tryz.func82.trans (congrArg some (by kernel_rfl))
  f267 := Tryz.func72.trans (congrArg some (by kernel_rfl))
  f314 := Tryz.func83.trans (congrArg some (by kernel_rfl))
  t3 := Tryz.underlying3
  a3 := Tryz.isAgg3
  z3 := Tryz.sizeOf3
  v3 := Tryz.zeroValue3
  t4 := Tryz.underlying4
  a4 := Tryz.isAgg4
  z4 := Tryz.sizeOf4
  v4 := Tryz.zeroValue4
  t5 := Tryz.underlying5
  a5 := Tryz.isAgg5
  z5 := Tryz.sizeOf5
  v5 := Tryz.zeroValue5
  t9 := Tryz.underlying9
  a9 := Tryz.isAgg9
  z9 := Tryz.sizeOf9
  v9 := Tryz.zeroValue9
  t46 := Tryz.underlying126
  a46 := Tryz.isAgg126
  z46 := Tryz.sizeOf126
  v46 := Tryz.zeroValue126
  t51 := Tryz.underlying134
  a51 := Tryz.isAgg134
  z51 := Tryz.sizeOf134
  v51 := Tryz.zeroValue134
  t59 := Tryz.underlying66
  a59 := Tryz.isAgg66
  z59 := Tryz.sizeOf66
  v59 := Tryz.zeroValue66
  t146 := Tryz.underlying135
  a146 := Tryz.isAgg135
  z146 := Tryz.sizeOf135
  v146 := Tryz.zeroValue135
  g1 := by kernel_rfl
def Tryz.lays166_ren : Go.Shelf.Ren := ⟨fun | 166 => 29 | 240 => 44 | 276 => 61 | n => n, fun | 70 => 40 | 9 => 9 | 3 => 3 | 75 => 78 | 0 => 0 | 72 => 43 | 37 => 41 | 4 => 4 | 164 => 119 | 80 => 49 | 5 => 5 | n => n, fun | n => n⟩
theorem Tryz.lays166 : Go.Proofs.Lays.n166 Tryz.prog Tryz.lays166_ren where
  mixed := by kernel_rfl
  f166 := Tryz.func29.trans (congrArg some (by kernel_rfl))
  f240 := Tryz.func44.trans (congrArg some (by kernel_rfl))
  f276 := Tryz.func61.trans (congrArg some (by kernel_rfl))
  t0 := Tryz.underlying0
  a0 := Tryz.isAgg0
  z0 := Tryz.sizeOf0
  v0 := Tryz.zeroValue0
  t3 := Tryz.underlying3
  a3 := Tryz.isAgg3
  z3 := Tryz.sizeOf3
  v3 := Tryz.zeroValue3
  t4 := Tryz.underlying4
  a4 := Tryz.isAgg4
  z4 := Tryz.sizeOf4
  v4 := Tryz.zeroValue4
  t9 := Tryz.underlying9
  a9 := Tryz.isAgg9
  z9 := Tryz.sizeOf9
  v9 := Tryz.zeroValue9
  t20 := Tryz.underlying20
  a20 := Tryz.isAgg20
  z20 := Tryz.sizeOf20
  v20 := Tryz.zeroValue20
  t37 := Tryz.underlying41
  a37 := Tryz.isAgg41
  z37 := Tryz.sizeOf41
  v37 := Tryz.zeroValue41
  t70 := Tryz.underlying40
  a70 := Tryz.isAgg40
  z70 := Tryz.sizeOf40
  v70 := Tryz.zeroValue40
  t72 := Tryz.underlying43
  a72 := Tryz.isAgg43
  z72 := Tryz.sizeOf43
  v72 := Tryz.zeroValue43
  t75 := Tryz.underlying78
  a75 := Tryz.isAgg78
  z75 := Tryz.sizeOf78
  v75 := Tryz.zeroValue78
  t164 := Tryz.underlying119
  a164 := Tryz.isAgg119
  z164 := Tryz.sizeOf119
  v164 := Tryz.zeroValue119
def Tryz.lays167_ren : Go.Shelf.Ren := ⟨fun | 167 => 46 | 240 => 44 | 276 => 61 | n => n, fun | 70 => 40 | 5 => 5 | 75 => 78 | 0 => 0 | 72 => 43 | 37 => 41 | 4 => 4 | 164 => 119 | 80 => 49 | 9 => 9 | n => n, fun | n => n⟩
theorem Tryz.lays167 : Go.Proofs.Lays.n167 Tryz.prog Tryz.lays167_ren where
  mixed := by kernel_rfl
  f167 := Tryz.func46.trans (congrArg some (by kernel_rfl))
  f240 := Tryz.func44.trans (congrArg some (by kernel_rfl))
  f276 := Tryz.func61.trans (congrArg some (by kernel_rfl))
  t0 := Tryz.underlying0
  a0 := Tryz.isAgg0
  z0 := Tryz.sizeOf0
  v0 := Tryz.zeroValue0
  t4 := Tryz.underlying4
  a4 := Tryz.isAgg4
  z4 := Tryz.sizeOf4
  v4 := Tryz.zeroValue4
  t5 := Tryz.underlying5
  a5 := Tryz.isAgg5
  z5 := Tryz.sizeOf5
  v5 := Tryz.zeroValue5
  t9 := Tryz.underlying9
  a9 := Tryz.isAgg9
  z9 := Tryz.sizeOf9
  v9 := Tryz.zeroValue9
  t20 := Tryz.underlying20
  a20 := Tryz.isAgg20
  z20 := Tryz.sizeOf20
  v20 := Tryz.zeroValue20
  t37 := Tryz.underlying41
  a37 := Tryz.isAgg41
  z37 := Tryz.sizeOf41
  v37 := Tryz.zeroValue41
  t70 := Tryz.underlying40
  a70 := Tryz.isAgg40
  z70 := Tryz.sizeOf40
  v70 := Tryz.zeroValue40
  t72 := Tryz.underlying43
  a72 := Tryz.isAgg43
  z72 := Tryz.sizeOf43
  v72 := Tryz.zeroValue43
  t75 := Tryz.underlying78
  a75 := Tryz.isAgg78
  z75 := Tryz.sizeOf78
  v75 := Tryz.zeroValue78
  t164 := Tryz.underlying119
  a164 := Tryz.isAgg119
  z164 := Tryz.sizeOf119
  v164 := Tryz.zeroValue119
def Tryz.lays169_ren : Go.Shelf.Ren := ⟨fun | 169 => 14 | n => n, fun | 70 => 40 | 9 => 9 | 0 => 0 | 72 => 43 | 37 => 41 | 127 => 83 | 3 => 3 | 5 => 5 | n => n, fun | n => n⟩
theorem Tryz.lays169 : Go.Proofs.Lays.n169 Tryz.prog Tryz.lays169_ren where
  mixed := by kernel_rfl
  f169 := Tryz.func14.trans (congrArg some (by kernel_rfl))
  t0 := Tryz.underlying0
  a0 := Tryz.isAgg0
  z0 := Tryz.sizeOf0
  v0 := Tryz.zeroValue0
  t3 := Tryz.underlying3
  a3 := Tryz.isAgg3
  z3 := Tryz.sizeOf3
  v3 := Tryz.zeroValue3
  t9 := Tryz.underlying9
  a9 := Tryz.isAgg9
  z9 := Tryz.sizeOf9
  v9 := Tryz.zeroValue9
  t37 := Tryz.underlying41
  a37 := Tryz.isAgg41
  z37 := Tryz.sizeOf41
  v37 := Tryz.zeroValue41
  t70 := Tryz.underlying40
  a70 := Tryz.isAgg40
  z70 := Tryz.sizeOf40
  v70 := Tryz.zeroValue40
  t72 := Tryz.underlying43
  a72 := Tryz.isAgg43
  z72 := Tryz.sizeOf43
  v72 := Tryz.zeroValue43
  t127 := Tryz.underlying83
  a127 := Tryz.isAgg83
  z127 := Tryz.sizeOf83
  v127 := Tryz.zeroValue83
def Tryz.lays170_ren : Go.Shelf.Ren := ⟨fun | 170 => 13 | n => n, fun | 70 => 40 | 3 => 3 | 0 => 0 | 72 => 43 | 37 => 41 | 5 => 5 | n => n, fun | n => n⟩
theorem Tryz.lays170 : Go.Proofs.Lays.n170 Tryz.prog Tryz.lays170_ren where
  mixed := by kernel_rfl
  f170 := Tryz.func13.trans (congrArg some (by kernel_rfl))
  t0 := Tryz.underlying0
  a0 := Tryz.isAgg0
  z0 := Tryz.sizeOf0
  v0 := Tryz.zeroValue0
  t3 := Tryz.underlying3
  a3 := Tryz.isAgg3
  z3 := Tryz.sizeOf3
  v3 := Tryz.zeroValue3
  t37 := Tryz.underlying41
  a37 := Tryz.isAgg41
  z37 := Tryz.sizeOf41
  v37 := Tryz.zeroValue41
  t70 := Tryz.underlying40
  a70 := Tryz.isAgg40
  z70 := Tryz.sizeOf40
  v70 := Tryz.zeroValue40
  t72 := Tryz.underlying43
  a72 := Tryz.isAgg43
  z72 := Tryz.sizeOf43
  v72 := Tryz.zeroValue43
theorem index1 (s : List UInt8) (c : UInt8) (w : World) : Calls Tryz.prog 106 #[.string ⟨s.toArray⟩, .string ⟨#[c]⟩] w fun e w' => e = .returned (.int .i64 (Lib.indexByte s c)) ∧ w' = w := Any.strings_Index_one Tryz.lays143 ⟨s.toArray⟩ c w
set_option maxRecDepth 100000 in
set_option maxHeartbeats 1000000 in
theorem letter_in (c : Int) (w : World) : CallsIn Fence.wide 5 Tryz.prog 77 #[.int .u8 c] w fun e w' => e = .returned (.bool (libLetterI c)) ∧ w' = w := by
  refine callsIn_of_wp Tryz.func77 rfl trivial ?_ rfl
  simp only [Tryz.ntmps77, List.size_toArray, List.length_cons, List.length_nil, Nat.reduceAdd, Nat.reduceSub, Array.replicate_succ, Array.replicate_zero, List.push_toArray, List.append_toArray, List.nil_append, List.cons_append]
  gi_wp2
  all_goals (go_ret; refine ⟨?_, rfl⟩; refine congrArg (fun b => Ending.returned (Value.bool b)) ?_; first | rfl | (rw [Bool.eq_iff_iff]; simp [libLetterI]; omega) | (symm; simp [libLetterI]; omega) | (simp [libLetterI, *]; done))
set_option maxRecDepth 100000 in
set_option maxHeartbeats 1000000 in
theorem splitSeq0_in (s sep : ByteArray) (w : World) : CallsIn Fence.wide 4 Tryz.prog 91 #[.string s, .string sep, .int .i64 0] w fun e w' => e = .returned (.func (.func 104) #[] #[.pointer (some ⟨w.heap.size + 1, 0, none⟩), .pointer (some ⟨w.heap.size, 0, none⟩), .pointer (some ⟨w.heap.size + 2, 0, none⟩)]) ∧
    w' = ((w.alloc (.cells #[.string s] 9)).alloc (.cells #[.string sep] 9)).alloc (.cells #[.int .i64 0] 3) := by
  refine callsIn_of_wp Tryz.func91 rfl trivial ?_ rfl
  simp only [Tryz.ntmps91, List.size_toArray, List.length_cons, List.length_nil, Nat.reduceAdd, Nat.reduceSub, Array.replicate_succ, Array.replicate_zero, List.push_toArray, List.append_toArray, List.nil_append, List.cons_append]
  gi_wp2
  go_ret
  exact ⟨rfl, rfl⟩
set_option maxRecDepth 100000 in
set_option maxHeartbeats 1000000 in
theorem splitSeq_in (s sep : ByteArray) (w : World) : CallsIn Fence.wide 5 Tryz.prog 76 #[.string s, .string sep] w fun e w' => e = .returned (.func (.func 104) #[] #[.pointer (some ⟨w.heap.size + 1, 0, none⟩), .pointer (some ⟨w.heap.size, 0, none⟩), .pointer (some ⟨w.heap.size + 2, 0, none⟩)]) ∧
    w' = ((w.alloc (.cells #[.string s] 9)).alloc (.cells #[.string sep] 9)).alloc (.cells #[.int .i64 0] 3) := by
  refine callsIn_of_wp Tryz.func76 rfl trivial ?_ rfl
  simp only [Tryz.ntmps76, List.size_toArray, List.length_cons, List.length_nil, Nat.reduceAdd, Nat.reduceSub, Array.replicate_succ, Array.replicate_zero, List.push_toArray, List.append_toArray, List.nil_append, List.cons_append]
  have f61 : Fence.wide.fn 91 := trivial
  gi_wp2_with (gi_at_call 91; refine (splitSeq0_in _ _ _).mono ?_; rintro e w' ⟨rfl, rfl⟩)
  go_ret
  exact ⟨rfl, rfl⟩
set_option maxRecDepth 100000 in
set_option maxHeartbeats 1000000 in
theorem iter_in (l Bp Bs Bv n₀ : Nat) (s : List UInt8) (J Jx : List (List UInt8) → World → Prop) (W : World) (h1 : Bp < n₀) (h2 : Bs < n₀) (h3 : Bv < n₀) (h12 : Bp ≠ Bs) (h23 : Bv ≠ Bs)
    (hp : Boxed W Bp 9 (.string ⟨#[47]⟩)) (hs : Boxed W Bs 9 (.string ⟨s.toArray⟩)) (hv : Boxed W Bv 3 (.int .i64 0)) (hl : s.length < 1000)
    (hS : ∀ pre W v, J pre W → J pre (W.setCell ⟨Bs, 0, none⟩ v))
    (hY : ∀ pre x W1, x.length < 1000 → J pre W1 → YieldAt Fence.wide 5 Tryz.prog l #[.string ⟨x.toArray⟩] W1 fun e W' => (e = .returned (.bool true) ∧ J (pre ++ [x]) W' ∧ Below n₀ W1 W') ∨ (e = .returned (.bool false) ∧ Jx (pre ++ [x]) W'))
    (h0 : J [] W) :
    CallsIn Fence.wide 6 Tryz.prog 104 #[.func (.yield l) #[] #[], .pointer (some ⟨Bp, 0, none⟩), .pointer (some ⟨Bs, 0, none⟩), .pointer (some ⟨Bv, 0, none⟩)] W fun e W' => (∃ v, e = .returned v) ∧
      ((∃ xs, xs = cutAt 47 s ∧ J xs W') ∨ (∃ pre, pre <+: cutAt 47 s ∧ Jx pre W')) := by
  refine callsIn_of_wp Tryz.func104 rfl trivial ?_ rfl
  simp only [Tryz.ntmps104, List.size_toArray, List.length_cons, List.length_nil, Nat.reduceAdd, Nat.reduceSub, Array.replicate_succ, Array.replicate_zero, List.push_toArray, List.append_toArray, List.nil_append, List.cons_append]
  have f83 : Fence.wide.fn 106 := trivial
  have cp := hp.cell
  have cs := hs.cell
  have cv := hv.cell
  gi_wp2
  gi_loopw [7] (fun _ wr => ∃ (pre : List (List UInt8)) (r : List UInt8), cutAt 47 s = pre ++ cutAt 47 r ∧ r.length < 1000 ∧ Boxed wr Bp 9 (.string ⟨#[47]⟩) ∧ Boxed wr Bs 9 (.string ⟨r.toArray⟩) ∧ Boxed wr Bv 3 (.int .i64 0) ∧ J pre wr)
    (fun _ wr => match wr.cell? ⟨Bs, 0, none⟩ with | some (.string x) => x.size | _ => 0)
  case atStart =>
    exact ⟨[], s, by simp, hl, hp, hs, hv, h0⟩
  case round =>
    clear hp hs hv cp cs cv
    obtain ⟨pre, r, hr, hrl, hp, hs, hv, hJ⟩ := hrel
    have cp := hp.cell
    have cs := hs.cell
    have cv := hv.cell
    have hge := Lib.indexByte_ge r 47
    by_cases hneg : Lib.indexByte r 47 < 0
    · obtain ⟨fn, tmps, assign, body, hy, hR⟩ := hY pre r wr hrl hJ
      gi_wp2_with (gi_at_call 106; refine (callsIn_wide.2 (index1 r 47 _)).mono ?_; rintro e w' ⟨rfl, rfl⟩)
      refine hR.mono ?_
      rw [cutAt_none hneg] at hr
      rintro e W3 (⟨rfl, hJ3, hk3⟩ | ⟨rfl, hJx3⟩)
      · gi_wp2
        go_end0
        exact ⟨⟨_, rfl⟩, .inl ⟨_, hr ▸ rfl, hJ3⟩⟩
      · gi_wp2
        go_end0
        exact ⟨⟨_, rfl⟩, .inr ⟨_, hr ▸ List.prefix_refl _, hJx3⟩⟩
    · obtain ⟨i, hi⟩ : ∃ i : Nat, Lib.indexByte r 47 = i := ⟨(Lib.indexByte r 47).toNat, by omega⟩
      have ix := index1 r 47 wr
      rw [hi] at ix
      obtain ⟨hil, hc⟩ := cutAt_some hi
      obtain ⟨fn, tmps, assign, body, hy, hR⟩ := hY pre (r.take i) wr (by simp; omega) hJ
      rw [← extract_take] at hy
      gi_wp2_with (gi_at_call 106; refine (callsIn_wide.2 ix).mono ?_; rintro e w' ⟨rfl, rfl⟩)
      refine hR.mono ?_
      rintro e W3 (⟨rfl, hJ3, hk3⟩ | ⟨rfl, hJx3⟩)
      · have hp3 : Boxed W3 Bp 9 (.string ⟨#[47]⟩) := (hk3.block Bp h1).trans hp
        have hs3 : Boxed W3 Bs 9 (.string ⟨r.toArray⟩) := (hk3.block Bs h2).trans hs
        have hv3 : Boxed W3 Bv 3 (.int .i64 0) := (hk3.block Bv h3).trans hv
        have cp3 := hp3.cell
        have cs3 := hs3.cell
        have cv3 := hv3.cell
        have fs3 := hs3.frozen
        gi_wp2
        rw [extract_drop]
        refine ⟨⟨pre ++ [r.take i], r.drop (i + 1), by rw [hr, hc]; simp, by simp; omega, ?_, hs3.set _, ?_, hS _ _ _ hJ3⟩, ?_⟩
        · exact (Below.heap_setCell _ _ _ _ (by simpa using h12)).trans hp3
        · exact (Below.heap_setCell _ _ _ _ (by simpa using h23)).trans hv3
        · rw [(hs3.set _).cell, cs]
          simp [ByteArray.size]
          omega
      · gi_wp2
        refine bodyPost_ret (results_none rfl _ _ _) rfl ?_
        exact ⟨⟨_, rfl⟩, .inr ⟨_, ⟨cutAt 47 (r.drop (i + 1)), by rw [hr, hc]; simp⟩, hJx3⟩⟩
theorem bad_post {B n : Nat} {w W : World} {I : List (List UInt8) → World → Prop} {pre : List (List UInt8)} {x : List UInt8} {a : Act} (hb : Boxed W n 4 (.bool false)) (hbW : Below n w W) (h : libPart x = false) :
    ownPostK (Below B) I (fun c pre W => c = Code.ret ∧ (∃ p ∈ pre, libPart p = false) ∧ Boxed W n 4 (.bool false) ∧ Below n w W) (pre ++ [x]) W Exit.ret a (W.setCell ⟨n, 0, none⟩ (.bool false)) :=
  ⟨KeepsOthers.setCell _ _ _, rfl, ⟨x, by simp, h⟩, hb.set _, hbW.setCell (Nat.le_refl _) _⟩
set_option maxRecDepth 100000 in
set_option maxHeartbeats 1000000 in
theorem vp_in (s : List UInt8) (w : World) : CallsIn Fence.wide 7 Tryz.prog 63 #[.string ⟨s.toArray⟩] w fun e w' => e = .returned (.bool (libValidPath s)) ∧ Below w.heap.size w w' := by
  have f45 : Fence.wide.fn 76 := trivial
  have f46 : Fence.wide.fn 77 := trivial
  refine callsIn_of_wp_marks Tryz.func63 rfl trivial ?_ rfl
  simp only [Tryz.ntmps63, List.size_toArray, List.length_cons, List.length_nil, Nat.reduceAdd, Nat.reduceSub, Array.replicate_succ, Array.replicate_zero, List.push_toArray, List.append_toArray, List.nil_append, List.cons_append]
  by_cases h60 : s.length ≤ 60
  · have hl : s.length < 1000 := by omega
    gi_wp2_with (gi_at_call 76; refine (callsIn_wide.2 (callsIn_wide.1 (splitSeq_in _ _ _))).mono ?_; rintro e w' ⟨rfl, rfl⟩)
    obtain ⟨W0, hW0⟩ : ∃ W0, (((w.alloc (.cells #[.bool false] 4)).alloc (.cells #[.string ⟨s.toArray⟩] 9)).alloc (.cells #[.string ⟨#[47]⟩] 9)).alloc (.cells #[.int .i64 0] 3) = W0 := ⟨_, rfl⟩
    have hsz : W0.heap.size = w.heap.size + 4 := by rw [← hW0]; simp
    have hb0 : Boxed W0 w.heap.size 4 (.bool false) := by rw [← hW0]; exact (((Boxed.new w _ _).alloc _).alloc _).alloc _
    have hs0 : Boxed W0 (w.heap.size + 1) 9 (.string ⟨s.toArray⟩) := by rw [← hW0]; have := Boxed.new (w.alloc (.cells #[.bool false] 4)) 9 (.string ⟨s.toArray⟩); rw [World.size_alloc] at this; exact (this.alloc _).alloc _
    have hp0 : Boxed W0 (w.heap.size + 2) 9 (.string ⟨#[47]⟩) := by rw [← hW0]; have := Boxed.new ((w.alloc (.cells #[.bool false] 4)).alloc (.cells #[.string ⟨s.toArray⟩] 9)) 9 (.string ⟨#[47]⟩); simp only [World.size_alloc] at this; exact this.alloc _
    have hv0 : Boxed W0 (w.heap.size + 3) 3 (.int .i64 0) := by rw [← hW0]; have := Boxed.new (((w.alloc (.cells #[.bool false] 4)).alloc (.cells #[.string ⟨s.toArray⟩] 9)).alloc (.cells #[.string ⟨#[47]⟩] 9)) 3 (.int .i64 0); simp only [World.size_alloc] at this; exact this
    have hbl : Below w.heap.size w W0 := by rw [← hW0]; exact ((((Below.refl _ w).alloc (Nat.le_refl _) _).alloc (by simp) _).alloc (by simp; omega) _).alloc (by simp; omega) _
    simp only [hW0]
    refine wpIn_rangeFunc_cell rfl (by omega) (gf := 104) (lb := #[.pointer (some ⟨w.heap.size + 2, 0, none⟩), .pointer (some ⟨w.heap.size + 1, 0, none⟩), .pointer (some ⟨w.heap.size + 3, 0, none⟩)]) rfl trivial (enters_of Tryz.func104 (by kernel_rfl) rfl)
      (encs := fun x : List UInt8 => #[.string ⟨x.toArray⟩]) (w.heap.size + 1) (fun x => x.length < 1000) (S := fun xs => xs = cutAt 47 s) (Sp := fun pre => pre <+: cutAt 47 s)
      (fun l J Jx W hW hS hY h0 => iter_in l (w.heap.size + 2) (w.heap.size + 1) (w.heap.size + 3) W0.heap.size s J Jx W (by omega) (by omega) (by omega) (by omega) (by omega)
        ((hW.block _ (by omega)).trans hp0) ((hW.block _ (by omega)).trans hs0) ((hW.block _ (by omega)).trans hv0) hl hS hY h0)
      (fun _ => rfl)
      (fun pre W => (∀ p ∈ pre, libPart p = true) ∧ Boxed W w.heap.size 4 (.bool false) ∧ Below w.heap.size w W)
      (fun c pre W => c = .ret ∧ (∃ p ∈ pre, libPart p = false) ∧ Boxed W w.heap.size 4 (.bool false) ∧ Below w.heap.size w W)
      (fun q A B row hs hg hr => ⟨hs.1, hs.2.1.kept hg (fun e => by have := (hr _ e.symm).1; omega), ownFrom_below (β := Unit) (Nat.le_refl _) (by omega) () A B row hs.2.2 hg hr⟩)
      (fun pre W v hs => ⟨hs.1, (Below.heap_setCell _ _ _ _ (by simp)).trans hs.2.1, hs.2.2.setCell (by simp) v⟩)
      (fun c q A B row hs hg hr => ⟨hs.1, hs.2.1, hs.2.2.1.kept hg (fun e => by have := (hr _ e.symm).1; omega), ownFrom_below (β := Unit) (Nat.le_refl _) (by omega) () A B row hs.2.2.2 hg hr⟩)
      ⟨by simp, hb0, hbl⟩
      (fun x => { tmps := #[.string ⟨s.toArray⟩, undef, .pointer (some ⟨w.heap.size, 0, none⟩), .string ⟨x.toArray⟩, undef, .string ⟨s.toArray⟩, .int .i64 s.length, .bool (decide (60 < (s.length : Int))), .string ⟨s.toArray⟩, .func (.func 104) #[] #[.pointer (some ⟨w.heap.size + 2, 0, none⟩), .pointer (some ⟨w.heap.size + 1, 0, none⟩), .pointer (some ⟨w.heap.size + 3, 0, none⟩)], .string ⟨x.toArray⟩, undef, undef, undef, undef, undef, undef, undef, undef, undef, undef, undef, undef, undef, undef, undef, undef, undef, undef, undef, undef, undef], defers := [] }) ?assign ?body ?done ?stop
    case assign =>
      intro l x W K hK
      gi_wp2
      exact hK
    case body =>
      rintro l pre x W hxl ⟨hpre, hb, hbW⟩
      have cb := hb.cell
      have fb := hb.frozen
      have f46' : (Fence.wide.inRound l).fn 77 := trivial
      gi_wp2
      · rename_i hx
        exact bad_post hb hbW (by simp [libPart, hx])
      · rename_i hx
        exact bad_post hb hbW (by simp [libPart, hx])
      · rename_i h0 h1 hx
        refine bad_post hb hbW ?_
        have hx2 : x = [46, 46] := by simpa [h0, h1] using hx
        simp [libPart, hx2]
      · rename_i h0 h1 hx
        have hx2 : x ≠ [46, 46] := by simpa using hx.2
        have e0 : x.isEmpty = false := hx.1.1
        have e1 : (x == [46]) = false := hx.1.2
        have e2 : (x == [46, 46]) = false := hx.2
        simp only [e0, e1, e2, Bool.or_false]
        gi_loopw [4, 23] (fun _ i wr => ∃ k : Nat, wr = W ∧ i = .int .i64 k ∧ k ≤ x.length ∧ (x.take k).all libLetter = true) (fun _ i _ => x.length - (intOf i).toNat)
        case atStart => exact ⟨0, rfl, rfl, Nat.zero_le _, by simp⟩
        case round =>
          obtain ⟨k, rfl, rfl, hk, hall⟩ := hrel
          by_cases hkl : k < x.length
          · have hgi : x[k]? = some x[k] := List.getElem?_eq_getElem hkl
            have hlt := CallsIn.inRound (F := Fence.wide) (n := 4) l (callsIn_wide.2 (callsIn_wide.1 (letter_in (({ data := x.toArray } : ByteArray)[k]'hkl).toNat wr)))
            have hgk : (({ data := x.toArray } : ByteArray)[k]'hkl) = x[k] := rfl
            gi_wp2
            refine hlt.mono ?_
            rintro e w' ⟨rfl, rfl⟩
            gi_wp2
            · rename_i hbad
              refine bad_post hb hbW ?_
              have hf : libLetter x[k] = false := by simpa [libLetter] using hbad
              have : x.all libLetter = false := by
                rw [List.all_eq_false]
                exact ⟨x[k], List.getElem_mem hkl, by simp [hf]⟩
              simp [libPart, this]
            · rename_i hgood
              have hf : libLetter x[k] = true := by simpa [libLetter] using hgood
              have hall2 : (x.take (k + 1)).all libLetter = true := by
                rw [List.take_add_one, hgi, List.all_append, hall]
                simp [hf]
              go_roundw
              case rel => first | exact ⟨k + 1, trivial, rfl, hkl, hall2⟩ | exact ⟨k + 1, rfl, rfl, hkl, hall2⟩ | (refine ⟨k + 1, ?_, ?_, hkl, hall2⟩ <;> simp)
              case measure => simp [intOf]; omega
          · gi_wp2
            have : k = x.length := by omega
            subst this
            rw [List.take_length] at hall
            refine ⟨KeepsOthers.refl _, Below.refl _ _, ?_, hb, hbW⟩
            intro p hp
            rcases List.mem_append.1 hp with h | h
            · exact hpre p h
            · simp at h
              subst h
              simp [libPart, h0, h1, hx2]
              simpa using hall
    case done =>
      rintro D xs W rfl ⟨hpre, hb, hbW⟩ hD hK
      have cb := hb.cell
      have fb := hb.frozen
      gi_wp2
      have hb4 := hb.set (.bool true)
      have hK4 := (KeepsOthers.setCell W ⟨w.heap.size, 0, none⟩ (.bool true)).same D _ hK rfl
      refine ⟨by simp, .inl ⟨_, _, rfl, run_takeDeferred hK4, ?_⟩⟩
      have hb5 : Boxed ((W.setCell ⟨w.heap.size, 0, none⟩ (.bool true)).putObj D (.deferred none)) w.heap.size 4 (.bool true) := hb4.kept (grownBy_putObj' _ D _) (by rintro e; cases e; omega)
      have hc5 := hb5.cell
      refine ⟨.bool true, ?_, ?_, ?_⟩
      · simp [results, Tryz.f63, go_sem, hc5]
      · simp [libValidPath, h60]; exact hpre
      · exact (hbW.setCell (Nat.le_refl _) _).trans ((Below.refl _ _).grown (grownBy_putObj' _ D _) (by simp; have := (Array.getElem?_eq_some_iff.1 hK).1; omega) (fun k e => by cases e; omega))
    case stop =>
      rintro D c pre W hpre ⟨rfl, ⟨p, hp, hpb⟩, hb, hbW⟩ hD hK
      gi_wp2
      refine ⟨by simp, .inl ⟨_, _, rfl, run_takeDeferred hK, ?_⟩⟩
      have hb5 : Boxed (W.putObj D (.deferred none)) w.heap.size 4 (.bool false) := hb.kept (grownBy_putObj' _ D _) (by rintro e; cases e; omega)
      have hc5 := hb5.cell
      refine ⟨.bool false, ?_, ?_, ?_⟩
      · simp [results, Tryz.f63, go_sem, hc5]
      · have : (cutAt 47 s).all libPart = false := by
          rw [List.all_eq_false]
          exact ⟨p, hpre.subset hp, by simp [hpb]⟩
        simp [libValidPath, this]
      · exact hbW.trans ((Below.refl _ _).grown (grownBy_putObj' _ D _) (by have := (Array.getElem?_eq_some_iff.1 hK).1; omega) (fun k e => by cases e; omega))
  · gi_wp2
    have hc : (w.alloc (.cells #[.bool false] 4)).cell? ⟨w.heap.size, 0, none⟩ = some (.bool false) := (Boxed.new w _ _).cell
    refine ⟨.bool false, ?_, ?_, ?_⟩
    · simp [results, Tryz.f63, go_sem, hc]
    · simp [libValidPath, h60]
    · exact (Below.refl _ w).alloc (Nat.le_refl _) _
theorem k_ValidPath (s : List UInt8) : PSpec Tryz.prog 63 [.str s] (.bool (libValidPath s)) := PSpec.ofStrB fun w => callsIn_wide.1 (vp_in s w)
theorem k_Compare (a b : List UInt8) : PSpec Tryz.prog 67 [.str a, .str b] (.int .i64 (libCompare a b)) := PSpec.ofStr2 fun w => Any.strings_Compare Tryz.lays106 ⟨a.toArray⟩ ⟨b.toArray⟩ w
theorem k_IndexByte (a : List UInt8) (c : Int) : PSpec Tryz.prog 60 [.str a, .int .u8 c] (.int .i64 (libIndexByte a c)) := PSpec.ofStrInt fun w => Any.strings_IndexByte Tryz.lays137 ⟨a.toArray⟩ c w
theorem k_Itoa {n : Int} {r : List UInt8} (hr : libItoa n = some r) : PSpec Tryz.prog 45 [.int .i64 n] (.str r) :=
  PSpec.ofItoa hr fun h0 h1 w I hG => (Any.strconv_Itoa Tryz.lays171 n h0 h1 w (tab_of (g := 1) hG (by rfl) (by kernel_rfl))).mono fun e w' ⟨he, k, os, hw⟩ => ⟨he, hw ▸ Lib.below_grow _ _ (Nat.le_refl _) _ _⟩
theorem k_Atoi {s : List UInt8} {r : Int × Bool} (hr : libAtoi s = some r) : PSpec Tryz.prog 74 [.str s] (.tup [.int .i64 r.1, .ifc r.2]) := by
  have sz : (⟨s.toArray⟩ : ByteArray).size = s.length := rfl
  have dl : (⟨s.toArray⟩ : ByteArray).data.toList = s := rfl
  refine PSpec.ofAtoi hr (fun hl v hv w => ?_) (fun hl hv w I hG => ?_) (fun hl hv w I hG => ?_)
  · refine (Any.strconv_Atoi_ok Tryz.lays172 ⟨s.toArray⟩ (by rw [sz]; omega) v hv w).mono fun e w' ⟨he, hw⟩ => ⟨he, ?_⟩
    rcases hw with rfl | ⟨t, rfl⟩
    · exact Below.refl _ _
    · exact Lib.bytesWorld_below _ _ _
  · obtain ⟨ev, e1, e2⟩ := glob_cell (g := 2) (j := 0) (p := .ifc true) hG (by rfl) rfl
    have hev : ev = .nilIface ∨ ∃ te pe, ev = .iface te pe := by
      cases e2 with
      | iface t v => exact .inr ⟨t, v, rfl⟩
    refine (Any.strconv_Atoi_syntax Tryz.lays172 ⟨s.toArray⟩ (by rw [sz]; omega) hv ev w e1 hev).mono fun e w' ⟨N, he, _, _, hw⟩ => ⟨_, _, he, hw⟩
  · obtain ⟨ev, e1, e2⟩ := glob_cell (g := 3) (j := 0) (p := .ifc true) hG (by rfl) rfl
    have hev : ev = .nilIface ∨ ∃ te pe, ev = .iface te pe := by
      cases e2 with
      | iface t v => exact .inr ⟨t, v, rfl⟩
    refine (Any.strconv_Atoi_range Tryz.lays172 ⟨s.toArray⟩ (by rw [sz]; omega) hv ev w e1 hev).mono fun e w' ⟨N, he, _, _, hw⟩ => ⟨_, _, he, hw⟩
theorem maxLen_cell {w : World} {I : Nat → Prop} (hG : Glob w I) : ∃ m, w.cell? ⟨0, 0, none⟩ = some (.int .i64 m) := by
  obtain ⟨v, e1, e2⟩ := glob_cell (g := 0) (j := 0) (p := .anyi) hG (by rfl) rfl
  cases e2 with
  | anyi m => exact ⟨m, e1⟩
theorem k_Cut {a b : List UInt8} {r : List UInt8 × List UInt8 × Bool} (hr : libCut a b = some r) : PSpec Tryz.prog 18 [.str a, .str b] (.tup [.str r.1, .str r.2.1, .bool r.2.2]) :=
  PSpec.ofCut hr fun hl w I hG => by
    obtain ⟨m, hm⟩ := maxLen_cell hG
    exact (Any.strings_Cut Tryz.lays145 ⟨a.toArray⟩ ⟨b.toArray⟩ m w hl hm).mono fun e w' ⟨he, n, hw⟩ => ⟨he, hw ▸ below_drewN (Below.refl _ _) n⟩
theorem bx166 : Builder.Extra Tryz.prog Tryz.lays166_ren where
  sizeBuilder := by kernel_rfl
  liesBuilder := by kernel_rfl
  t5 := Tryz.underlying5
  a5 := Tryz.isAgg5
  z5 := Tryz.sizeOf5
  v5 := Tryz.zeroValue5
  infoByte := by kernel_rfl
  cellsByte := by kernel_rfl
  sizeByte := by kernel_rfl
  neB5 := by decide
theorem bx167 : Builder.Extra Tryz.prog Tryz.lays167_ren where
  sizeBuilder := by kernel_rfl
  liesBuilder := by kernel_rfl
  t5 := Tryz.underlying5
  a5 := Tryz.isAgg5
  z5 := Tryz.sizeOf5
  v5 := Tryz.zeroValue5
  infoByte := by kernel_rfl
  cellsByte := by kernel_rfl
  sizeByte := by kernel_rfl
  neB5 := by decide
theorem bx169 : Builder.Extra Tryz.prog Tryz.lays169_ren where
  sizeBuilder := by kernel_rfl
  liesBuilder := by kernel_rfl
  t5 := Tryz.underlying5
  a5 := Tryz.isAgg5
  z5 := Tryz.sizeOf5
  v5 := Tryz.zeroValue5
  infoByte := by kernel_rfl
  cellsByte := by kernel_rfl
  sizeByte := by kernel_rfl
  neB5 := by decide
theorem k_BWriteByte (l : List Int) (c : Int) (l2 : List Int) (h : gapp 1 l [c] = some l2) : PMut Tryz.prog 46 [.pown 1 0 0 0, .int .u8 c] [(1, brow 43 2), (2, urow 5 l)] (.ifc false) [(1, brow 43 3), (3, urow 5 l2)] := by
  obtain ⟨h1, rfl⟩ := gapp_some h
  have hl : (l ++ [c]).length ≤ big := by simpa using h1
  refine PMut.bwrite (ex := [.int .u8 c]) hl (fun w b p v xs I hbk hp hown hne hxs => ?_) rfl
  cases hxs with
  | cons hx t =>
    cases t
    cases hx
    refine (Bld.writeByte Tryz.lays167 bx167 (c := c) hbk hp hown hne (by rw [encB_length]; simp [big] at hl; omega)).mono ?_
    rintro e w' ⟨rfl, v', S⟩
    refine ⟨_, rfl, fun _ _ => .nilI, v', ?_⟩
    have e1 : encB (l ++ [c]) = encB l ++ [.int .u8 c] := by simp [encB]
    rw [e1]; exact S
theorem k_BWriteString (l : List Int) (s : List UInt8) (l2 : List Int) (h : gapp 1 l (bts s) = some l2) : PMut Tryz.prog 29 [.pown 1 0 0 0, .str s] [(1, brow 43 2), (2, urow 5 l)] (.tup [.int .i64 s.length, .ifc false]) [(1, brow 43 3), (3, urow 5 l2)] := by
  obtain ⟨h1, rfl⟩ := gapp_some h
  have hl : (l ++ bts s).length ≤ big := by simpa using h1
  refine PMut.bwrite (ex := [.str s]) hl (fun w b p v xs I hbk hp hown hne hxs => ?_) rfl
  cases hxs with
  | cons hx t =>
    cases t
    cases hx
    have sz : (⟨s.toArray⟩ : ByteArray).size = s.length := rfl
    refine (Bld.writeString Tryz.lays166 bx166 (s := ⟨s.toArray⟩) hbk hp hown hne (by rw [encB_length, sz]; simp [big, bts] at hl; omega)).mono ?_
    rintro e w' ⟨rfl, v', S⟩
    refine ⟨_, rfl, fun _ _ => .tup _ _ rfl (fun j v p h1 h2 => ?_), v', ?_⟩
    · match j, h1, h2 with
      | 0, h1, h2 => simp at h1 h2; subst h1 h2; rw [sz]; exact .int _ _
      | 1, h1, h2 => simp at h1 h2; subst h1 h2; exact .nilI
      | j + 2, h1, h2 => simp at h2
    · have e1 : encB (l ++ bts s) = encB l ++ Lib.strCells ⟨s.toArray⟩ := by
        simp [encB, bts, Lib.strCells, List.map_map]
      rw [e1]; exact S
theorem k_BLen (l : List Int) : PMut Tryz.prog 13 [.pown 1 0 0 0] [(1, brow 43 2), (2, urow 5 l)] (.int .i64 l.length) [(1, brow 43 2), (2, urow 5 l)] :=
  PMut.blen fun w b p v hbk hp hown hne => Any.Builder_Len Tryz.lays170 0 b (encB l) w (by
    rcases hp with rfl | rfl
    · exact .inl ⟨Nat.zero_le _, v, hbk, hown, hne⟩
    · exact .inr ⟨Nat.zero_le _, v, hbk, hown, hne⟩)
theorem k_BString (s : List UInt8) : PMut Tryz.prog 14 [.pown 1 0 0 0] [(1, brow 43 2), (2, urow 5 (bts s))] (.str s) [] :=
  PMut.bstring fun w b p v hbk hown => Bld.string Tryz.lays169 bx169 hbk hown
end Go.Proofs.YtjmmlddioeehbaaGreatDoor
