/- Contracts of the library's functions, over this program. -/
import Derived.Test.YtlkknmhhefjmjaaDoorC
import Derived.Test.YtlkknmhhefjmjaaDoorPwSplit
import Derived.Shelf.Small.Strs
import Derived.Shelf.Strings.Search3
import Derived.Shelf.Abstract
import Derived.WalkKit
import Derived.OwnWalkIn
import Derived.TacticsInMore
import Derived.LoopNIn
import Derived.LoopIn
import Derived.KernelRfl
import Derived.RangeFuncCalls
import Derived.Test.YtlkknmhhefjmjaaDoorD
import Derived.Test.YtlkknmhhefjmjaaDoorPwSortFn
import Derived.Shelf.SlSortCmp.WholeK
import Derived.Shelf.SlSortCmp.NoneTotal
import Derived.Test.YtlkknmhhefjmjaaDoorPwInsert
import Derived.Shelf.Spec.SlicesGrow
import Derived.Shelf.Spec.SlicesInsertGrow
namespace Go.Proofs.YtlkknmhhefjmjaaDoor
open Go.Shelf Go.RowKit Go.PW
attribute [local go_sem] Oper.semAt_some
def Tryd.lays106_ren : Go.Shelf.Ren := ⟨fun | 106 => 87 | 213 => 117 | 265 => 136 | n => n, fun | 9 => 9 | 3 => 3 | n => n, fun | n => n⟩
theorem Tryd.lays106 : Go.Proofs.Lays.n106 Tryd.prog Tryd.lays106_ren where
  mixed := by kernel_rfl
  f106 := Tryd.func87.trans (congrArg some (by kernel_rfl))
  f213 := Tryd.func117.trans (congrArg some (by kernel_rfl))
  f265 := Tryd.func136.trans (congrArg some (by kernel_rfl))
  t3 := Tryd.underlying3
  a3 := Tryd.isAgg3
  z3 := Tryd.sizeOf3
  v3 := Tryd.zeroValue3
  t9 := Tryd.underlying9
  a9 := Tryd.isAgg9
  z9 := Tryd.sizeOf9
  v9 := Tryd.zeroValue9
def Tryd.lays137_ren : Go.Shelf.Ren := ⟨fun | 137 => 118 | 217 => 137 | 266 => 146 | n => n, fun | 9 => 9 | 5 => 5 | 3 => 3 | n => n, fun | n => n⟩
theorem Tryd.lays137 : Go.Proofs.Lays.n137 Tryd.prog Tryd.lays137_ren where
  mixed := by kernel_rfl
  f137 := Tryd.func118.trans (congrArg some (by kernel_rfl))
  f217 := Tryd.func137.trans (congrArg some (by kernel_rfl))
  f266 := Tryd.func146.trans (congrArg some (by kernel_rfl))
  t3 := Tryd.underlying3
  a3 := Tryd.isAgg3
  z3 := Tryd.sizeOf3
  v3 := Tryd.zeroValue3
  t5 := Tryd.underlying5
  a5 := Tryd.isAgg5
  z5 := Tryd.sizeOf5
  v5 := Tryd.zeroValue5
  t9 := Tryd.underlying9
  a9 := Tryd.isAgg9
  z9 := Tryd.sizeOf9
  v9 := Tryd.zeroValue9
def Tryd.lays143_ren : Go.Shelf.Ren := ⟨fun | 143 => 149 | 219 => 153 | 217 => 137 | 225 => 155 | 224 => 156 | 267 => 157 | 266 => 146 | 314 => 158 | n => n, fun | 9 => 9 | 3 => 3 | 4 => 4 | 5 => 5 | 46 => 148 | 146 => 183 | 51 => 162 | n => n, fun | 1 => 0 | n => n⟩
theorem Tryd.lays143 : Go.Proofs.Lays.n143 Tryd.prog Tryd.lays143_ren where
  mixed := by kernel_rfl
  f143 := Tryd.func149.trans (congrArg some (by kernel_rfl))
  f217 := Tryd.func137.trans (congrArg some (by kernel_rfl))
  f219 := Tryd.func153.trans (congrArg some (by kernel_rfl))
  f224 := Tryd.func156.trans (congrArg some (by kernel_rfl))
  f225 := Tryd.func155.trans (congrArg some (by kernel_rfl))
  f266 := Tryd.func146.trans (congrArg some (by kernel_rfl))
  f267 := Tryd.func157.trans (congrArg some (by kernel_rfl))
  f314 := Tryd.func158.trans (congrArg some (by kernel_rfl))
  t3 := Tryd.underlying3
  a3 := Tryd.isAgg3
  z3 := Tryd.sizeOf3
  v3 := Tryd.zeroValue3
  t4 := Tryd.underlying4
  a4 := Tryd.isAgg4
  z4 := Tryd.sizeOf4
  v4 := Tryd.zeroValue4
  t5 := Tryd.underlying5
  a5 := Tryd.isAgg5
  z5 := Tryd.sizeOf5
  v5 := Tryd.zeroValue5
  t9 := Tryd.underlying9
  a9 := Tryd.isAgg9
  z9 := Tryd.sizeOf9
  v9 := Tryd.zeroValue9
  t46 := Tryd.underlying148
  a46 := Tryd.isAgg148
  z46 := Tryd.sizeOf148
  v46 := Tryd.zeroValue148
  t51 := Tryd.underlying162
  a51 := Tryd.isAgg162
  z51 := Tryd.sizeOf162
  v51 := Tryd.zeroValue162
  t146 := Tryd.underlying183
  a146 := Tryd.isAgg183
  z146 := Tryd.sizeOf183
  v146 := Tryd.zeroValue183
  g1 := by kernel_rfl
def Tryd.sortF_ren : Go.Shelf.Ren := ⟨fun | 6 => 85 | 15 => 116 | 14 => 115 | 28 => 134 | 29 => 135 | 20 => 126 | 21 => 127 | 22 => 128 | 23 => 129 | 24 => 130 | 25 => 131 | 26 => 132 | 27 => 133 | 46 => 141 | 47 => 142 | 48 => 143 | 49 => 144 | 50 => 145 | 57 => 151 | n => n, fun | 22 => 63 | 24 => 117 | 25 => 126 | 3 => 3 | 39 => 148 | 0 => 0 | 53 => 162 | 55 => 164 | 4 => 4 | 46 => 156 | 45 => 155 | 50 => 91 | 5 => 5 | 9 => 9 | 66 => 167 | 70 => 171 | 76 => 175 | 77 => 176 | n => n, fun | n => n⟩
theorem Tryd.sortF : Go.Proofs.SlLaysF0.n6 Tryd.prog Tryd.sortF_ren where
  mixed := by kernel_rfl
  f6 := ⟨Tryd.f85.name, by decide, Tryd.func85.trans (congrArg some (by kernel_rfl))⟩
  f14 := ⟨Tryd.f115.name, by decide, Tryd.func115.trans (congrArg some (by kernel_rfl))⟩
  f15 := Tryd.func116.trans (congrArg some (by kernel_rfl))
  f20 := ⟨Tryd.f126.name, by decide, Tryd.func126.trans (congrArg some (by kernel_rfl))⟩
  f21 := ⟨Tryd.f127.name, by decide, Tryd.func127.trans (congrArg some (by kernel_rfl))⟩
  f22 := ⟨Tryd.f128.name, by decide, Tryd.func128.trans (congrArg some (by kernel_rfl))⟩
  f23 := ⟨Tryd.f129.name, by decide, Tryd.func129.trans (congrArg some (by kernel_rfl))⟩
  f24 := ⟨Tryd.f130.name, by decide, Tryd.func130.trans (congrArg some (by kernel_rfl))⟩
  f25 := ⟨Tryd.f131.name, by decide, Tryd.func131.trans (congrArg some (by kernel_rfl))⟩
  f26 := ⟨Tryd.f132.name, by decide, Tryd.func132.trans (congrArg some (by kernel_rfl))⟩
  f27 := ⟨Tryd.f133.name, by decide, Tryd.func133.trans (congrArg some (by kernel_rfl))⟩
  f28 := Tryd.func134.trans (congrArg some (by kernel_rfl))
  f29 := Tryd.func135.trans (congrArg some (by kernel_rfl))
  f46 := ⟨Tryd.f141.name, by decide, Tryd.func141.trans (congrArg some (by kernel_rfl))⟩
  f47 := Tryd.func142.trans (congrArg some (by kernel_rfl))
  f48 := Tryd.func143.trans (congrArg some (by kernel_rfl))
  f49 := ⟨Tryd.f144.name, by decide, Tryd.func144.trans (congrArg some (by kernel_rfl))⟩
  f50 := ⟨Tryd.f145.name, by decide, Tryd.func145.trans (congrArg some (by kernel_rfl))⟩
  f57 := ⟨Tryd.f151.name, by decide, Tryd.func151.trans (congrArg some (by kernel_rfl))⟩
  t0 := Tryd.underlying0
  a0 := Tryd.isAgg0
  z0 := Tryd.sizeOf0
  v0 := Tryd.zeroValue0
  t3 := Tryd.underlying3
  a3 := Tryd.isAgg3
  z3 := Tryd.sizeOf3
  v3 := Tryd.zeroValue3
  t4 := Tryd.underlying4
  a4 := Tryd.isAgg4
  z4 := Tryd.sizeOf4
  v4 := Tryd.zeroValue4
  t5 := Tryd.underlying5
  a5 := Tryd.isAgg5
  z5 := Tryd.sizeOf5
  v5 := Tryd.zeroValue5
  t9 := Tryd.underlying9
  a9 := Tryd.isAgg9
  z9 := Tryd.sizeOf9
  v9 := Tryd.zeroValue9
  t22 := Tryd.underlying63
  a22 := Tryd.isAgg63
  z22 := Tryd.sizeOf63
  v22 := Tryd.zeroValue63
  t25 := Tryd.underlying126
  a25 := Tryd.isAgg126
  z25 := Tryd.sizeOf126
  v25 := Tryd.zeroValue126
  t39 := Tryd.underlying148
  a39 := Tryd.isAgg148
  z39 := Tryd.sizeOf148
  v39 := Tryd.zeroValue148
  t45 := Tryd.underlying155
  a45 := Tryd.isAgg155
  z45 := Tryd.sizeOf155
  v45 := Tryd.zeroValue155
  t46 := Tryd.underlying156
  a46 := Tryd.isAgg156
  z46 := Tryd.sizeOf156
  v46 := Tryd.zeroValue156
  t50 := Tryd.underlying91
  a50 := Tryd.isAgg91
  z50 := Tryd.sizeOf91
  v50 := Tryd.zeroValue91
  t53 := Tryd.underlying162
  a53 := Tryd.isAgg162
  z53 := Tryd.sizeOf162
  v53 := Tryd.zeroValue162
  t55 := Tryd.underlying164
  a55 := Tryd.isAgg164
  z55 := Tryd.sizeOf164
  v55 := Tryd.zeroValue164
  t66 := Tryd.underlying167
  a66 := Tryd.isAgg167
  z66 := Tryd.sizeOf167
  v66 := Tryd.zeroValue167
  t70 := Tryd.underlying171
  a70 := Tryd.isAgg171
  z70 := Tryd.sizeOf171
  v70 := Tryd.zeroValue171
  t76 := Tryd.underlying175
  a76 := Tryd.isAgg175
  z76 := Tryd.sizeOf175
  v76 := Tryd.zeroValue175
  t77 := Tryd.underlying176
  a77 := Tryd.isAgg176
  z77 := Tryd.sizeOf176
  v77 := Tryd.zeroValue176
def Tryd.growBom_ren : Go.Shelf.Ren := ⟨fun | 4 => 114 | n => n, fun | 22 => 63 | 25 => 117 | 3 => 3 | 4 => 4 | 9 => 9 | 20 => 20 | 0 => 0 | n => n, fun | n => n⟩
theorem Tryd.growBom : Go.Proofs.Lays8.n4 Tryd.prog Tryd.growBom_ren where
  mixed := by kernel_rfl
  f4 := ⟨Tryd.f114.name, by decide, Tryd.func114.trans (congrArg some (by kernel_rfl))⟩
  t0 := Tryd.underlying0
  a0 := Tryd.isAgg0
  z0 := Tryd.sizeOf0
  v0 := Tryd.zeroValue0
  t3 := Tryd.underlying3
  a3 := Tryd.isAgg3
  z3 := Tryd.sizeOf3
  v3 := Tryd.zeroValue3
  t4 := Tryd.underlying4
  a4 := Tryd.isAgg4
  z4 := Tryd.sizeOf4
  v4 := Tryd.zeroValue4
  t9 := Tryd.underlying9
  a9 := Tryd.isAgg9
  z9 := Tryd.sizeOf9
  v9 := Tryd.zeroValue9
  t20 := Tryd.underlying20
  a20 := Tryd.isAgg20
  z20 := Tryd.sizeOf20
  v20 := Tryd.zeroValue20
  t22 := Tryd.underlying63
  a22 := Tryd.isAgg63
  z22 := Tryd.sizeOf63
  v22 := Tryd.zeroValue63
theorem index1 (s : List UInt8) (c : UInt8) (w : World) : Calls Tryd.prog 149 #[.string ⟨s.toArray⟩, .string ⟨#[c]⟩] w fun e w' => e = .returned (.int .i64 (Lib.indexByte s c)) ∧ w' = w := Any.strings_Index_one Tryd.lays143 ⟨s.toArray⟩ c w
set_option maxRecDepth 100000 in
set_option maxHeartbeats 1000000 in
theorem letter_in (c : Int) (w : World) : CallsIn Fence.wide 5 Tryd.prog 124 #[.int .u8 c] w fun e w' => e = .returned (.bool (libLetterI c)) ∧ w' = w := by
  refine callsIn_of_wp Tryd.func124 rfl trivial ?_ rfl
  simp only [Tryd.ntmps124, List.size_toArray, List.length_cons, List.length_nil, Nat.reduceAdd, Nat.reduceSub, Array.replicate_succ, Array.replicate_zero, List.push_toArray, List.append_toArray, List.nil_append, List.cons_append]
  gi_wp2
  all_goals (go_ret; refine ⟨?_, rfl⟩; refine congrArg (fun b => Ending.returned (Value.bool b)) ?_; first | rfl | (rw [Bool.eq_iff_iff]; simp [libLetterI]; omega) | (symm; simp [libLetterI]; omega) | (simp [libLetterI, *]; done))
set_option maxRecDepth 100000 in
set_option maxHeartbeats 1000000 in
theorem splitSeq0_in (s sep : ByteArray) (w : World) : CallsIn Fence.wide 4 Tryd.prog 139 #[.string s, .string sep, .int .i64 0] w fun e w' => e = .returned (.func (.func 147) #[] #[.pointer (some ⟨w.heap.size + 1, 0, none⟩), .pointer (some ⟨w.heap.size, 0, none⟩), .pointer (some ⟨w.heap.size + 2, 0, none⟩)]) ∧
    w' = ((w.alloc (.cells #[.string s] 9)).alloc (.cells #[.string sep] 9)).alloc (.cells #[.int .i64 0] 3) := by
  refine callsIn_of_wp Tryd.func139 rfl trivial ?_ rfl
  simp only [Tryd.ntmps139, List.size_toArray, List.length_cons, List.length_nil, Nat.reduceAdd, Nat.reduceSub, Array.replicate_succ, Array.replicate_zero, List.push_toArray, List.append_toArray, List.nil_append, List.cons_append]
  gi_wp2
  go_ret
  exact ⟨rfl, rfl⟩
set_option maxRecDepth 100000 in
set_option maxHeartbeats 1000000 in
theorem splitSeq_in (s sep : ByteArray) (w : World) : CallsIn Fence.wide 5 Tryd.prog 123 #[.string s, .string sep] w fun e w' => e = .returned (.func (.func 147) #[] #[.pointer (some ⟨w.heap.size + 1, 0, none⟩), .pointer (some ⟨w.heap.size, 0, none⟩), .pointer (some ⟨w.heap.size + 2, 0, none⟩)]) ∧
    w' = ((w.alloc (.cells #[.string s] 9)).alloc (.cells #[.string sep] 9)).alloc (.cells #[.int .i64 0] 3) := by
  refine callsIn_of_wp Tryd.func123 rfl trivial ?_ rfl
  simp only [Tryd.ntmps123, List.size_toArray, List.length_cons, List.length_nil, Nat.reduceAdd, Nat.reduceSub, Array.replicate_succ, Array.replicate_zero, List.push_toArray, List.append_toArray, List.nil_append, List.cons_append]
  have f61 : Fence.wide.fn 139 := trivial
  gi_wp2_with (gi_at_call 139; refine (splitSeq0_in _ _ _).mono ?_; rintro e w' ⟨rfl, rfl⟩)
  go_ret
  exact ⟨rfl, rfl⟩
set_option maxRecDepth 100000 in
set_option maxHeartbeats 1000000 in
theorem iter_in (l Bp Bs Bv n₀ : Nat) (s : List UInt8) (J Jx : List (List UInt8) → World → Prop) (W : World) (h1 : Bp < n₀) (h2 : Bs < n₀) (h3 : Bv < n₀) (h12 : Bp ≠ Bs) (h23 : Bv ≠ Bs)
    (hp : Boxed W Bp 9 (.string ⟨#[47]⟩)) (hs : Boxed W Bs 9 (.string ⟨s.toArray⟩)) (hv : Boxed W Bv 3 (.int .i64 0)) (hl : s.length < 1000)
    (hS : ∀ pre W v, J pre W → J pre (W.setCell ⟨Bs, 0, none⟩ v))
    (hY : ∀ pre x W1, x.length < 1000 → J pre W1 → YieldAt Fence.wide 5 Tryd.prog l #[.string ⟨x.toArray⟩] W1 fun e W' => (e = .returned (.bool true) ∧ J (pre ++ [x]) W' ∧ Below n₀ W1 W') ∨ (e = .returned (.bool false) ∧ Jx (pre ++ [x]) W'))
    (h0 : J [] W) :
    CallsIn Fence.wide 6 Tryd.prog 147 #[.func (.yield l) #[] #[], .pointer (some ⟨Bp, 0, none⟩), .pointer (some ⟨Bs, 0, none⟩), .pointer (some ⟨Bv, 0, none⟩)] W fun e W' => (∃ v, e = .returned v) ∧
      ((∃ xs, xs = cutAt 47 s ∧ J xs W') ∨ (∃ pre, pre <+: cutAt 47 s ∧ Jx pre W')) := by
  refine callsIn_of_wp Tryd.func147 rfl trivial ?_ rfl
  simp only [Tryd.ntmps147, List.size_toArray, List.length_cons, List.length_nil, Nat.reduceAdd, Nat.reduceSub, Array.replicate_succ, Array.replicate_zero, List.push_toArray, List.append_toArray, List.nil_append, List.cons_append]
  have f83 : Fence.wide.fn 149 := trivial
  have cp := hp.cell
  have cs := hs.cell
  have cv := hv.cell
  gi_wp2
  gi_loopw [7] (fun _ wr => ∃ (pre : List (List UInt8)) (r : List UInt8), cutAt 47 s = pre ++ cutAt 47 r ∧ r.length < 1000 ∧ Boxed wr Bp 9 (.string ⟨#[47]⟩) ∧ Boxed wr Bs 9 (.string ⟨r.toArray⟩) ∧ Boxed wr Bv 3 (.int .i64 0) ∧ J pre wr)
    (fun _ wr => match wr.cell? ⟨Bs, 0, none⟩ with | some (.string x) => x.size | _ => 0)
  case atStart =>
    exact ⟨[], s, by simp, hl, hp, hs, hv, h0⟩
  case round =>
    clear hp hs hv cp cs cv
    obtain ⟨pre, r, hr, hrl, hp, hs, hv, hJ⟩ := hrel
    have cp := hp.cell
    have cs := hs.cell
    have cv := hv.cell
    have hge := Lib.indexByte_ge r 47
    by_cases hneg : Lib.indexByte r 47 < 0
    · obtain ⟨fn, tmps, assign, body, hy, hR⟩ := hY pre r wr hrl hJ
      gi_wp2_with (gi_at_call 149; refine (callsIn_wide.2 (index1 r 47 _)).mono ?_; rintro e w' ⟨rfl, rfl⟩)
      refine hR.mono ?_
      rw [cutAt_none hneg] at hr
      rintro e W3 (⟨rfl, hJ3, hk3⟩ | ⟨rfl, hJx3⟩)
      · gi_wp2
        go_end0
        exact ⟨⟨_, rfl⟩, .inl ⟨_, hr ▸ rfl, hJ3⟩⟩
      · gi_wp2
        go_end0
        exact ⟨⟨_, rfl⟩, .inr ⟨_, hr ▸ List.prefix_refl _, hJx3⟩⟩
    · obtain ⟨i, hi⟩ : ∃ i : Nat, Lib.indexByte r 47 = i := ⟨(Lib.indexByte r 47).toNat, by omega⟩
      have ix := index1 r 47 wr
      rw [hi] at ix
      obtain ⟨hil, hc⟩ := cutAt_some hi
      obtain ⟨fn, tmps, assign, body, hy, hR⟩ := hY pre (r.take i) wr (by simp; omega) hJ
      rw [← extract_take] at hy
      gi_wp2_with (gi_at_call 149; refine (callsIn_wide.2 ix).mono ?_; rintro e w' ⟨rfl, rfl⟩)
      refine hR.mono ?_
      rintro e W3 (⟨rfl, hJ3, hk3⟩ | ⟨rfl, hJx3⟩)
      · have hp3 : Boxed W3 Bp 9 (.string ⟨#[47]⟩) := (hk3.block Bp h1).trans hp
        have hs3 : Boxed W3 Bs 9 (.string ⟨r.toArray⟩) := (hk3.block Bs h2).trans hs
        have hv3 : Boxed W3 Bv 3 (.int .i64 0) := (hk3.block Bv h3).trans hv
        have cp3 := hp3.cell
        have cs3 := hs3.cell
        have cv3 := hv3.cell
        have fs3 := hs3.frozen
        gi_wp2
        rw [extract_drop]
        refine ⟨⟨pre ++ [r.take i], r.drop (i + 1), by rw [hr, hc]; simp, by simp; omega, ?_, hs3.set _, ?_, hS _ _ _ hJ3⟩, ?_⟩
        · exact (Below.heap_setCell _ _ _ _ (by simpa using h12)).trans hp3
        · exact (Below.heap_setCell _ _ _ _ (by simpa using h23)).trans hv3
        · rw [(hs3.set _).cell, cs]
          simp [ByteArray.size]
          omega
      · gi_wp2
        refine bodyPost_ret (results_none rfl _ _ _) rfl ?_
        exact ⟨⟨_, rfl⟩, .inr ⟨_, ⟨cutAt 47 (r.drop (i + 1)), by rw [hr, hc]; simp⟩, hJx3⟩⟩
theorem bad_post {B n : Nat} {w W : World} {I : List (List UInt8) → World → Prop} {pre : List (List UInt8)} {x : List UInt8} {a : Act} (hb : Boxed W n 4 (.bool false)) (hbW : Below n w W) (h : libPart x = false) :
    ownPostK (Below B) I (fun c pre W => c = Code.ret ∧ (∃ p ∈ pre, libPart p = false) ∧ Boxed W n 4 (.bool false) ∧ Below n w W) (pre ++ [x]) W Exit.ret a (W.setCell ⟨n, 0, none⟩ (.bool false)) :=
  ⟨KeepsOthers.setCell _ _ _, rfl, ⟨x, by simp, h⟩, hb.set _, hbW.setCell (Nat.le_refl _) _⟩
set_option maxRecDepth 100000 in
set_option maxHeartbeats 1000000 in
theorem vp_in (s : List UInt8) (w : World) : CallsIn Fence.wide 7 Tryd.prog 110 #[.string ⟨s.toArray⟩] w fun e w' => e = .returned (.bool (libValidPath s)) ∧ Below w.heap.size w w' := by
  have f45 : Fence.wide.fn 123 := trivial
  have f46 : Fence.wide.fn 124 := trivial
  refine callsIn_of_wp_marks Tryd.func110 rfl trivial ?_ rfl
  simp only [Tryd.ntmps110, List.size_toArray, List.length_cons, List.length_nil, Nat.reduceAdd, Nat.reduceSub, Array.replicate_succ, Array.replicate_zero, List.push_toArray, List.append_toArray, List.nil_append, List.cons_append]
  by_cases h60 : s.length ≤ 60
  · have hl : s.length < 1000 := by omega
    gi_wp2_with (gi_at_call 123; refine (callsIn_wide.2 (callsIn_wide.1 (splitSeq_in _ _ _))).mono ?_; rintro e w' ⟨rfl, rfl⟩)
    obtain ⟨W0, hW0⟩ : ∃ W0, (((w.alloc (.cells #[.bool false] 4)).alloc (.cells #[.string ⟨s.toArray⟩] 9)).alloc (.cells #[.string ⟨#[47]⟩] 9)).alloc (.cells #[.int .i64 0] 3) = W0 := ⟨_, rfl⟩
    have hsz : W0.heap.size = w.heap.size + 4 := by rw [← hW0]; simp
    have hb0 : Boxed W0 w.heap.size 4 (.bool false) := by rw [← hW0]; exact (((Boxed.new w _ _).alloc _).alloc _).alloc _
    have hs0 : Boxed W0 (w.heap.size + 1) 9 (.string ⟨s.toArray⟩) := by rw [← hW0]; have := Boxed.new (w.alloc (.cells #[.bool false] 4)) 9 (.string ⟨s.toArray⟩); rw [World.size_alloc] at this; exact (this.alloc _).alloc _
    have hp0 : Boxed W0 (w.heap.size + 2) 9 (.string ⟨#[47]⟩) := by rw [← hW0]; have := Boxed.new ((w.alloc (.cells #[.bool false] 4)).alloc (.cells #[.string ⟨s.toArray⟩] 9)) 9 (.string ⟨#[47]⟩); simp only [World.size_alloc] at this; exact this.alloc _
    have hv0 : Boxed W0 (w.heap.size + 3) 3 (.int .i64 0) := by rw [← hW0]; have := Boxed.new (((w.alloc (.cells #[.bool false] 4)).alloc (.cells #[.string ⟨s.toArray⟩] 9)).alloc (.cells #[.string ⟨#[47]⟩] 9)) 3 (.int .i64 0); simp only [World.size_alloc] at this; exact this
    have hbl : Below w.heap.size w W0 := by rw [← hW0]; exact ((((Below.refl _ w).alloc (Nat.le_refl _) _).alloc (by simp) _).alloc (by simp; omega) _).alloc (by simp; omega) _
    simp only [hW0]
    refine wpIn_rangeFunc_cell rfl (by omega) (gf := 147) (lb := #[.pointer (some ⟨w.heap.size + 2, 0, none⟩), .pointer (some ⟨w.heap.size + 1, 0, none⟩), .pointer (some ⟨w.heap.size + 3, 0, none⟩)]) rfl trivial (enters_of Tryd.func147 (by kernel_rfl) rfl)
      (encs := fun x : List UInt8 => #[.string ⟨x.toArray⟩]) (w.heap.size + 1) (fun x => x.length < 1000) (S := fun xs => xs = cutAt 47 s) (Sp := fun pre => pre <+: cutAt 47 s)
      (fun l J Jx W hW hS hY h0 => iter_in l (w.heap.size + 2) (w.heap.size + 1) (w.heap.size + 3) W0.heap.size s J Jx W (by omega) (by omega) (by omega) (by omega) (by omega)
        ((hW.block _ (by omega)).trans hp0) ((hW.block _ (by omega)).trans hs0) ((hW.block _ (by omega)).trans hv0) hl hS hY h0)
      (fun _ => rfl)
      (fun pre W => (∀ p ∈ pre, libPart p = true) ∧ Boxed W w.heap.size 4 (.bool false) ∧ Below w.heap.size w W)
      (fun c pre W => c = .ret ∧ (∃ p ∈ pre, libPart p = false) ∧ Boxed W w.heap.size 4 (.bool false) ∧ Below w.heap.size w W)
      (fun q A B row hs hg hr => ⟨hs.1, hs.2.1.kept hg (fun e => by have := (hr _ e.symm).1; omega), ownFrom_below (β := Unit) (Nat.le_refl _) (by omega) () A B row hs.2.2 hg hr⟩)
      (fun pre W v hs => ⟨hs.1, (Below.heap_setCell _ _ _ _ (by simp)).trans hs.2.1, hs.2.2.setCell (by simp) v⟩)
      (fun c q A B row hs hg hr => ⟨hs.1, hs.2.1, hs.2.2.1.kept hg (fun e => by have := (hr _ e.symm).1; omega), ownFrom_below (β := Unit) (Nat.le_refl _) (by omega) () A B row hs.2.2.2 hg hr⟩)
      ⟨by simp, hb0, hbl⟩
      (fun x => { tmps := #[.string ⟨s.toArray⟩, undef, .pointer (some ⟨w.heap.size, 0, none⟩), .string ⟨x.toArray⟩, undef, .string ⟨s.toArray⟩, .int .i64 s.length, .bool (decide (60 < (s.length : Int))), .string ⟨s.toArray⟩, .func (.func 147) #[] #[.pointer (some ⟨w.heap.size + 2, 0, none⟩), .pointer (some ⟨w.heap.size + 1, 0, none⟩), .pointer (some ⟨w.heap.size + 3, 0, none⟩)], .string ⟨x.toArray⟩, undef, undef, undef, undef, undef, undef, undef, undef, undef, undef, undef, undef, undef, undef, undef, undef, undef, undef, undef, undef, undef], defers := [] }) ?assign ?body ?done ?stop
    case assign =>
      intro l x W K hK
      gi_wp2
      exact hK
    case body =>
      rintro l pre x W hxl ⟨hpre, hb, hbW⟩
      have cb := hb.cell
      have fb := hb.frozen
      have f46' : (Fence.wide.inRound l).fn 124 := trivial
      gi_wp2
      · rename_i hx
        exact bad_post hb hbW (by simp [libPart, hx])
      · rename_i hx
        exact bad_post hb hbW (by simp [libPart, hx])
      · rename_i h0 h1 hx
        refine bad_post hb hbW ?_
        have hx2 : x = [46, 46] := by simpa [h0, h1] using hx
        simp [libPart, hx2]
      · rename_i h0 h1 hx
        have hx2 : x ≠ [46, 46] := by simpa using hx.2
        have e0 : x.isEmpty = false := hx.1.1
        have e1 : (x == [46]) = false := hx.1.2
        have e2 : (x == [46, 46]) = false := hx.2
        simp only [e0, e1, e2, Bool.or_false]
        gi_loopw [4, 23] (fun _ i wr => ∃ k : Nat, wr = W ∧ i = .int .i64 k ∧ k ≤ x.length ∧ (x.take k).all libLetter = true) (fun _ i _ => x.length - (intOf i).toNat)
        case atStart => exact ⟨0, rfl, rfl, Nat.zero_le _, by simp⟩
        case round =>
          obtain ⟨k, rfl, rfl, hk, hall⟩ := hrel
          by_cases hkl : k < x.length
          · have hgi : x[k]? = some x[k] := List.getElem?_eq_getElem hkl
            have hlt := CallsIn.inRound (F := Fence.wide) (n := 4) l (callsIn_wide.2 (callsIn_wide.1 (letter_in (({ data := x.toArray } : ByteArray)[k]'hkl).toNat wr)))
            have hgk : (({ data := x.toArray } : ByteArray)[k]'hkl) = x[k] := rfl
            gi_wp2
            refine hlt.mono ?_
            rintro e w' ⟨rfl, rfl⟩
            gi_wp2
            · rename_i hbad
              refine bad_post hb hbW ?_
              have hf : libLetter x[k] = false := by simpa [libLetter] using hbad
              have : x.all libLetter = false := by
                rw [List.all_eq_false]
                exact ⟨x[k], List.getElem_mem hkl, by simp [hf]⟩
              simp [libPart, this]
            · rename_i hgood
              have hf : libLetter x[k] = true := by simpa [libLetter] using hgood
              have hall2 : (x.take (k + 1)).all libLetter = true := by
                rw [List.take_add_one, hgi, List.all_append, hall]
                simp [hf]
              go_roundw
              case rel => first | exact ⟨k + 1, trivial, rfl, hkl, hall2⟩ | exact ⟨k + 1, rfl, rfl, hkl, hall2⟩ | (refine ⟨k + 1, ?_, ?_, hkl, hall2⟩ <;> simp)
              case measure => simp [intOf]; omega
          · gi_wp2
            have : k = x.length := by omega
            subst this
            rw [List.take_length] at hall
            refine ⟨KeepsOthers.refl _, Below.refl _ _, ?_, hb, hbW⟩
            intro p hp
            rcases List.mem_append.1 hp with h | h
            · exact hpre p h
            · simp at h
              subst h
              simp [libPart, h0, h1, hx2]
              simpa using hall
    case done =>
      rintro D xs W rfl ⟨hpre, hb, hbW⟩ hD hK
      have cb := hb.cell
      have fb := hb.frozen
      gi_wp2
      have hb4 := hb.set (.bool true)
      have hK4 := (KeepsOthers.setCell W ⟨w.heap.size, 0, none⟩ (.bool true)).same D _ hK rfl
      refine ⟨by simp, .inl ⟨_, _, rfl, run_takeDeferred hK4, ?_⟩⟩
      have hb5 : Boxed ((W.setCell ⟨w.heap.size, 0, none⟩ (.bool true)).putObj D (.deferred none)) w.heap.size 4 (.bool true) := hb4.kept (grownBy_putObj' _ D _) (by rintro e; cases e; omega)
      have hc5 := hb5.cell
      refine ⟨.bool true, ?_, ?_, ?_⟩
      · simp [results, Tryd.f110, go_sem, hc5]
      · simp [libValidPath, h60]; exact hpre
      · exact (hbW.setCell (Nat.le_refl _) _).trans ((Below.refl _ _).grown (grownBy_putObj' _ D _) (by simp; have := (Array.getElem?_eq_some_iff.1 hK).1; omega) (fun k e => by cases e; omega))
    case stop =>
      rintro D c pre W hpre ⟨rfl, ⟨p, hp, hpb⟩, hb, hbW⟩ hD hK
      gi_wp2
      refine ⟨by simp, .inl ⟨_, _, rfl, run_takeDeferred hK, ?_⟩⟩
      have hb5 : Boxed (W.putObj D (.deferred none)) w.heap.size 4 (.bool false) := hb.kept (grownBy_putObj' _ D _) (by rintro e; cases e; omega)
      have hc5 := hb5.cell
      refine ⟨.bool false, ?_, ?_, ?_⟩
      · simp [results, Tryd.f110, go_sem, hc5]
      · have : (cutAt 47 s).all libPart = false := by
          rw [List.all_eq_false]
          exact ⟨p, hpre.subset hp, by simp [hpb]⟩
        simp [libValidPath, this]
      · exact hbW.trans ((Below.refl _ _).grown (grownBy_putObj' _ D _) (by have := (Array.getElem?_eq_some_iff.1 hK).1; omega) (fun k e => by cases e; omega))
  · gi_wp2
    have hc : (w.alloc (.cells #[.bool false] 4)).cell? ⟨w.heap.size, 0, none⟩ = some (.bool false) := (Boxed.new w _ _).cell
    refine ⟨.bool false, ?_, ?_, ?_⟩
    · simp [results, Tryd.f110, go_sem, hc]
    · simp [libValidPath, h60]
    · exact (Below.refl _ w).alloc (Nat.le_refl _) _
theorem k_ValidPath (s : List UInt8) : PSpec Tryd.prog 110 [.str s] (.bool (libValidPath s)) := PSpec.ofStrB fun w => callsIn_wide.1 (vp_in s w)
theorem k_Compare (a b : List UInt8) : PSpec Tryd.prog 87 [.str a, .str b] (.int .i64 (libCompare a b)) := PSpec.ofStr2 fun w => Any.strings_Compare Tryd.lays106 ⟨a.toArray⟩ ⟨b.toArray⟩ w
theorem k_IndexByte (a : List UInt8) (c : Int) : PSpec Tryd.prog 118 [.str a, .int .u8 c] (.int .i64 (libIndexByte a c)) := PSpec.ofStrInt fun w => Any.strings_IndexByte Tryd.lays137 ⟨a.toArray⟩ c w
def encBom (x : SPathDigest) : List Value := [.string ⟨x.Path.toArray⟩, .int .i64 x.Digest]
set_option maxRecDepth 100000 in
set_option maxHeartbeats 1000000 in
theorem cmp_closure (x y : SPathDigest) (W : World) : Calls Tryd.prog 86 #[.agg #[.string ⟨x.Path.toArray⟩, .int .i64 x.Digest], .agg #[.string ⟨y.Path.toArray⟩, .int .i64 y.Digest]] W fun e w' => e = .returned (.int .i64 (libCompare x.Path y.Path)) ∧ ∃ q os', w' = Sort.grow (W.drewN q) os' := by
  have hcon := fun W' => Any.strings_Compare Tryd.lays106 ⟨x.Path.toArray⟩ ⟨y.Path.toArray⟩ W'
  change ∀ W', Calls Tryd.prog 87 _ _ _ at hcon
  unfold libCompare
  generalize Lib.compareBytes x.Path y.Path = r at hcon ⊢
  go_enter Tryd.func86, Tryd.ntmps86
  go_wp2_with (go_at_call 87; refine (hcon _).mono ?_; rintro e w' ⟨rfl, rfl⟩)
  go_ret
  exact ⟨rfl, 0, _, by rw [Sort.alloc_eq_grow, Sort.alloc_eq_grow, Sort.grow_grow]; rfl⟩
theorem k_SortPath (l : List SPathDigest) : PMut Tryd.prog 85 [.own 1 0, .fn 86 [] []] [(1, ⟨0, 117, 2, List.map SPathDigest.cells l, true, false, false⟩)] (.tup []) [(1, ⟨0, 117, 2, List.map SPathDigest.cells (sortPath l), true, false, false⟩)] := by
  have hp : Plainly SPathDigest.cells encBom 2 := plainly_strInt (·.Path) (·.Digest) (fun _ => rfl) (fun _ => rfl)
  refine PMut.sortK hp (fun x hx => ((sortTie_perm cmpPath_ok l).mem_iff).1 hx) (sortPath_length l) (fun blk off cap w hH hb hs => ?_) (fun w => ?_)
  · have eg : ∀ args w, (callFunc 86 args).run Tryd.prog w = .ok (.enter 86 args) w := enters_of Tryd.func86 (by kernel_rfl) rfl
    have h := AnyQ.slices_SortFunc_eq Tryd.sortF 2 Tryd.isAgg117 Tryd.sizeOf117 encBom hp.len (fun x v hv => by simp [encBom] at hv; rcases hv with rfl | rfl <;> rfl) (fun x y : SPathDigest => libCompare x.Path y.Path) cmpPath_ok.swo 86 #[] blk off cap l.toArray w eg (fun _ _ _ _ x y => cmp_closure x y _) hH hb (by simpa using hs)
    have e2 : (sortPath l).toArray = Sort.pdq (fun x y : SPathDigest => decide (libCompare x.Path y.Path < 0)) l.toArray 0 l.length (Lib.bitLen l.length) true true := by
      unfold sortPath
      rw [sortTie_eq cmpPath_ok]
    rw [e2]
    exact h
  · exact (AnyF.slices_SortFunc_none Tryd.sortF none 0 _ w).mono fun _ _ ⟨h1, h2⟩ => ⟨h1, h2 ▸ World.grownBy.refl w none⟩
theorem k_GrowBom (n : Int) (u : Unit) (hn : ggrow 24 n = some u) : PMut Tryd.prog 114 [.nils, .int .i64 n] [] (.own 70000 0) [(70000, ⟨0, 117, 2, [], true, false, false⟩)] := by
  obtain ⟨h0, hb⟩ := ggrow_some hn
  obtain ⟨k, rfl⟩ : ∃ k : Nat, n = k := ⟨n.toNat, by omega⟩
  have hb' : k * 24 ≤ 140737488355328 := hb
  refine PMut.ofGrow fun w => ?_
  by_cases hk : k = 0
  · subst hk
    refine (Any8.slices_Grow_room Tryd.growBom none 0 0 0 w (by omega) (by omega) (by omega) (by omega)).mono ?_
    rintro r w' ⟨rfl, rfl⟩
    exact ⟨_, rfl, World.grownBy.refl _ _, ⟨rfl, .inl ⟨rfl, rfl⟩⟩, fun b hb => by simp [Value.ownBlock] at hb⟩
  · obtain ⟨i0, hi0, hz0, hzs, hzb⟩ := info_parts (P := Tryd.prog) (e := 117) (z := .agg #[.string ⟨#[]⟩, .int .i64 0]) (size := 2) (bytes := 24) (by kernel_rfl)
    refine (Any8.slices_Grow_grow Tryd.growBom i0 _ hi0 hz0 (by omega) none 0 0 k [] w (by omega) (by omega) (by rw [hzb]; omega) (by omega) (by simp) (fun _ => rfl) (fun a h => by cases h)).mono ?_
    rintro r w' ⟨rfl, rfl⟩
    have hm : grownCap w (0 + k) 0 117 ≤ maxLen := grownCap_le_maxLen w (0 + k) 0 117 (by unfold maxLen; omega)
    have hge := grownCap_ge w (0 + k) 0 117
    refine ⟨_, rfl, grownBy_drew_alloc w _, ⟨by simp, .inr ⟨w.heap.size, _, _, rfl, Nat.zero_le _, World.alloc_heap_new w.drew _, Nat.zero_le _, hm, ?_, by simp⟩⟩, fun b hb => by simp [Value.ownBlock] at hb; omega⟩
    show (([] : List Value).toArray ++ Builtin.zeroCells (Value.agg #[.string ⟨#[]⟩, .int .i64 0]).cells (0 + k - 0) ++ Builtin.zeroCells (Value.agg #[.string ⟨#[]⟩, .int .i64 0]).cells (grownCap w (0 + k) 0 117 - (0 + k))).size = grownCap w (0 + k) 0 117 * 2
    generalize grownCap w (0 + k) 0 117 = G at hge ⊢
    simp [Builtin.zeroCells, Value.cells]
    omega
end Go.Proofs.YtlkknmhhefjmjaaDoor
