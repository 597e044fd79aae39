/- Contracts of the library's functions, over this program. -/
import Derived.Test.YtadeoaglhaaimaaDoorC
import Derived.Test.YtadeoaglhaaimaaDoorPwSplit
import Derived.Test.YtadeoaglhaaimaaDoorPwSort
import Derived.Shelf.Sort.Plain
import Derived.Shelf.Small.Strs
import Derived.Shelf.Strings.Search3
import Derived.Shelf.Abstract
import Derived.WalkKit
import Derived.OwnWalkIn
import Derived.TacticsInMore
import Derived.LoopNIn
import Derived.LoopIn
import Derived.KernelRfl
import Derived.RangeFuncCalls
namespace Go.Proofs.YtadeoaglhaaimaaDoor
open Go.Shelf Go.RowKit Go.PW
attribute [local go_sem] Oper.semAt_some
def Tryd.lays106_ren : Go.Shelf.Ren := ⟨fun | 106 => 80 | 213 => 94 | 265 => 100 | n => n, fun | 9 => 9 | 3 => 3 | n => n, fun | n => n⟩
theorem Tryd.lays106 : Go.Proofs.Lays.n106 Tryd.prog Tryd.lays106_ren where
  mixed := by kernel_rfl
  f106 := Tryd.func80.trans (congrArg some (by kernel_rfl))
  f213 := Tryd.func94.trans (congrArg some (by kernel_rfl))
  f265 := Tryd.func100.trans (congrArg some (by kernel_rfl))
  t3 := Tryd.underlying3
  a3 := Tryd.isAgg3
  z3 := Tryd.sizeOf3
  v3 := Tryd.zeroValue3
  t9 := Tryd.underlying9
  a9 := Tryd.isAgg9
  z9 := Tryd.sizeOf9
  v9 := Tryd.zeroValue9
def Tryd.lays137_ren : Go.Shelf.Ren := ⟨fun | 137 => 62 | 217 => 84 | 266 => 97 | n => n, fun | 9 => 9 | 5 => 5 | 3 => 3 | n => n, fun | n => n⟩
theorem Tryd.lays137 : Go.Proofs.Lays.n137 Tryd.prog Tryd.lays137_ren where
  mixed := by kernel_rfl
  f137 := Tryd.func62.trans (congrArg some (by kernel_rfl))
  f217 := Tryd.func84.trans (congrArg some (by kernel_rfl))
  f266 := Tryd.func97.trans (congrArg some (by kernel_rfl))
  t3 := Tryd.underlying3
  a3 := Tryd.isAgg3
  z3 := Tryd.sizeOf3
  v3 := Tryd.zeroValue3
  t5 := Tryd.underlying5
  a5 := Tryd.isAgg5
  z5 := Tryd.sizeOf5
  v5 := Tryd.zeroValue5
  t9 := Tryd.underlying9
  a9 := Tryd.isAgg9
  z9 := Tryd.sizeOf9
  v9 := Tryd.zeroValue9
def Tryd.lays143_ren : Go.Shelf.Ren := ⟨fun | 143 => 83 | 219 => 96 | 217 => 84 | 225 => 101 | 224 => 102 | 267 => 103 | 266 => 97 | 314 => 105 | n => n, fun | 9 => 9 | 3 => 3 | 4 => 4 | 5 => 5 | 46 => 74 | 146 => 118 | 51 => 94 | n => n, fun | 1 => 0 | n => n⟩
theorem Tryd.lays143 : Go.Proofs.Lays.n143 Tryd.prog Tryd.lays143_ren where
  mixed := by kernel_rfl
  f143 := Tryd.func83.trans (congrArg some (by kernel_rfl))
  f217 := Tryd.func84.trans (congrArg some (by kernel_rfl))
  f219 := Tryd.func96.trans (congrArg some (by kernel_rfl))
  f224 := Tryd.func102.trans (congrArg some (by kernel_rfl))
  f225 := Tryd.func101.trans (congrArg some (by kernel_rfl))
  f266 := Tryd.func97.trans (congrArg some (by kernel_rfl))
  f267 := Tryd.func103.trans (congrArg some (by kernel_rfl))
  f314 := Tryd.func105.trans (congrArg some (by kernel_rfl))
  t3 := Tryd.underlying3
  a3 := Tryd.isAgg3
  z3 := Tryd.sizeOf3
  v3 := Tryd.zeroValue3
  t4 := Tryd.underlying4
  a4 := Tryd.isAgg4
  z4 := Tryd.sizeOf4
  v4 := Tryd.zeroValue4
  t5 := Tryd.underlying5
  a5 := Tryd.isAgg5
  z5 := Tryd.sizeOf5
  v5 := Tryd.zeroValue5
  t9 := Tryd.underlying9
  a9 := Tryd.isAgg9
  z9 := Tryd.sizeOf9
  v9 := Tryd.zeroValue9
  t46 := Tryd.underlying74
  a46 := Tryd.isAgg74
  z46 := Tryd.sizeOf74
  v46 := Tryd.zeroValue74
  t51 := Tryd.underlying94
  a51 := Tryd.isAgg94
  z51 := Tryd.sizeOf94
  v51 := Tryd.zeroValue94
  t146 := Tryd.underlying118
  a146 := Tryd.isAgg118
  z146 := Tryd.sizeOf118
  v146 := Tryd.zeroValue118
  g1 := by kernel_rfl
def Tryd.lays190_ren : Go.Shelf.Ren := ⟨fun | 190 => 32 | 125 => 49 | 258 => 48 | 128 => 72 | 129 => 73 | 302 => 63 | 303 => 64 | 304 => 65 | 305 => 66 | 306 => 67 | 307 => 68 | 308 => 69 | 309 => 70 | 310 => 71 | 333 => 85 | 329 => 86 | 330 => 87 | 334 => 88 | 335 => 89 | 336 => 90 | 344 => 98 | n => n, fun | 31 => 22 | 9 => 9 | 3 => 3 | 46 => 74 | 0 => 0 | 51 => 94 | 53 => 96 | 4 => 4 | 183 => 87 | 182 => 86 | 131 => 80 | 5 => 5 | 218 => 102 | 222 => 106 | 228 => 110 | 229 => 111 | n => n, fun | n => n⟩
theorem Tryd.lays190 : Go.Proofs.Lays.n190 Tryd.prog Tryd.lays190_ren where
  mixed := by kernel_rfl
  f125 := Tryd.func49.trans (congrArg some (by kernel_rfl))
  f128 := Tryd.func72.trans (congrArg some (by kernel_rfl))
  f129 := Tryd.func73.trans (congrArg some (by kernel_rfl))
  f190 := Tryd.func32.trans (congrArg some (by kernel_rfl))
  f258 := Tryd.func48.trans (congrArg some (by kernel_rfl))
  f302 := Tryd.func63.trans (congrArg some (by kernel_rfl))
  f303 := Tryd.func64.trans (congrArg some (by kernel_rfl))
  f304 := Tryd.func65.trans (congrArg some (by kernel_rfl))
  f305 := Tryd.func66.trans (congrArg some (by kernel_rfl))
  f306 := Tryd.func67.trans (congrArg some (by kernel_rfl))
  f307 := Tryd.func68.trans (congrArg some (by kernel_rfl))
  f308 := Tryd.func69.trans (congrArg some (by kernel_rfl))
  f309 := Tryd.func70.trans (congrArg some (by kernel_rfl))
  f310 := Tryd.func71.trans (congrArg some (by kernel_rfl))
  f329 := Tryd.func86.trans (congrArg some (by kernel_rfl))
  f330 := Tryd.func87.trans (congrArg some (by kernel_rfl))
  f333 := Tryd.func85.trans (congrArg some (by kernel_rfl))
  f334 := Tryd.func88.trans (congrArg some (by kernel_rfl))
  f335 := Tryd.func89.trans (congrArg some (by kernel_rfl))
  f336 := Tryd.func90.trans (congrArg some (by kernel_rfl))
  f344 := Tryd.func98.trans (congrArg some (by kernel_rfl))
  t0 := Tryd.underlying0
  a0 := Tryd.isAgg0
  z0 := Tryd.sizeOf0
  v0 := Tryd.zeroValue0
  t3 := Tryd.underlying3
  a3 := Tryd.isAgg3
  z3 := Tryd.sizeOf3
  v3 := Tryd.zeroValue3
  t4 := Tryd.underlying4
  a4 := Tryd.isAgg4
  z4 := Tryd.sizeOf4
  v4 := Tryd.zeroValue4
  t5 := Tryd.underlying5
  a5 := Tryd.isAgg5
  z5 := Tryd.sizeOf5
  v5 := Tryd.zeroValue5
  t9 := Tryd.underlying9
  a9 := Tryd.isAgg9
  z9 := Tryd.sizeOf9
  v9 := Tryd.zeroValue9
  t31 := Tryd.underlying22
  a31 := Tryd.isAgg22
  z31 := Tryd.sizeOf22
  v31 := Tryd.zeroValue22
  t46 := Tryd.underlying74
  a46 := Tryd.isAgg74
  z46 := Tryd.sizeOf74
  v46 := Tryd.zeroValue74
  t51 := Tryd.underlying94
  a51 := Tryd.isAgg94
  z51 := Tryd.sizeOf94
  v51 := Tryd.zeroValue94
  t53 := Tryd.underlying96
  a53 := Tryd.isAgg96
  z53 := Tryd.sizeOf96
  v53 := Tryd.zeroValue96
  t131 := Tryd.underlying80
  a131 := Tryd.isAgg80
  z131 := Tryd.sizeOf80
  v131 := Tryd.zeroValue80
  t182 := Tryd.underlying86
  a182 := Tryd.isAgg86
  z182 := Tryd.sizeOf86
  v182 := Tryd.zeroValue86
  t183 := Tryd.underlying87
  a183 := Tryd.isAgg87
  z183 := Tryd.sizeOf87
  v183 := Tryd.zeroValue87
  t218 := Tryd.underlying102
  a218 := Tryd.isAgg102
  z218 := Tryd.sizeOf102
  v218 := Tryd.zeroValue102
  t222 := Tryd.underlying106
  a222 := Tryd.isAgg106
  z222 := Tryd.sizeOf106
  v222 := Tryd.zeroValue106
  t228 := Tryd.underlying110
  a228 := Tryd.isAgg110
  z228 := Tryd.sizeOf110
  v228 := Tryd.zeroValue110
  t229 := Tryd.underlying111
  a229 := Tryd.isAgg111
  z229 := Tryd.sizeOf111
  v229 := Tryd.zeroValue111

theorem index1 (s : List UInt8) (c : UInt8) (w : World) : Calls Tryd.prog 83 #[.string ⟨s.toArray⟩, .string ⟨#[c]⟩] w fun e w' => e = .returned (.int .i64 (Lib.indexByte s c)) ∧ w' = w := Any.strings_Index_one Tryd.lays143 ⟨s.toArray⟩ c w

set_option maxRecDepth 100000 in
set_option maxHeartbeats 1000000 in
theorem letter_in (c : Int) (w : World) : CallsIn Fence.wide 5 Tryd.prog 46 #[.int .u8 c] w fun e w' => e = .returned (.bool (libLetterI c)) ∧ w' = w := by
  refine callsIn_of_wp Tryd.func46 rfl trivial ?_ rfl
  simp only [Tryd.ntmps46, List.size_toArray, List.length_cons, List.length_nil, Nat.reduceAdd, Nat.reduceSub, Array.replicate_succ, Array.replicate_zero, List.push_toArray, List.append_toArray, List.nil_append, List.cons_append]
  gi_wp2
  all_goals (go_ret; refine ⟨?_, rfl⟩; refine congrArg (fun b => Ending.returned (Value.bool b)) ?_; first | rfl | (rw [Bool.eq_iff_iff]; simp [libLetterI]; omega) | (symm; simp [libLetterI]; omega) | (simp [libLetterI, *]; done))

set_option maxRecDepth 100000 in
set_option maxHeartbeats 1000000 in
theorem splitSeq0_in (s sep : ByteArray) (w : World) : CallsIn Fence.wide 4 Tryd.prog 61 #[.string s, .string sep, .int .i64 0] w fun e w' => e = .returned (.func (.func 81) #[] #[.pointer (some ⟨w.heap.size + 1, 0, none⟩), .pointer (some ⟨w.heap.size, 0, none⟩), .pointer (some ⟨w.heap.size + 2, 0, none⟩)]) ∧
    w' = ((w.alloc (.cells #[.string s] 9)).alloc (.cells #[.string sep] 9)).alloc (.cells #[.int .i64 0] 3) := by
  refine callsIn_of_wp Tryd.func61 rfl trivial ?_ rfl
  simp only [Tryd.ntmps61, List.size_toArray, List.length_cons, List.length_nil, Nat.reduceAdd, Nat.reduceSub, Array.replicate_succ, Array.replicate_zero, List.push_toArray, List.append_toArray, List.nil_append, List.cons_append]
  gi_wp2
  go_ret
  exact ⟨rfl, rfl⟩

set_option maxRecDepth 100000 in
set_option maxHeartbeats 1000000 in
theorem splitSeq_in (s sep : ByteArray) (w : World) : CallsIn Fence.wide 5 Tryd.prog 45 #[.string s, .string sep] w fun e w' => e = .returned (.func (.func 81) #[] #[.pointer (some ⟨w.heap.size + 1, 0, none⟩), .pointer (some ⟨w.heap.size, 0, none⟩), .pointer (some ⟨w.heap.size + 2, 0, none⟩)]) ∧
    w' = ((w.alloc (.cells #[.string s] 9)).alloc (.cells #[.string sep] 9)).alloc (.cells #[.int .i64 0] 3) := by
  refine callsIn_of_wp Tryd.func45 rfl trivial ?_ rfl
  simp only [Tryd.ntmps45, List.size_toArray, List.length_cons, List.length_nil, Nat.reduceAdd, Nat.reduceSub, Array.replicate_succ, Array.replicate_zero, List.push_toArray, List.append_toArray, List.nil_append, List.cons_append]
  have f61 : Fence.wide.fn 61 := trivial
  gi_wp2_with (gi_at_call 61; refine (splitSeq0_in _ _ _).mono ?_; rintro e w' ⟨rfl, rfl⟩)
  go_ret
  exact ⟨rfl, rfl⟩

set_option maxRecDepth 100000 in
set_option maxHeartbeats 1000000 in
theorem iter_in (l Bp Bs Bv n₀ : Nat) (s : List UInt8) (J Jx : List (List UInt8) → World → Prop) (W : World) (h1 : Bp < n₀) (h2 : Bs < n₀) (h3 : Bv < n₀) (h12 : Bp ≠ Bs) (h23 : Bv ≠ Bs)
    (hp : Boxed W Bp 9 (.string ⟨#[47]⟩)) (hs : Boxed W Bs 9 (.string ⟨s.toArray⟩)) (hv : Boxed W Bv 3 (.int .i64 0)) (hl : s.length < 1000)
    (hS : ∀ pre W v, J pre W → J pre (W.setCell ⟨Bs, 0, none⟩ v))
    (hY : ∀ pre x W1, x.length < 1000 → J pre W1 → YieldAt Fence.wide 5 Tryd.prog l #[.string ⟨x.toArray⟩] W1 fun e W' => (e = .returned (.bool true) ∧ J (pre ++ [x]) W' ∧ Below n₀ W1 W') ∨ (e = .returned (.bool false) ∧ Jx (pre ++ [x]) W'))
    (h0 : J [] W) :
    CallsIn Fence.wide 6 Tryd.prog 81 #[.func (.yield l) #[] #[], .pointer (some ⟨Bp, 0, none⟩), .pointer (some ⟨Bs, 0, none⟩), .pointer (some ⟨Bv, 0, none⟩)] W fun e W' => (∃ v, e = .returned v) ∧
      ((∃ xs, xs = cutAt 47 s ∧ J xs W') ∨ (∃ pre, pre <+: cutAt 47 s ∧ Jx pre W')) := by
  refine callsIn_of_wp Tryd.func81 rfl trivial ?_ rfl
  simp only [Tryd.ntmps81, List.size_toArray, List.length_cons, List.length_nil, Nat.reduceAdd, Nat.reduceSub, Array.replicate_succ, Array.replicate_zero, List.push_toArray, List.append_toArray, List.nil_append, List.cons_append]
  have f83 : Fence.wide.fn 83 := trivial
  have cp := hp.cell
  have cs := hs.cell
  have cv := hv.cell
  gi_wp2
  gi_loopw [7] (fun _ wr => ∃ (pre : List (List UInt8)) (r : List UInt8), cutAt 47 s = pre ++ cutAt 47 r ∧ r.length < 1000 ∧ Boxed wr Bp 9 (.string ⟨#[47]⟩) ∧ Boxed wr Bs 9 (.string ⟨r.toArray⟩) ∧ Boxed wr Bv 3 (.int .i64 0) ∧ J pre wr)
    (fun _ wr => match wr.cell? ⟨Bs, 0, none⟩ with | some (.string x) => x.size | _ => 0)
  case atStart =>
    exact ⟨[], s, by simp, hl, hp, hs, hv, h0⟩
  case round =>
    clear hp hs hv cp cs cv
    obtain ⟨pre, r, hr, hrl, hp, hs, hv, hJ⟩ := hrel
    have cp := hp.cell
    have cs := hs.cell
    have cv := hv.cell
    have hge := Lib.indexByte_ge r 47
    by_cases hneg : Lib.indexByte r 47 < 0
    · obtain ⟨fn, tmps, assign, body, hy, hR⟩ := hY pre r wr hrl hJ
      gi_wp2_with (gi_at_call 83; refine (callsIn_wide.2 (index1 r 47 _)).mono ?_; rintro e w' ⟨rfl, rfl⟩)
      refine hR.mono ?_
      rw [cutAt_none hneg] at hr
      rintro e W3 (⟨rfl, hJ3, hk3⟩ | ⟨rfl, hJx3⟩)
      · gi_wp2
        go_end0
        exact ⟨⟨_, rfl⟩, .inl ⟨_, hr ▸ rfl, hJ3⟩⟩
      · gi_wp2
        go_end0
        exact ⟨⟨_, rfl⟩, .inr ⟨_, hr ▸ List.prefix_refl _, hJx3⟩⟩
    · obtain ⟨i, hi⟩ : ∃ i : Nat, Lib.indexByte r 47 = i := ⟨(Lib.indexByte r 47).toNat, by omega⟩
      have ix := index1 r 47 wr
      rw [hi] at ix
      obtain ⟨hil, hc⟩ := cutAt_some hi
      obtain ⟨fn, tmps, assign, body, hy, hR⟩ := hY pre (r.take i) wr (by simp; omega) hJ
      rw [← extract_take] at hy
      gi_wp2_with (gi_at_call 83; refine (callsIn_wide.2 ix).mono ?_; rintro e w' ⟨rfl, rfl⟩)
      refine hR.mono ?_
      rintro e W3 (⟨rfl, hJ3, hk3⟩ | ⟨rfl, hJx3⟩)
      · have hp3 : Boxed W3 Bp 9 (.string ⟨#[47]⟩) := (hk3.block Bp h1).trans hp
        have hs3 : Boxed W3 Bs 9 (.string ⟨r.toArray⟩) := (hk3.block Bs h2).trans hs
        have hv3 : Boxed W3 Bv 3 (.int .i64 0) := (hk3.block Bv h3).trans hv
        have cp3 := hp3.cell
        have cs3 := hs3.cell
        have cv3 := hv3.cell
        have fs3 := hs3.frozen
        gi_wp2
        rw [extract_drop]
        refine ⟨⟨pre ++ [r.take i], r.drop (i + 1), by rw [hr, hc]; simp, by simp; omega, ?_, hs3.set _, ?_, hS _ _ _ hJ3⟩, ?_⟩
        · exact (Below.heap_setCell _ _ _ _ (by simpa using h12)).trans hp3
        · exact (Below.heap_setCell _ _ _ _ (by simpa using h23)).trans hv3
        · rw [(hs3.set _).cell, cs]
          simp [ByteArray.size]
          omega
      · gi_wp2
        refine bodyPost_ret (results_none rfl _ _ _) rfl ?_
        exact ⟨⟨_, rfl⟩, .inr ⟨_, ⟨cutAt 47 (r.drop (i + 1)), by rw [hr, hc]; simp⟩, hJx3⟩⟩

theorem bad_post {B n : Nat} {w W : World} {I : List (List UInt8) → World → Prop} {pre : List (List UInt8)} {x : List UInt8} {a : Act} (hb : Boxed W n 4 (.bool false)) (hbW : Below n w W) (h : libPart x = false) :
    ownPostK (Below B) I (fun c pre W => c = Code.ret ∧ (∃ p ∈ pre, libPart p = false) ∧ Boxed W n 4 (.bool false) ∧ Below n w W) (pre ++ [x]) W Exit.ret a (W.setCell ⟨n, 0, none⟩ (.bool false)) :=
  ⟨KeepsOthers.setCell _ _ _, rfl, ⟨x, by simp, h⟩, hb.set _, hbW.setCell (Nat.le_refl _) _⟩

set_option maxRecDepth 100000 in
set_option maxHeartbeats 1000000 in
theorem vp_in (s : List UInt8) (w : World) : CallsIn Fence.wide 7 Tryd.prog 30 #[.string ⟨s.toArray⟩] w fun e w' => e = .returned (.bool (libValidPath s)) ∧ Below w.heap.size w w' := by
  have f45 : Fence.wide.fn 45 := trivial
  have f46 : Fence.wide.fn 46 := trivial
  refine callsIn_of_wp_marks Tryd.func30 rfl trivial ?_ rfl
  simp only [Tryd.ntmps30, List.size_toArray, List.length_cons, List.length_nil, Nat.reduceAdd, Nat.reduceSub, Array.replicate_succ, Array.replicate_zero, List.push_toArray, List.append_toArray, List.nil_append, List.cons_append]
  by_cases h60 : s.length ≤ 60
  · have hl : s.length < 1000 := by omega
    gi_wp2_with (gi_at_call 45; refine (callsIn_wide.2 (callsIn_wide.1 (splitSeq_in _ _ _))).mono ?_; rintro e w' ⟨rfl, rfl⟩)
    obtain ⟨W0, hW0⟩ : ∃ W0, (((w.alloc (.cells #[.bool false] 4)).alloc (.cells #[.string ⟨s.toArray⟩] 9)).alloc (.cells #[.string ⟨#[47]⟩] 9)).alloc (.cells #[.int .i64 0] 3) = W0 := ⟨_, rfl⟩
    have hsz : W0.heap.size = w.heap.size + 4 := by rw [← hW0]; simp
    have hb0 : Boxed W0 w.heap.size 4 (.bool false) := by rw [← hW0]; exact (((Boxed.new w _ _).alloc _).alloc _).alloc _
    have hs0 : Boxed W0 (w.heap.size + 1) 9 (.string ⟨s.toArray⟩) := by rw [← hW0]; have := Boxed.new (w.alloc (.cells #[.bool false] 4)) 9 (.string ⟨s.toArray⟩); rw [World.size_alloc] at this; exact (this.alloc _).alloc _
    have hp0 : Boxed W0 (w.heap.size + 2) 9 (.string ⟨#[47]⟩) := by rw [← hW0]; have := Boxed.new ((w.alloc (.cells #[.bool false] 4)).alloc (.cells #[.string ⟨s.toArray⟩] 9)) 9 (.string ⟨#[47]⟩); simp only [World.size_alloc] at this; exact this.alloc _
    have hv0 : Boxed W0 (w.heap.size + 3) 3 (.int .i64 0) := by rw [← hW0]; have := Boxed.new (((w.alloc (.cells #[.bool false] 4)).alloc (.cells #[.string ⟨s.toArray⟩] 9)).alloc (.cells #[.string ⟨#[47]⟩] 9)) 3 (.int .i64 0); simp only [World.size_alloc] at this; exact this
    have hbl : Below w.heap.size w W0 := by rw [← hW0]; exact ((((Below.refl _ w).alloc (Nat.le_refl _) _).alloc (by simp) _).alloc (by simp; omega) _).alloc (by simp; omega) _
    simp only [World.size_alloc, hW0]
    refine wpIn_rangeFunc_cell rfl (by omega) (gf := 81) (lb := #[.pointer (some ⟨w.heap.size + 2, 0, none⟩), .pointer (some ⟨w.heap.size + 1, 0, none⟩), .pointer (some ⟨w.heap.size + 3, 0, none⟩)]) rfl trivial (enters_of Tryd.func81 (by kernel_rfl) rfl)
      (encs := fun x : List UInt8 => #[.string ⟨x.toArray⟩]) (w.heap.size + 1) (fun x => x.length < 1000) (S := fun xs => xs = cutAt 47 s) (Sp := fun pre => pre <+: cutAt 47 s)
      (fun l J Jx W hW hS hY h0 => iter_in l (w.heap.size + 2) (w.heap.size + 1) (w.heap.size + 3) W0.heap.size s J Jx W (by omega) (by omega) (by omega) (by omega) (by omega)
        ((hW.block _ (by omega)).trans hp0) ((hW.block _ (by omega)).trans hs0) ((hW.block _ (by omega)).trans hv0) hl hS hY h0)
      (fun _ => rfl)
      (fun pre W => (∀ p ∈ pre, libPart p = true) ∧ Boxed W w.heap.size 4 (.bool false) ∧ Below w.heap.size w W)
      (fun c pre W => c = .ret ∧ (∃ p ∈ pre, libPart p = false) ∧ Boxed W w.heap.size 4 (.bool false) ∧ Below w.heap.size w W)
      (fun q A B row hs hg hr => ⟨hs.1, hs.2.1.kept hg (fun e => by have := (hr _ e.symm).1; omega), ownFrom_below (β := Unit) (Nat.le_refl _) (by omega) () A B row hs.2.2 hg hr⟩)
      (fun pre W v hs => ⟨hs.1, (Below.heap_setCell _ _ _ _ (by simp)).trans hs.2.1, hs.2.2.setCell (by simp) v⟩)
      (fun c q A B row hs hg hr => ⟨hs.1, hs.2.1, hs.2.2.1.kept hg (fun e => by have := (hr _ e.symm).1; omega), ownFrom_below (β := Unit) (Nat.le_refl _) (by omega) () A B row hs.2.2.2 hg hr⟩)
      ⟨by simp, hb0, hbl⟩
      (fun x => { tmps := #[.string ⟨s.toArray⟩, undef, .pointer (some ⟨w.heap.size, 0, none⟩), .string ⟨x.toArray⟩, undef, .string ⟨s.toArray⟩, .int .i64 s.length, .bool (decide (60 < (s.length : Int))), .string ⟨s.toArray⟩, .func (.func 81) #[] #[.pointer (some ⟨w.heap.size + 2, 0, none⟩), .pointer (some ⟨w.heap.size + 1, 0, none⟩), .pointer (some ⟨w.heap.size + 3, 0, none⟩)], .string ⟨x.toArray⟩, undef, undef, undef, undef, undef, undef, undef, undef, undef, undef, undef, undef, undef, undef, undef, undef, undef, undef, undef, undef, undef], defers := [] }) ?assign ?body ?done ?stop
    case assign =>
      intro l x W K hK
      gi_wp2
      exact hK
    case body =>
      rintro l pre x W hxl ⟨hpre, hb, hbW⟩
      have cb := hb.cell
      have fb := hb.frozen
      have f46' : (Fence.wide.inRound l).fn 46 := trivial
      gi_wp2
      · rename_i hx
        exact bad_post hb hbW (by simp [libPart, hx])
      · rename_i hx
        exact bad_post hb hbW (by simp [libPart, hx])
      · rename_i h0 h1 hx
        refine bad_post hb hbW ?_
        have hx2 : x = [46, 46] := by simpa [h0, h1] using hx
        simp [libPart, hx2]
      · rename_i h0 h1 hx
        have hx2 : x ≠ [46, 46] := by simpa using hx.2
        have e0 : x.isEmpty = false := hx.1.1
        have e1 : (x == [46]) = false := hx.1.2
        have e2 : (x == [46, 46]) = false := hx.2
        simp only [e0, e1, e2, Bool.or_false]
        gi_loopw [4, 23] (fun _ i wr => ∃ k : Nat, wr = W ∧ i = .int .i64 k ∧ k ≤ x.length ∧ (x.take k).all libLetter = true) (fun _ i _ => x.length - (intOf i).toNat)
        case atStart => exact ⟨0, rfl, rfl, Nat.zero_le _, by simp⟩
        case round =>
          obtain ⟨k, rfl, rfl, hk, hall⟩ := hrel
          by_cases hkl : k < x.length
          · have hgi : x[k]? = some x[k] := List.getElem?_eq_getElem hkl
            have hlt := CallsIn.inRound (F := Fence.wide) (n := 4) l (callsIn_wide.2 (callsIn_wide.1 (letter_in (({ data := x.toArray } : ByteArray)[k]'hkl).toNat wr)))
            have hgk : (({ data := x.toArray } : ByteArray)[k]'hkl) = x[k] := rfl
            gi_wp2
            refine hlt.mono ?_
            rintro e w' ⟨rfl, rfl⟩
            gi_wp2
            · rename_i hbad
              refine bad_post hb hbW ?_
              have hf : libLetter x[k] = false := by simpa [libLetter] using hbad
              have : x.all libLetter = false := by
                rw [List.all_eq_false]
                exact ⟨x[k], List.getElem_mem hkl, by simp [hf]⟩
              simp [libPart, this]
            · rename_i hgood
              have hf : libLetter x[k] = true := by simpa [libLetter] using hgood
              have hall2 : (x.take (k + 1)).all libLetter = true := by
                rw [List.take_add_one, hgi, List.all_append, hall]
                simp [hf]
              go_roundw
              case rel => first | exact ⟨k + 1, trivial, rfl, hkl, hall2⟩ | exact ⟨k + 1, rfl, rfl, hkl, hall2⟩ | (refine ⟨k + 1, ?_, ?_, hkl, hall2⟩ <;> simp)
              case measure => simp [intOf]; omega
          · gi_wp2
            have : k = x.length := by omega
            subst this
            rw [List.take_length] at hall
            refine ⟨KeepsOthers.refl _, Below.refl _ _, ?_, hb, hbW⟩
            intro p hp
            rcases List.mem_append.1 hp with h | h
            · exact hpre p h
            · simp at h
              subst h
              simp [libPart, h0, h1, hx2]
              simpa using hall
    case done =>
      rintro D xs W rfl ⟨hpre, hb, hbW⟩ hD hK
      have cb := hb.cell
      have fb := hb.frozen
      gi_wp2
      have hb4 := hb.set (.bool true)
      have hK4 := (KeepsOthers.setCell W ⟨w.heap.size, 0, none⟩ (.bool true)).same D _ hK rfl
      refine ⟨by simp, .inl ⟨_, _, rfl, run_takeDeferred hK4, ?_⟩⟩
      have hb5 : Boxed ((W.setCell ⟨w.heap.size, 0, none⟩ (.bool true)).putObj D (.deferred none)) w.heap.size 4 (.bool true) := hb4.kept (grownBy_putObj' _ D _) (by rintro e; cases e; omega)
      have hc5 := hb5.cell
      refine ⟨.bool true, ?_, ?_, ?_⟩
      · simp [results, Tryd.f30, go_sem, hc5]
      · simp [libValidPath, h60]; exact hpre
      · exact (hbW.setCell (Nat.le_refl _) _).trans ((Below.refl _ _).grown (grownBy_putObj' _ D _) (by simp; have := (Array.getElem?_eq_some_iff.1 hK).1; omega) (fun k e => by cases e; omega))
    case stop =>
      rintro D c pre W hpre ⟨rfl, ⟨p, hp, hpb⟩, hb, hbW⟩ hD hK
      gi_wp2
      refine ⟨by simp, .inl ⟨_, _, rfl, run_takeDeferred hK, ?_⟩⟩
      have hb5 : Boxed (W.putObj D (.deferred none)) w.heap.size 4 (.bool false) := hb.kept (grownBy_putObj' _ D _) (by rintro e; cases e; omega)
      have hc5 := hb5.cell
      refine ⟨.bool false, ?_, ?_, ?_⟩
      · simp [results, Tryd.f30, go_sem, hc5]
      · have : (cutAt 47 s).all libPart = false := by
          rw [List.all_eq_false]
          exact ⟨p, hpre.subset hp, by simp [hpb]⟩
        simp [libValidPath, this]
      · exact hbW.trans ((Below.refl _ _).grown (grownBy_putObj' _ D _) (by have := (Array.getElem?_eq_some_iff.1 hK).1; omega) (fun k e => by cases e; omega))
  · gi_wp2
    have hc : (w.alloc (.cells #[.bool false] 4)).cell? ⟨w.heap.size, 0, none⟩ = some (.bool false) := (Boxed.new w _ _).cell
    refine ⟨.bool false, ?_, ?_, ?_⟩
    · simp [results, Tryd.f30, go_sem, hc]
    · simp [libValidPath, h60]
    · exact (Below.refl _ w).alloc (Nat.le_refl _) _

#print axioms vp_in
theorem k_ValidPath (s : List UInt8) : PSpec Tryd.prog 30 [.str s] (.bool (libValidPath s)) := PSpec.ofStrB fun w => callsIn_wide.1 (vp_in s w)
theorem k_Compare (a b : List UInt8) : PSpec Tryd.prog 80 [.str a, .str b] (.int .i64 (libCompare a b)) := PSpec.ofStr2 fun w => Any.strings_Compare Tryd.lays106 ⟨a.toArray⟩ ⟨b.toArray⟩ w
theorem k_IndexByte (a : List UInt8) (c : Int) : PSpec Tryd.prog 62 [.str a, .int .u8 c] (.int .i64 (libIndexByte a c)) := PSpec.ofStrInt fun w => Any.strings_IndexByte Tryd.lays137 ⟨a.toArray⟩ c w
set_option maxRecDepth 100000 in
set_option maxHeartbeats 1000000 in
theorem len64_0 (w : World) : CallsIn Fence.wide 2 Tryd.prog 73 #[.int .u64 0] w fun e w' => e = .returned (.int .i64 0) ∧ w' = w := by
  refine callsIn_of_wp Tryd.func73 rfl trivial ?_ rfl
  simp only [Tryd.ntmps73, List.size_toArray, List.length_cons, List.length_nil, Nat.reduceAdd, Nat.reduceSub, Array.replicate_succ, Array.replicate_zero, List.push_toArray, List.append_toArray, List.nil_append, List.cons_append]
  gi_wp2
  have e1 : wrap64 (wrap64 (Lib.len8 0)) = 0 := by first | kernel_rfl | (simp [Lib.len8]; decide) | (unfold Lib.len8; decide)
  simp only [e1]
  go_ret
  exact ⟨rfl, rfl⟩
set_option maxRecDepth 100000 in
set_option maxHeartbeats 1000000 in
theorem len_0 (w : World) : CallsIn Fence.wide 3 Tryd.prog 49 #[.int .u64 0] w fun e w' => e = .returned (.int .i64 0) ∧ w' = w := by
  have f73 : Fence.wide.fn 73 := trivial
  refine callsIn_of_wp Tryd.func49 rfl trivial ?_ rfl
  simp only [Tryd.ntmps49, List.size_toArray, List.length_cons, List.length_nil, Nat.reduceAdd, Nat.reduceSub, Array.replicate_succ, Array.replicate_zero, List.push_toArray, List.append_toArray, List.nil_append, List.cons_append]
  gi_wp2_with (gi_at_call 73; refine (len64_0 _).mono ?_; rintro e w' ⟨rfl, rfl⟩)
  go_ret
  exact ⟨rfl, rfl⟩
set_option maxRecDepth 100000 in
set_option maxHeartbeats 1000000 in
theorem ins_nil (w : World) : CallsIn Fence.wide 3 Tryd.prog 63 #[.slice none 0 0, .int .i64 0, .int .i64 0] w fun e w' => e = .returned (.tuple #[]) ∧ w' = w := by
  refine callsIn_of_wp Tryd.func63 rfl trivial ?_ rfl
  simp only [Tryd.ntmps63, List.size_toArray, List.length_cons, List.length_nil, Nat.reduceAdd, Nat.reduceSub, Array.replicate_succ, Array.replicate_zero, List.push_toArray, List.append_toArray, List.nil_append, List.cons_append]
  gi_wp2
  gi_loopw [6] (fun v wr => v = .int .i64 1 ∧ wr = w) (fun _ _ => 0)
  case atStart => exact ⟨rfl, rfl⟩
  case round =>
    obtain ⟨rfl, rfl⟩ := hrel
    gi_wp2
    go_end0
    exact ⟨rfl, rfl⟩
set_option maxRecDepth 100000 in
set_option maxHeartbeats 1000000 in
theorem pdq_nil (w : World) : CallsIn Fence.wide 4 Tryd.prog 48 #[.slice none 0 0, .int .i64 0, .int .i64 0, .int .i64 0] w fun e w' => e = .returned (.tuple #[]) ∧ w' = w := by
  have f63 : Fence.wide.fn 63 := trivial
  refine callsIn_of_wp Tryd.func48 rfl trivial ?_ rfl
  simp only [Tryd.ntmps48, List.size_toArray, List.length_cons, List.length_nil, Nat.reduceAdd, Nat.reduceSub, Array.replicate_succ, Array.replicate_zero, List.push_toArray, List.append_toArray, List.nil_append, List.cons_append]
  gi_wp2
  gi_loopw [1, 2, 3] (fun x y z wr => x = .int .i64 0 ∧ y = .int .i64 0 ∧ z = .int .i64 0 ∧ wr = w) (fun _ _ _ _ => 0)
  case atStart => exact ⟨rfl, rfl, rfl, rfl⟩
  case round =>
    obtain ⟨rfl, rfl, rfl, rfl⟩ := hrel
    gi_wp2_with (gi_at_call 63; refine (ins_nil _).mono ?_; rintro e w' ⟨rfl, rfl⟩)
    first | go_end0 | refine bodyPost_ret (results_none rfl _ _ _) rfl ?_
    exact ⟨rfl, rfl⟩
set_option maxRecDepth 100000 in
set_option maxHeartbeats 1000000 in
theorem sort_nil (w : World) : CallsIn Fence.wide 5 Tryd.prog 32 #[.slice none 0 0] w fun e w' => e = .returned (.tuple #[]) ∧ w' = w := by
  have f48 : Fence.wide.fn 48 := trivial
  have f49 : Fence.wide.fn 49 := trivial
  refine callsIn_of_wp Tryd.func32 rfl trivial ?_ rfl
  simp only [Tryd.ntmps32, List.size_toArray, List.length_cons, List.length_nil, Nat.reduceAdd, Nat.reduceSub, Array.replicate_succ, Array.replicate_zero, List.push_toArray, List.append_toArray, List.nil_append, List.cons_append]
  gi_wp2_with (first | (gi_at_call 49; refine (callsIn_wide.2 (callsIn_wide.1 (len_0 _))).mono ?_; rintro e w' ⟨rfl, rfl⟩) | (gi_at_call 48; refine (pdq_nil _).mono ?_; rintro e w' ⟨rfl, rfl⟩))
  go_end0
  exact ⟨rfl, rfl⟩
theorem k_SortS (ss : List (List UInt8)) : PMut Tryd.prog 32 [.own 1 0] [(1, ⟨0, 9, 1, List.map cS ss, true, false, false⟩)] (.tup []) [(1, ⟨0, 9, 1, List.map cS (sortedS ss), true, false, false⟩)] :=
  PMut.sortS (fun blk off cap w h1 h2 h3 => Any.slices_Sort_string Tryd.lays190 blk off cap ss w h1 h2 h3) fun w => (callsIn_wide.1 (sort_nil w)).mono fun _ _ ⟨h1, h2⟩ => ⟨h1, h2 ▸ World.grownBy.refl w none⟩
#print axioms k_SortS
end Go.Proofs.YtadeoaglhaaimaaDoor
