/- Contracts of the library's functions, over this program. -/
import Derived.Test.YtlkknmhhefjmjaaGreatDoorC
import Derived.Test.YtlkknmhhefjmjaaGreatDoorPwSplit
import Derived.Shelf.Small.Strs
import Derived.Shelf.Strings.Search3
import Derived.Shelf.Abstract
import Derived.WalkKit
import Derived.OwnWalkIn
import Derived.TacticsInMore
import Derived.LoopNIn
import Derived.LoopIn
import Derived.KernelRfl
import Derived.RangeFuncCalls
import Derived.Test.YtlkknmhhefjmjaaGreatDoorPwSort
import Derived.Shelf.Sort.Plain
import Derived.Test.YtlkknmhhefjmjaaGreatDoorPwInsert
import Derived.Shelf.Spec.SlicesInsertGrow
set_option linter.unusedVariables false
set_option linter.unusedSimpArgs false
namespace Go.Proofs.YtlkknmhhefjmjaaGreatDoor
open Go.Shelf Go.RowKit Go.PW
attribute [local go_sem] Oper.semAt_some
def Tryz.lays106_ren : Go.Shelf.Ren := ⟨fun | 106 => 120 | 213 => 154 | 265 => 176 | n => n, fun | 9 => 9 | 3 => 3 | n => n, fun | n => n⟩
theorem Tryz.lays106 : Go.Proofs.Lays.n106 Tryz.prog Tryz.lays106_ren where
  mixed := by kernel_rfl
  f106 := Tryz.func120.trans (congrArg some (by kernel_rfl))
  f213 := Tryz.func154.trans (congrArg some (by kernel_rfl))
  f265 := Tryz.func176.trans (congrArg some (by kernel_rfl))
  t3 := Tryz.underlying3
  a3 := Tryz.isAgg3
  z3 := Tryz.sizeOf3
  v3 := Tryz.zeroValue3
  t9 := Tryz.underlying9
  a9 := Tryz.isAgg9
  z9 := Tryz.sizeOf9
  v9 := Tryz.zeroValue9
def Tryz.lays137_ren : Go.Shelf.Ren := ⟨fun | 137 => 177 | 217 => 190 | 266 => 196 | n => n, fun | 9 => 9 | 5 => 5 | 3 => 3 | n => n, fun | n => n⟩
theorem Tryz.lays137 : Go.Proofs.Lays.n137 Tryz.prog Tryz.lays137_ren where
  mixed := by kernel_rfl
  f137 := Tryz.func177.trans (congrArg some (by kernel_rfl))
  f217 := Tryz.func190.trans (congrArg some (by kernel_rfl))
  f266 := Tryz.func196.trans (congrArg some (by kernel_rfl))
  t3 := Tryz.underlying3
  a3 := Tryz.isAgg3
  z3 := Tryz.sizeOf3
  v3 := Tryz.zeroValue3
  t5 := Tryz.underlying5
  a5 := Tryz.isAgg5
  z5 := Tryz.sizeOf5
  v5 := Tryz.zeroValue5
  t9 := Tryz.underlying9
  a9 := Tryz.isAgg9
  z9 := Tryz.sizeOf9
  v9 := Tryz.zeroValue9
def Tryz.lays143_ren : Go.Shelf.Ren := ⟨fun | 143 => 189 | 219 => 195 | 217 => 190 | 225 => 197 | 224 => 198 | 267 => 199 | 266 => 196 | 314 => 200 | n => n, fun | 9 => 9 | 3 => 3 | 4 => 4 | 5 => 5 | 46 => 171 | 146 => 211 | 51 => 187 | n => n, fun | 1 => 0 | n => n⟩
theorem Tryz.lays143 : Go.Proofs.Lays.n143 Tryz.prog Tryz.lays143_ren where
  mixed := by kernel_rfl
  f143 := Tryz.func189.trans (congrArg some (by kernel_rfl))
  f217 := Tryz.func190.trans (congrArg some (by kernel_rfl))
  f219 := Tryz.func195.trans (congrArg some (by kernel_rfl))
  f224 := Tryz.func198.trans (congrArg some (by kernel_rfl))
  f225 := Tryz.func197.trans (congrArg some (by kernel_rfl))
  f266 := Tryz.func196.trans (congrArg some (by kernel_rfl))
  f267 := Tryz.func199.trans (congrArg some (by kernel_rfl))
  f314 := Tryz.func200.trans (congrArg some (by kernel_rfl))
  t3 := Tryz.underlying3
  a3 := Tryz.isAgg3
  z3 := Tryz.sizeOf3
  v3 := Tryz.zeroValue3
  t4 := Tryz.underlying4
  a4 := Tryz.isAgg4
  z4 := Tryz.sizeOf4
  v4 := Tryz.zeroValue4
  t5 := Tryz.underlying5
  a5 := Tryz.isAgg5
  z5 := Tryz.sizeOf5
  v5 := Tryz.zeroValue5
  t9 := Tryz.underlying9
  a9 := Tryz.isAgg9
  z9 := Tryz.sizeOf9
  v9 := Tryz.zeroValue9
  t46 := Tryz.underlying171
  a46 := Tryz.isAgg171
  z46 := Tryz.sizeOf171
  v46 := Tryz.zeroValue171
  t51 := Tryz.underlying187
  a51 := Tryz.isAgg187
  z51 := Tryz.sizeOf187
  v51 := Tryz.zeroValue187
  t146 := Tryz.underlying211
  a146 := Tryz.isAgg211
  z146 := Tryz.sizeOf211
  v146 := Tryz.zeroValue211
  g1 := by kernel_rfl
def Tryz.lays190_ren : Go.Shelf.Ren := ⟨fun | 190 => 110 | 125 => 148 | 258 => 147 | 128 => 170 | 129 => 171 | 302 => 161 | 303 => 162 | 304 => 163 | 305 => 164 | 306 => 165 | 307 => 166 | 308 => 167 | 309 => 168 | 310 => 169 | 333 => 179 | 329 => 180 | 330 => 181 | 334 => 182 | 335 => 183 | 336 => 184 | 344 => 192 | n => n, fun | 31 => 34 | 9 => 9 | 3 => 3 | 46 => 171 | 0 => 0 | 51 => 187 | 53 => 189 | 4 => 4 | 183 => 181 | 182 => 180 | 131 => 105 | 5 => 5 | 218 => 194 | 222 => 177 | 228 => 202 | 229 => 203 | n => n, fun | n => n⟩
theorem Tryz.lays190 : Go.Proofs.Lays.n190 Tryz.prog Tryz.lays190_ren where
  mixed := by kernel_rfl
  f125 := Tryz.func148.trans (congrArg some (by kernel_rfl))
  f128 := Tryz.func170.trans (congrArg some (by kernel_rfl))
  f129 := Tryz.func171.trans (congrArg some (by kernel_rfl))
  f190 := Tryz.func110.trans (congrArg some (by kernel_rfl))
  f258 := Tryz.func147.trans (congrArg some (by kernel_rfl))
  f302 := Tryz.func161.trans (congrArg some (by kernel_rfl))
  f303 := Tryz.func162.trans (congrArg some (by kernel_rfl))
  f304 := Tryz.func163.trans (congrArg some (by kernel_rfl))
  f305 := Tryz.func164.trans (congrArg some (by kernel_rfl))
  f306 := Tryz.func165.trans (congrArg some (by kernel_rfl))
  f307 := Tryz.func166.trans (congrArg some (by kernel_rfl))
  f308 := Tryz.func167.trans (congrArg some (by kernel_rfl))
  f309 := Tryz.func168.trans (congrArg some (by kernel_rfl))
  f310 := Tryz.func169.trans (congrArg some (by kernel_rfl))
  f329 := Tryz.func180.trans (congrArg some (by kernel_rfl))
  f330 := Tryz.func181.trans (congrArg some (by kernel_rfl))
  f333 := Tryz.func179.trans (congrArg some (by kernel_rfl))
  f334 := Tryz.func182.trans (congrArg some (by kernel_rfl))
  f335 := Tryz.func183.trans (congrArg some (by kernel_rfl))
  f336 := Tryz.func184.trans (congrArg some (by kernel_rfl))
  f344 := Tryz.func192.trans (congrArg some (by kernel_rfl))
  t0 := Tryz.underlying0
  a0 := Tryz.isAgg0
  z0 := Tryz.sizeOf0
  v0 := Tryz.zeroValue0
  t3 := Tryz.underlying3
  a3 := Tryz.isAgg3
  z3 := Tryz.sizeOf3
  v3 := Tryz.zeroValue3
  t4 := Tryz.underlying4
  a4 := Tryz.isAgg4
  z4 := Tryz.sizeOf4
  v4 := Tryz.zeroValue4
  t5 := Tryz.underlying5
  a5 := Tryz.isAgg5
  z5 := Tryz.sizeOf5
  v5 := Tryz.zeroValue5
  t9 := Tryz.underlying9
  a9 := Tryz.isAgg9
  z9 := Tryz.sizeOf9
  v9 := Tryz.zeroValue9
  t31 := Tryz.underlying34
  a31 := Tryz.isAgg34
  z31 := Tryz.sizeOf34
  v31 := Tryz.zeroValue34
  t46 := Tryz.underlying171
  a46 := Tryz.isAgg171
  z46 := Tryz.sizeOf171
  v46 := Tryz.zeroValue171
  t51 := Tryz.underlying187
  a51 := Tryz.isAgg187
  z51 := Tryz.sizeOf187
  v51 := Tryz.zeroValue187
  t53 := Tryz.underlying189
  a53 := Tryz.isAgg189
  z53 := Tryz.sizeOf189
  v53 := Tryz.zeroValue189
  t131 := Tryz.underlying105
  a131 := Tryz.isAgg105
  z131 := Tryz.sizeOf105
  v131 := Tryz.zeroValue105
  t182 := Tryz.underlying180
  a182 := Tryz.isAgg180
  z182 := Tryz.sizeOf180
  v182 := Tryz.zeroValue180
  t183 := Tryz.underlying181
  a183 := Tryz.isAgg181
  z183 := Tryz.sizeOf181
  v183 := Tryz.zeroValue181
  t218 := Tryz.underlying194
  a218 := Tryz.isAgg194
  z218 := Tryz.sizeOf194
  v218 := Tryz.zeroValue194
  t222 := Tryz.underlying177
  a222 := Tryz.isAgg177
  z222 := Tryz.sizeOf177
  v222 := Tryz.zeroValue177
  t228 := Tryz.underlying202
  a228 := Tryz.isAgg202
  z228 := Tryz.sizeOf202
  v228 := Tryz.zeroValue202
  t229 := Tryz.underlying203
  a229 := Tryz.isAgg203
  z229 := Tryz.sizeOf203
  v229 := Tryz.zeroValue203
theorem index1 (s : List UInt8) (c : UInt8) (w : World) : Calls Tryz.prog 189 #[.string ⟨s.toArray⟩, .string ⟨#[c]⟩] w fun e w' => e = .returned (.int .i64 (Lib.indexByte s c)) ∧ w' = w := Any.strings_Index_one Tryz.lays143 ⟨s.toArray⟩ c w
set_option maxRecDepth 100000 in
set_option maxHeartbeats 1000000 in
theorem letter_in (c : Int) (w : World) : CallsIn Fence.wide 5 Tryz.prog 152 #[.int .u8 c] w fun e w' => e = .returned (.bool (libLetterI c)) ∧ w' = w := by
  refine callsIn_of_wp Tryz.func152 rfl trivial ?_ rfl
  simp only [Tryz.ntmps152, List.size_toArray, List.length_cons, List.length_nil, Nat.reduceAdd, Nat.reduceSub, Array.replicate_succ, Array.replicate_zero, List.push_toArray, List.append_toArray, List.nil_append, List.cons_append]
  gi_wp2
  all_goals (go_ret; refine ⟨?_, rfl⟩; refine congrArg (fun b => Ending.returned (Value.bool b)) ?_; first | rfl | (rw [Bool.eq_iff_iff]; simp [libLetterI]; omega) | (symm; simp [libLetterI]; omega) | (simp [libLetterI, *]; done))
set_option maxRecDepth 100000 in
set_option maxHeartbeats 1000000 in
theorem splitSeq0_in (s sep : ByteArray) (w : World) : CallsIn Fence.wide 4 Tryz.prog 175 #[.string s, .string sep, .int .i64 0] w fun e w' => e = .returned (.func (.func 187) #[] #[.pointer (some ⟨w.heap.size + 1, 0, none⟩), .pointer (some ⟨w.heap.size, 0, none⟩), .pointer (some ⟨w.heap.size + 2, 0, none⟩)]) ∧
    w' = ((w.alloc (.cells #[.string s] 9)).alloc (.cells #[.string sep] 9)).alloc (.cells #[.int .i64 0] 3) := by
  refine callsIn_of_wp Tryz.func175 rfl trivial ?_ rfl
  simp only [Tryz.ntmps175, List.size_toArray, List.length_cons, List.length_nil, Nat.reduceAdd, Nat.reduceSub, Array.replicate_succ, Array.replicate_zero, List.push_toArray, List.append_toArray, List.nil_append, List.cons_append]
  gi_wp2
  go_ret
  exact ⟨rfl, rfl⟩
set_option maxRecDepth 100000 in
set_option maxHeartbeats 1000000 in
theorem splitSeq_in (s sep : ByteArray) (w : World) : CallsIn Fence.wide 5 Tryz.prog 151 #[.string s, .string sep] w fun e w' => e = .returned (.func (.func 187) #[] #[.pointer (some ⟨w.heap.size + 1, 0, none⟩), .pointer (some ⟨w.heap.size, 0, none⟩), .pointer (some ⟨w.heap.size + 2, 0, none⟩)]) ∧
    w' = ((w.alloc (.cells #[.string s] 9)).alloc (.cells #[.string sep] 9)).alloc (.cells #[.int .i64 0] 3) := by
  refine callsIn_of_wp Tryz.func151 rfl trivial ?_ rfl
  simp only [Tryz.ntmps151, List.size_toArray, List.length_cons, List.length_nil, Nat.reduceAdd, Nat.reduceSub, Array.replicate_succ, Array.replicate_zero, List.push_toArray, List.append_toArray, List.nil_append, List.cons_append]
  have f61 : Fence.wide.fn 175 := trivial
  gi_wp2_with (gi_at_call 175; refine (splitSeq0_in _ _ _).mono ?_; rintro e w' ⟨rfl, rfl⟩)
  go_ret
  exact ⟨rfl, rfl⟩
set_option maxRecDepth 100000 in
set_option maxHeartbeats 1000000 in
theorem iter_in (l Bp Bs Bv n₀ : Nat) (s : List UInt8) (J Jx : List (List UInt8) → World → Prop) (W : World) (h1 : Bp < n₀) (h2 : Bs < n₀) (h3 : Bv < n₀) (h12 : Bp ≠ Bs) (h23 : Bv ≠ Bs)
    (hp : Boxed W Bp 9 (.string ⟨#[47]⟩)) (hs : Boxed W Bs 9 (.string ⟨s.toArray⟩)) (hv : Boxed W Bv 3 (.int .i64 0)) (hl : s.length < 1000)
    (hS : ∀ pre W v, J pre W → J pre (W.setCell ⟨Bs, 0, none⟩ v))
    (hY : ∀ pre x W1, x.length < 1000 → J pre W1 → YieldAt Fence.wide 5 Tryz.prog l #[.string ⟨x.toArray⟩] W1 fun e W' => (e = .returned (.bool true) ∧ J (pre ++ [x]) W' ∧ Below n₀ W1 W') ∨ (e = .returned (.bool false) ∧ Jx (pre ++ [x]) W'))
    (h0 : J [] W) :
    CallsIn Fence.wide 6 Tryz.prog 187 #[.func (.yield l) #[] #[], .pointer (some ⟨Bp, 0, none⟩), .pointer (some ⟨Bs, 0, none⟩), .pointer (some ⟨Bv, 0, none⟩)] W fun e W' => (∃ v, e = .returned v) ∧
      ((∃ xs, xs = cutAt 47 s ∧ J xs W') ∨ (∃ pre, pre <+: cutAt 47 s ∧ Jx pre W')) := by
  refine callsIn_of_wp Tryz.func187 rfl trivial ?_ rfl
  simp only [Tryz.ntmps187, List.size_toArray, List.length_cons, List.length_nil, Nat.reduceAdd, Nat.reduceSub, Array.replicate_succ, Array.replicate_zero, List.push_toArray, List.append_toArray, List.nil_append, List.cons_append]
  have f83 : Fence.wide.fn 189 := trivial
  have cp := hp.cell
  have cs := hs.cell
  have cv := hv.cell
  gi_wp2
  gi_loopw [7] (fun _ wr => ∃ (pre : List (List UInt8)) (r : List UInt8), cutAt 47 s = pre ++ cutAt 47 r ∧ r.length < 1000 ∧ Boxed wr Bp 9 (.string ⟨#[47]⟩) ∧ Boxed wr Bs 9 (.string ⟨r.toArray⟩) ∧ Boxed wr Bv 3 (.int .i64 0) ∧ J pre wr)
    (fun _ wr => match wr.cell? ⟨Bs, 0, none⟩ with | some (.string x) => x.size | _ => 0)
  case atStart =>
    exact ⟨[], s, by simp, hl, hp, hs, hv, h0⟩
  case round =>
    clear hp hs hv cp cs cv
    obtain ⟨pre, r, hr, hrl, hp, hs, hv, hJ⟩ := hrel
    have cp := hp.cell
    have cs := hs.cell
    have cv := hv.cell
    have hge := Lib.indexByte_ge r 47
    by_cases hneg : Lib.indexByte r 47 < 0
    · obtain ⟨fn, tmps, assign, body, hy, hR⟩ := hY pre r wr hrl hJ
      gi_wp2_with (gi_at_call 189; refine (callsIn_wide.2 (index1 r 47 _)).mono ?_; rintro e w' ⟨rfl, rfl⟩)
      refine hR.mono ?_
      rw [cutAt_none hneg] at hr
      rintro e W3 (⟨rfl, hJ3, hk3⟩ | ⟨rfl, hJx3⟩)
      · gi_wp2
        go_end0
        exact ⟨⟨_, rfl⟩, .inl ⟨_, hr ▸ rfl, hJ3⟩⟩
      · gi_wp2
        go_end0
        exact ⟨⟨_, rfl⟩, .inr ⟨_, hr ▸ List.prefix_refl _, hJx3⟩⟩
    · obtain ⟨i, hi⟩ : ∃ i : Nat, Lib.indexByte r 47 = i := ⟨(Lib.indexByte r 47).toNat, by omega⟩
      have ix := index1 r 47 wr
      rw [hi] at ix
      obtain ⟨hil, hc⟩ := cutAt_some hi
      obtain ⟨fn, tmps, assign, body, hy, hR⟩ := hY pre (r.take i) wr (by simp; omega) hJ
      rw [← extract_take] at hy
      gi_wp2_with (gi_at_call 189; refine (callsIn_wide.2 ix).mono ?_; rintro e w' ⟨rfl, rfl⟩)
      refine hR.mono ?_
      rintro e W3 (⟨rfl, hJ3, hk3⟩ | ⟨rfl, hJx3⟩)
      · have hp3 : Boxed W3 Bp 9 (.string ⟨#[47]⟩) := (hk3.block Bp h1).trans hp
        have hs3 : Boxed W3 Bs 9 (.string ⟨r.toArray⟩) := (hk3.block Bs h2).trans hs
        have hv3 : Boxed W3 Bv 3 (.int .i64 0) := (hk3.block Bv h3).trans hv
        have cp3 := hp3.cell
        have cs3 := hs3.cell
        have cv3 := hv3.cell
        have fs3 := hs3.frozen
        gi_wp2
        rw [extract_drop]
        refine ⟨⟨pre ++ [r.take i], r.drop (i + 1), by rw [hr, hc]; simp, by simp; omega, ?_, hs3.set _, ?_, hS _ _ _ hJ3⟩, ?_⟩
        · exact (Below.heap_setCell _ _ _ _ (by simpa using h12)).trans hp3
        · exact (Below.heap_setCell _ _ _ _ (by simpa using h23)).trans hv3
        · rw [(hs3.set _).cell, cs]
          simp [ByteArray.size]
          omega
      · gi_wp2
        refine bodyPost_ret (results_none rfl _ _ _) rfl ?_
        exact ⟨⟨_, rfl⟩, .inr ⟨_, ⟨cutAt 47 (r.drop (i + 1)), by rw [hr, hc]; simp⟩, hJx3⟩⟩
theorem bad_post {B n : Nat} {w W : World} {I : List (List UInt8) → World → Prop} {pre : List (List UInt8)} {x : List UInt8} {a : Act} (hb : Boxed W n 4 (.bool false)) (hbW : Below n w W) (h : libPart x = false) :
    ownPostK (Below B) I (fun c pre W => c = Code.ret ∧ (∃ p ∈ pre, libPart p = false) ∧ Boxed W n 4 (.bool false) ∧ Below n w W) (pre ++ [x]) W Exit.ret a (W.setCell ⟨n, 0, none⟩ (.bool false)) :=
  ⟨KeepsOthers.setCell _ _ _, rfl, ⟨x, by simp, h⟩, hb.set _, hbW.setCell (Nat.le_refl _) _⟩
set_option maxRecDepth 100000 in
set_option maxHeartbeats 1000000 in
theorem vp_in (s : List UInt8) (w : World) : CallsIn Fence.wide 7 Tryz.prog 115 #[.string ⟨s.toArray⟩] w fun e w' => e = .returned (.bool (libValidPath s)) ∧ Below w.heap.size w w' := by
  have f45 : Fence.wide.fn 151 := trivial
  have f46 : Fence.wide.fn 152 := trivial
  refine callsIn_of_wp_marks Tryz.func115 rfl trivial ?_ rfl
  simp only [Tryz.ntmps115, List.size_toArray, List.length_cons, List.length_nil, Nat.reduceAdd, Nat.reduceSub, Array.replicate_succ, Array.replicate_zero, List.push_toArray, List.append_toArray, List.nil_append, List.cons_append]
  by_cases h60 : s.length ≤ 60
  · have hl : s.length < 1000 := by omega
    gi_wp2_with (gi_at_call 151; refine (callsIn_wide.2 (callsIn_wide.1 (splitSeq_in _ _ _))).mono ?_; rintro e w' ⟨rfl, rfl⟩)
    obtain ⟨W0, hW0⟩ : ∃ W0, (((w.alloc (.cells #[.bool false] 4)).alloc (.cells #[.string ⟨s.toArray⟩] 9)).alloc (.cells #[.string ⟨#[47]⟩] 9)).alloc (.cells #[.int .i64 0] 3) = W0 := ⟨_, rfl⟩
    have hsz : W0.heap.size = w.heap.size + 4 := by rw [← hW0]; simp
    have hb0 : Boxed W0 w.heap.size 4 (.bool false) := by rw [← hW0]; exact (((Boxed.new w _ _).alloc _).alloc _).alloc _
    have hs0 : Boxed W0 (w.heap.size + 1) 9 (.string ⟨s.toArray⟩) := by rw [← hW0]; have := Boxed.new (w.alloc (.cells #[.bool false] 4)) 9 (.string ⟨s.toArray⟩); rw [World.size_alloc] at this; exact (this.alloc _).alloc _
    have hp0 : Boxed W0 (w.heap.size + 2) 9 (.string ⟨#[47]⟩) := by rw [← hW0]; have := Boxed.new ((w.alloc (.cells #[.bool false] 4)).alloc (.cells #[.string ⟨s.toArray⟩] 9)) 9 (.string ⟨#[47]⟩); simp only [World.size_alloc] at this; exact this.alloc _
    have hv0 : Boxed W0 (w.heap.size + 3) 3 (.int .i64 0) := by rw [← hW0]; have := Boxed.new (((w.alloc (.cells #[.bool false] 4)).alloc (.cells #[.string ⟨s.toArray⟩] 9)).alloc (.cells #[.string ⟨#[47]⟩] 9)) 3 (.int .i64 0); simp only [World.size_alloc] at this; exact this
    have hbl : Below w.heap.size w W0 := by rw [← hW0]; exact ((((Below.refl _ w).alloc (Nat.le_refl _) _).alloc (by simp) _).alloc (by simp; omega) _).alloc (by simp; omega) _
    simp only [hW0]
    refine wpIn_rangeFunc_cell rfl (by omega) (gf := 187) (lb := #[.pointer (some ⟨w.heap.size + 2, 0, none⟩), .pointer (some ⟨w.heap.size + 1, 0, none⟩), .pointer (some ⟨w.heap.size + 3, 0, none⟩)]) rfl trivial (enters_of Tryz.func187 (by kernel_rfl) rfl)
      (encs := fun x : List UInt8 => #[.string ⟨x.toArray⟩]) (w.heap.size + 1) (fun x => x.length < 1000) (S := fun xs => xs = cutAt 47 s) (Sp := fun pre => pre <+: cutAt 47 s)
      (fun l J Jx W hW hS hY h0 => iter_in l (w.heap.size + 2) (w.heap.size + 1) (w.heap.size + 3) W0.heap.size s J Jx W (by omega) (by omega) (by omega) (by omega) (by omega)
        ((hW.block _ (by omega)).trans hp0) ((hW.block _ (by omega)).trans hs0) ((hW.block _ (by omega)).trans hv0) hl hS hY h0)
      (fun _ => rfl)
      (fun pre W => (∀ p ∈ pre, libPart p = true) ∧ Boxed W w.heap.size 4 (.bool false) ∧ Below w.heap.size w W)
      (fun c pre W => c = .ret ∧ (∃ p ∈ pre, libPart p = false) ∧ Boxed W w.heap.size 4 (.bool false) ∧ Below w.heap.size w W)
      (fun q A B row hs hg hr => ⟨hs.1, hs.2.1.kept hg (fun e => by have := (hr _ e.symm).1; omega), ownFrom_below (β := Unit) (Nat.le_refl _) (by omega) () A B row hs.2.2 hg hr⟩)
      (fun pre W v hs => ⟨hs.1, (Below.heap_setCell _ _ _ _ (by simp)).trans hs.2.1, hs.2.2.setCell (by simp) v⟩)
      (fun c q A B row hs hg hr => ⟨hs.1, hs.2.1, hs.2.2.1.kept hg (fun e => by have := (hr _ e.symm).1; omega), ownFrom_below (β := Unit) (Nat.le_refl _) (by omega) () A B row hs.2.2.2 hg hr⟩)
      ⟨by simp, hb0, hbl⟩
      (fun x => { tmps := #[.string ⟨s.toArray⟩, undef, .pointer (some ⟨w.heap.size, 0, none⟩), .string ⟨x.toArray⟩, undef, .string ⟨s.toArray⟩, .int .i64 s.length, .bool (decide (60 < (s.length : Int))), .string ⟨s.toArray⟩, .func (.func 187) #[] #[.pointer (some ⟨w.heap.size + 2, 0, none⟩), .pointer (some ⟨w.heap.size + 1, 0, none⟩), .pointer (some ⟨w.heap.size + 3, 0, none⟩)], .string ⟨x.toArray⟩, undef, undef, undef, undef, undef, undef, undef, undef, undef, undef, undef, undef, undef, undef, undef, undef, undef, undef, undef, undef, undef], defers := [] }) ?assign ?body ?done ?stop
    case assign =>
      intro l x W K hK
      gi_wp2
      exact hK
    case body =>
      rintro l pre x W hxl ⟨hpre, hb, hbW⟩
      have cb := hb.cell
      have fb := hb.frozen
      have f46' : (Fence.wide.inRound l).fn 152 := trivial
      gi_wp2
      · rename_i hx
        exact bad_post hb hbW (by simp [libPart, hx])
      · rename_i hx
        exact bad_post hb hbW (by simp [libPart, hx])
      · rename_i h0 h1 hx
        refine bad_post hb hbW ?_
        have hx2 : x = [46, 46] := by simpa [h0, h1] using hx
        simp [libPart, hx2]
      · rename_i h0 h1 hx
        have hx2 : x ≠ [46, 46] := by simpa using hx.2
        have e0 : x.isEmpty = false := hx.1.1
        have e1 : (x == [46]) = false := hx.1.2
        have e2 : (x == [46, 46]) = false := hx.2
        simp only [e0, e1, e2, Bool.or_false]
        gi_loopw [4, 23] (fun _ i wr => ∃ k : Nat, wr = W ∧ i = .int .i64 k ∧ k ≤ x.length ∧ (x.take k).all libLetter = true) (fun _ i _ => x.length - (intOf i).toNat)
        case atStart => exact ⟨0, rfl, rfl, Nat.zero_le _, by simp⟩
        case round =>
          obtain ⟨k, rfl, rfl, hk, hall⟩ := hrel
          by_cases hkl : k < x.length
          · have hgi : x[k]? = some x[k] := List.getElem?_eq_getElem hkl
            have hlt := CallsIn.inRound (F := Fence.wide) (n := 4) l (callsIn_wide.2 (callsIn_wide.1 (letter_in (({ data := x.toArray } : ByteArray)[k]'hkl).toNat wr)))
            have hgk : (({ data := x.toArray } : ByteArray)[k]'hkl) = x[k] := rfl
            gi_wp2
            refine hlt.mono ?_
            rintro e w' ⟨rfl, rfl⟩
            gi_wp2
            · rename_i hbad
              refine bad_post hb hbW ?_
              have hf : libLetter x[k] = false := by simpa [libLetter] using hbad
              have : x.all libLetter = false := by
                rw [List.all_eq_false]
                exact ⟨x[k], List.getElem_mem hkl, by simp [hf]⟩
              simp [libPart, this]
            · rename_i hgood
              have hf : libLetter x[k] = true := by simpa [libLetter] using hgood
              have hall2 : (x.take (k + 1)).all libLetter = true := by
                rw [List.take_add_one, hgi, List.all_append, hall]
                simp [hf]
              go_roundw
              case rel => first | exact ⟨k + 1, trivial, rfl, hkl, hall2⟩ | exact ⟨k + 1, rfl, rfl, hkl, hall2⟩ | (refine ⟨k + 1, ?_, ?_, hkl, hall2⟩ <;> simp)
              case measure => simp [intOf]; omega
          · gi_wp2
            have : k = x.length := by omega
            subst this
            rw [List.take_length] at hall
            refine ⟨KeepsOthers.refl _, Below.refl _ _, ?_, hb, hbW⟩
            intro p hp
            rcases List.mem_append.1 hp with h | h
            · exact hpre p h
            · simp at h
              subst h
              simp [libPart, h0, h1, hx2]
              simpa using hall
    case done =>
      rintro D xs W rfl ⟨hpre, hb, hbW⟩ hD hK
      have cb := hb.cell
      have fb := hb.frozen
      gi_wp2
      have hb4 := hb.set (.bool true)
      have hK4 := (KeepsOthers.setCell W ⟨w.heap.size, 0, none⟩ (.bool true)).same D _ hK rfl
      refine ⟨by simp, .inl ⟨_, _, rfl, run_takeDeferred hK4, ?_⟩⟩
      have hb5 : Boxed ((W.setCell ⟨w.heap.size, 0, none⟩ (.bool true)).putObj D (.deferred none)) w.heap.size 4 (.bool true) := hb4.kept (grownBy_putObj' _ D _) (by rintro e; cases e; omega)
      have hc5 := hb5.cell
      refine ⟨.bool true, ?_, ?_, ?_⟩
      · simp [results, Tryz.f115, go_sem, hc5]
      · simp [libValidPath, h60]; exact hpre
      · exact (hbW.setCell (Nat.le_refl _) _).trans ((Below.refl _ _).grown (grownBy_putObj' _ D _) (by simp; have := (Array.getElem?_eq_some_iff.1 hK).1; omega) (fun k e => by cases e; omega))
    case stop =>
      rintro D c pre W hpre ⟨rfl, ⟨p, hp, hpb⟩, hb, hbW⟩ hD hK
      gi_wp2
      refine ⟨by simp, .inl ⟨_, _, rfl, run_takeDeferred hK, ?_⟩⟩
      have hb5 : Boxed (W.putObj D (.deferred none)) w.heap.size 4 (.bool false) := hb.kept (grownBy_putObj' _ D _) (by rintro e; cases e; omega)
      have hc5 := hb5.cell
      refine ⟨.bool false, ?_, ?_, ?_⟩
      · simp [results, Tryz.f115, go_sem, hc5]
      · have : (cutAt 47 s).all libPart = false := by
          rw [List.all_eq_false]
          exact ⟨p, hpre.subset hp, by simp [hpb]⟩
        simp [libValidPath, this]
      · exact hbW.trans ((Below.refl _ _).grown (grownBy_putObj' _ D _) (by have := (Array.getElem?_eq_some_iff.1 hK).1; omega) (fun k e => by cases e; omega))
  · gi_wp2
    have hc : (w.alloc (.cells #[.bool false] 4)).cell? ⟨w.heap.size, 0, none⟩ = some (.bool false) := (Boxed.new w _ _).cell
    refine ⟨.bool false, ?_, ?_, ?_⟩
    · simp [results, Tryz.f115, go_sem, hc]
    · simp [libValidPath, h60]
    · exact (Below.refl _ w).alloc (Nat.le_refl _) _
theorem k_ValidPath (s : List UInt8) : PSpec Tryz.prog 115 [.str s] (.bool (libValidPath s)) := PSpec.ofStrB fun w => callsIn_wide.1 (vp_in s w)
theorem k_Compare (a b : List UInt8) : PSpec Tryz.prog 120 [.str a, .str b] (.int .i64 (libCompare a b)) := PSpec.ofStr2 fun w => Any.strings_Compare Tryz.lays106 ⟨a.toArray⟩ ⟨b.toArray⟩ w
theorem k_IndexByte (a : List UInt8) (c : Int) : PSpec Tryz.prog 177 [.str a, .int .u8 c] (.int .i64 (libIndexByte a c)) := PSpec.ofStrInt fun w => Any.strings_IndexByte Tryz.lays137 ⟨a.toArray⟩ c w
set_option maxRecDepth 100000 in
set_option maxHeartbeats 1000000 in
theorem len64_0 (w : World) : CallsIn Fence.wide 2 Tryz.prog 171 #[.int .u64 0] w fun e w' => e = .returned (.int .i64 0) ∧ w' = w := by
  refine callsIn_of_wp Tryz.func171 rfl trivial ?_ rfl
  simp only [Tryz.ntmps171, List.size_toArray, List.length_cons, List.length_nil, Nat.reduceAdd, Nat.reduceSub, Array.replicate_succ, Array.replicate_zero, List.push_toArray, List.append_toArray, List.nil_append, List.cons_append]
  gi_wp2
  have e1 : wrap64 (wrap64 (Lib.len8 0)) = 0 := by first | kernel_rfl | (simp [Lib.len8]; decide) | (unfold Lib.len8; decide)
  simp only [e1]
  go_ret
  exact ⟨rfl, rfl⟩
set_option maxRecDepth 100000 in
set_option maxHeartbeats 1000000 in
theorem len_0 (w : World) : CallsIn Fence.wide 3 Tryz.prog 148 #[.int .u64 0] w fun e w' => e = .returned (.int .i64 0) ∧ w' = w := by
  have f73 : Fence.wide.fn 171 := trivial
  refine callsIn_of_wp Tryz.func148 rfl trivial ?_ rfl
  simp only [Tryz.ntmps148, List.size_toArray, List.length_cons, List.length_nil, Nat.reduceAdd, Nat.reduceSub, Array.replicate_succ, Array.replicate_zero, List.push_toArray, List.append_toArray, List.nil_append, List.cons_append]
  gi_wp2_with (gi_at_call 171; refine (len64_0 _).mono ?_; rintro e w' ⟨rfl, rfl⟩)
  go_ret
  exact ⟨rfl, rfl⟩
set_option maxRecDepth 100000 in
set_option maxHeartbeats 1000000 in
theorem ins_nil (w : World) : CallsIn Fence.wide 3 Tryz.prog 161 #[.slice none 0 0, .int .i64 0, .int .i64 0] w fun e w' => e = .returned (.tuple #[]) ∧ w' = w := by
  refine callsIn_of_wp Tryz.func161 rfl trivial ?_ rfl
  simp only [Tryz.ntmps161, List.size_toArray, List.length_cons, List.length_nil, Nat.reduceAdd, Nat.reduceSub, Array.replicate_succ, Array.replicate_zero, List.push_toArray, List.append_toArray, List.nil_append, List.cons_append]
  gi_wp2
  gi_loopw [6] (fun v wr => v = .int .i64 1 ∧ wr = w) (fun _ _ => 0)
  case atStart => exact ⟨rfl, rfl⟩
  case round =>
    obtain ⟨rfl, rfl⟩ := hrel
    gi_wp2
    go_end0
    exact ⟨rfl, rfl⟩
set_option maxRecDepth 100000 in
set_option maxHeartbeats 1000000 in
theorem pdq_nil (w : World) : CallsIn Fence.wide 4 Tryz.prog 147 #[.slice none 0 0, .int .i64 0, .int .i64 0, .int .i64 0] w fun e w' => e = .returned (.tuple #[]) ∧ w' = w := by
  have f63 : Fence.wide.fn 161 := trivial
  refine callsIn_of_wp Tryz.func147 rfl trivial ?_ rfl
  simp only [Tryz.ntmps147, List.size_toArray, List.length_cons, List.length_nil, Nat.reduceAdd, Nat.reduceSub, Array.replicate_succ, Array.replicate_zero, List.push_toArray, List.append_toArray, List.nil_append, List.cons_append]
  gi_wp2
  gi_loopw [1, 2, 3] (fun x y z wr => x = .int .i64 0 ∧ y = .int .i64 0 ∧ z = .int .i64 0 ∧ wr = w) (fun _ _ _ _ => 0)
  case atStart => exact ⟨rfl, rfl, rfl, rfl⟩
  case round =>
    obtain ⟨rfl, rfl, rfl, rfl⟩ := hrel
    gi_wp2_with (gi_at_call 161; refine (ins_nil _).mono ?_; rintro e w' ⟨rfl, rfl⟩)
    first | go_end0 | refine bodyPost_ret (results_none rfl _ _ _) rfl ?_
    exact ⟨rfl, rfl⟩
set_option maxRecDepth 100000 in
set_option maxHeartbeats 1000000 in
theorem sort_nil (w : World) : CallsIn Fence.wide 5 Tryz.prog 110 #[.slice none 0 0] w fun e w' => e = .returned (.tuple #[]) ∧ w' = w := by
  have f48 : Fence.wide.fn 147 := trivial
  have f49 : Fence.wide.fn 148 := trivial
  refine callsIn_of_wp Tryz.func110 rfl trivial ?_ rfl
  simp only [Tryz.ntmps110, List.size_toArray, List.length_cons, List.length_nil, Nat.reduceAdd, Nat.reduceSub, Array.replicate_succ, Array.replicate_zero, List.push_toArray, List.append_toArray, List.nil_append, List.cons_append]
  gi_wp2_with (first | (gi_at_call 148; refine (callsIn_wide.2 (callsIn_wide.1 (len_0 _))).mono ?_; rintro e w' ⟨rfl, rfl⟩) | (gi_at_call 147; refine (pdq_nil _).mono ?_; rintro e w' ⟨rfl, rfl⟩))
  go_end0
  exact ⟨rfl, rfl⟩
theorem k_SortS (ss : List (List UInt8)) : PMut Tryz.prog 110 [.own 1 0] [(1, ⟨0, 9, 1, List.map cS ss, true, false, false⟩)] (.tup []) [(1, ⟨0, 9, 1, List.map cS (sortedS ss), true, false, false⟩)] :=
  PMut.sortS (fun blk off cap w h1 h2 h3 => Any.slices_Sort_string Tryz.lays190 blk off cap ss w h1 h2 h3) fun w => (callsIn_wide.1 (sort_nil w)).mono fun _ _ ⟨h1, h2⟩ => ⟨h1, h2 ▸ World.grownBy.refl w none⟩
set_option maxHeartbeats 4000000 in
set_option maxRecDepth 100000 in
theorem shift_InsFile (b off n c i vb voff m vc : Nat) (cs vs : List Value) (w : World) (hi : i < n) (hm : 0 < m) (hroom : n + m ≤ c) (hc63 : c ≤ 9223372036854775807) (hvb : vb ≠ b)
    (hcl : cs.length = n * 2) (hvl : vs.length = m * 2)
    (hcs : ∀ j v, cs[j]? = some v → w.cell? ⟨b, off + j, none⟩ = some v) (hsp : ∀ j, j < (n + m) * 2 → (w.cell? ⟨b, off + j, none⟩).isSome = true) (hfz : ∀ j, j < (n + m) * 2 → w.frozen? ⟨b, off + j, none⟩ = false)
    (hvs : ∀ j v, vs[j]? = some v → w.cell? ⟨vb, voff + j, none⟩ = some v) (h1c : ∀ v ∈ cs, v.oneCell' = true) (h1v : ∀ v ∈ vs, v.oneCell' = true)
    (tA tB : TypeId) (kA kB : Nat) (hsa : w.shape? vb = some (tA, kA)) (hsb : w.shape? b = some (tB, kB)) (hkB : kB ≠ 0) (hfa : w.frozen? ⟨vb, voff, none⟩ = false) (hfe : w.frozen? ⟨vb, kA, none⟩ = false) :
    Calls Tryz.prog 150 #[.slice (some ⟨b, off, none⟩) n c, .int .i64 i, .slice (some ⟨vb, voff, none⟩) m vc] w fun e w' =>
      e = .returned (.slice (some ⟨b, off, none⟩) (n + m) c) ∧ w' = (w.drew.setCells b (off + (i + m) * 2) (cs.drop (i * 2))).setCells b (off + i * 2) vs := by
  have mixed : Tryz.prog.follows .mixedOrders = true := by kernel_rfl
  have hz1 : ¬ ((m : Int) = 0) := by omega
  have hz2 : ¬ ((i : Int) = (n : Int)) := by omega
  have hsz : (Tryz.prog.info? 37).map (·.size) = some 2 := by kernel_rfl
  have hov : ∀ lb cb, (callFunc 173 #[.slice (some ⟨vb, voff, none⟩) m vc, .slice (some ⟨b, off + (i + m) * 2, none⟩) lb cb]).run Tryz.prog w = .ok (.value (.bool false)) w := fun lb cb => by
    rw [run_callFunc_extern Tryz.func173 (by kernel_rfl) (by kernel_rfl) (by kernel_rfl) (e := Extern.SlicesOverlaps.overlaps #[23, 23] #[4]) (by kernel_rfl),
      Lib.run_overlaps_apart w 23 4 37 Tryz.underlying23 2 Tryz.sizeOf37 ⟨vb, voff, none⟩ ⟨b, off + (i + m) * 2, none⟩ m vc lb cb hvb tA tB kA kB hsa hsb hkB hfa hfe]
    rfl
  have hdl : (cs.drop (i * 2)).length = (n - i) * 2 := by rw [List.length_drop, hcl]; omega
  have hw1 : IntKind.i64.wrap ((i : Int) + (m : Int)) = (i : Int) + (m : Int) := by rw [IntKind.wrap_i64]; omega
  have hb1 : (0 : Int) ≤ (i : Int) + (m : Int) := by omega
  have hin : i ≤ n := by omega
  have htn : ((i : Int) + (m : Int)).toNat = i + m := by omega
  have hb2 : ¬ (c = i + m) := by omega
  have hb3 : (i : Int) ≤ (n : Int) + (m : Int) := by omega
  have hb4 : ¬ (c = i) := by omega
  have hcp1 : ∀ ty dc sc, (Builtin.copy_ #[23, 23] ty #[.slice (some ⟨b, off + (i + m) * 2, none⟩) (n + m - (i + m)) dc, .slice (some ⟨b, off + i * 2, none⟩) (n + m - i) sc]).run Tryz.prog w.drew = .ok (goInt ((n - i : Nat) : Int)) (w.drew.setCells b (off + (i + m) * 2) (cs.drop (i * 2))) := fun ty dc sc => by
    have := run_copy_cellsK (P := Tryz.prog) w.drew 23 23 ty 37 b (off + (i + m) * 2) (n + m - (i + m)) dc 2 ⟨b, off + i * 2, none⟩ (n + m - i) sc (cs.drop (i * 2)) Tryz.underlying23 hsz (by rw [hdl]; simp only [Nat.min_def]; split <;> omega)
      (fun j v hj => by rw [Addr.add_lit, Nat.add_assoc]; exact hcs (i * 2 + j) v (by rwa [List.getElem?_drop] at hj))
      (fun j hj => by rw [Nat.add_assoc]; exact hsp _ (by omega)) (fun j hj => by rw [Nat.add_assoc]; exact hfz _ (by omega)) (fun v hv => h1c v (List.mem_of_mem_drop hv))
    rwa [show Nat.min (n + m - i) (n + m - (i + m)) = n - i by simp only [Nat.min_def]; split <;> omega] at this
  obtain ⟨W1, hW1⟩ : ∃ W1, W1 = w.drew.setCells b (off + (i + m) * 2) (cs.drop (i * 2)) := ⟨_, rfl⟩
  have hsp1 : ∀ k, k < (n + m) * 2 → (W1.cell? ⟨b, off + k, none⟩).isSome = true := fun k hk => by
    rw [hW1]
    exact isSome_setCells b _ _ _ (fun j hj => by rw [Nat.add_assoc]; exact hsp _ (by omega)) _ (hsp k hk)
  have hcp2 : ∀ (W : World), (∀ x, W.cell? x = W1.cell? x) → (∀ x, W.frozen? x = W1.frozen? x) → ∀ ty dc, (Builtin.copy_ #[23, 23] ty #[.slice (some ⟨b, off + i * 2, none⟩) (n + m - i) dc, .slice (some ⟨vb, voff, none⟩) m vc]).run Tryz.prog W = .ok (goInt m) (W.setCells b (off + i * 2) vs) := fun W hWc hWf ty dc => by
    have := run_copy_cellsK (P := Tryz.prog) W 23 23 ty 37 b (off + i * 2) (n + m - i) dc 2 ⟨vb, voff, none⟩ m vc vs Tryz.underlying23 hsz (by rw [hvl]; simp only [Nat.min_def]; split <;> omega)
      (fun j v hj => by
        rw [Addr.add_lit, hWc, hW1, World.cell?_setCells_out b _ _ _ _ (fun h _ => absurd h hvb)]
        exact hvs j v hj)
      (fun j hj => by rw [hWc, Nat.add_assoc]; exact hsp1 _ (by omega)) (fun j hj => by rw [hWf, hW1, World.frozen?_setCells, Nat.add_assoc]; exact hfz _ (by omega)) h1v
    rwa [show Nat.min m (n + m - i) = m by simp only [Nat.min_def]; split <;> omega] at this
  rw [← hW1] at hcp1
  go_enter Tryz.func150, Tryz.ntmps150
  go_wp2_with (simp only [hov])
  go_region_law_o (refine step_copy_runI rfl _ _ 23 23 rfl _ _ (by simp [Act.eval, Act.put]) (by simp [Act.eval, Act.put]) (hcp1 _ _ _) ?_)
  go_wp2_with (at_builtin; refine wpList_copy_runI _ rfl _ _ 23 23 rfl _ _ rfl rfl (hcp2 _ (fun _ => rfl) (fun _ => rfl) _ _) ?_)
  go_ret
  first | exact ⟨rfl, rfl⟩ | exact ⟨rfl, by rw [hW1]⟩
set_option maxHeartbeats 4000000 in
set_option maxRecDepth 100000 in
theorem end_room_InsFile (b off n c vb voff m vc : Nat) (vs : List Value) (w : World) (hm : 0 < m) (hroom : n + m ≤ c) (_hc63 : c ≤ 9223372036854775807)
    (hvl : vs.length = m * 2) (hsp : ∀ j, j < m * 2 → (w.cell? ⟨b, off + n * 2 + j, none⟩).isSome = true) (hfz : ∀ j, j < m * 2 → w.frozen? ⟨b, off + n * 2 + j, none⟩ = false)
    (hvs : ∀ j v, vs[j]? = some v → w.cell? ⟨vb, voff + j, none⟩ = some v) (h1v : ∀ v ∈ vs, v.oneCell' = true) :
    Calls Tryz.prog 150 #[.slice (some ⟨b, off, none⟩) n c, .int .i64 n, .slice (some ⟨vb, voff, none⟩) m vc] w fun e w' =>
      e = .returned (.slice (some ⟨b, off, none⟩) (n + m) c) ∧ w' = w.setCells b (off + n * 2) vs := by
  have mixed : Tryz.prog.follows .mixedOrders = true := by kernel_rfl
  have hz1 : ¬ ((m : Int) = 0) := by omega
  obtain ⟨i0, hi0, hz0, hzs, hzb⟩ := info_parts (P := Tryz.prog) (e := 37) (z := .agg #[.string ⟨#[]⟩, .slice none 0 0]) (size := 2) (bytes := 40) (by kernel_rfl)
  have hsrc : Src Tryz.prog i0.size 23 (.slice (some ⟨vb, voff, none⟩) m vc) m vs w := by
    rw [hzs]
    exact Src.ofSlice w Tryz.underlying23 ⟨vb, voff, none⟩ m vc vs (by omega) (fun j u hj => by rw [Addr.add_lit]; exact hvs j u hj) h1v
  go_enter Tryz.func150, Tryz.ntmps150
  go_wp2_with (at_builtin; refine wpList_append_room_src _ rfl _ _ 23 23 rfl 37 i0 Tryz.underlying23 hi0 b off n c rfl _ rfl m vs hsrc hroom (by rw [hvl, hzs]; exact hsp) (by rw [hvl, hzs]; exact hfz) ?_; rw [hzs])
  go_ret
  exact ⟨rfl, rfl⟩
set_option maxHeartbeats 4000000 in
set_option maxRecDepth 100000 in
theorem end_grow_InsFile (base : Option Addr) (n c vb voff m vc : Nat) (cs vs : List Value) (w : World) (hm : 0 < m) (hnc : n ≤ c) (hroom : c < n + m) (hbig : (n + m) * 40 ≤ 140737488355328)
    (hcl : cs.length = n * 2) (hvl : vs.length = m * 2) (hnil : base = none → n = 0)
    (hcs : ∀ a, base = some a → ∀ j v, cs[j]? = some v → w.cell? (a.add j) = some v)
    (hvs : ∀ j v, vs[j]? = some v → w.cell? ⟨vb, voff + j, none⟩ = some v) (h1v : ∀ v ∈ vs, v.oneCell' = true) :
    Calls Tryz.prog 150 #[.slice base n c, .int .i64 n, .slice (some ⟨vb, voff, none⟩) m vc] w fun e w' =>
      e = .returned (.slice (some ⟨w.heap.size, 0, none⟩) (n + m) (grownCap w (n + m) c 37)) ∧
      w' = w.drew.alloc (.cells ((cs ++ vs).toArray ++ Builtin.zeroCells (Value.agg #[.string ⟨#[]⟩, .slice none 0 0]).cells (grownCap w (n + m) c 37 - (n + m))) 37) := by
  obtain ⟨i0, hi0, hz0, hzs, hzb⟩ := info_parts (P := Tryz.prog) (e := 37) (z := .agg #[.string ⟨#[]⟩, .slice none 0 0]) (size := 2) (bytes := 40) (by kernel_rfl)
  have mixed : Tryz.prog.follows .mixedOrders = true := by kernel_rfl
  have hz1 : ¬ ((m : Int) = 0) := by omega
  have hsrc : Src Tryz.prog i0.size 23 (.slice (some ⟨vb, voff, none⟩) m vc) m vs w := by
    rw [hzs]
    exact Src.ofSlice w Tryz.underlying23 ⟨vb, voff, none⟩ m vc vs (by omega) (fun j u hj => by rw [Addr.add_lit]; exact hvs j u hj) h1v
  have hold : (Builtin.firstCells i0.size n (.slice base n c)).run Tryz.prog w.drew = .ok cs.toArray w.drew := by
    rw [hzs]
    cases base with
    | none =>
      have h0 := hnil rfl
      subst h0
      rw [List.length_eq_zero_iff.1 (by omega : cs.length = 0)]
      exact run_firstCells_none w.drew 2 0 0 c
    | some a => exact run_firstCells_some w.drew 2 n a n c cs (by omega) (fun j v hj => hcs a rfl j v hj)
  have hrun : ∀ ty, (Builtin.append_ #[23, 23] ty #[.slice base n c, .slice (some ⟨vb, voff, none⟩) m vc]).run Tryz.prog w = _ := fun ty =>
    run_append_grow_src w 23 23 ty 37 i0 _ Tryz.underlying23 hi0 hz0 base n c cs hold _ m vs hsrc hroom (by omega) (by rw [hzb]; exact growslice_fits hroom hbig)
  go_enter Tryz.func150, Tryz.ntmps150
  cases base with
  | none =>
    have h0 := hnil rfl
    subst h0
    go_wp2_with (at_builtin; refine Lib.wpList_append_run _ rfl _ _ _ _ rfl _ _ rfl rfl _ _ (hrun _) ?_)
    go_ret
    exact ⟨rfl, rfl⟩
  | some a =>
    obtain ⟨ab, ao, asp⟩ := a
    go_wp2_with (at_builtin; refine Lib.wpList_append_run _ rfl _ _ _ _ rfl _ _ rfl rfl _ _ (hrun _) ?_)
    all_goals (go_ret; exact ⟨rfl, rfl⟩)
set_option maxHeartbeats 4000000 in
set_option maxRecDepth 100000 in
theorem grow_InsFile (b off n c i vb voff m vc : Nat) (cs vs : List Value) (w : World) (hi : i < n) (hm : 0 < m) (hnc : n ≤ c) (hroom : c < n + m) (hbig : (n + m) * 40 ≤ 140737488355328)
    (hcl : cs.length = n * 2) (hvl : vs.length = m * 2)
    (hcs : ∀ j v, cs[j]? = some v → w.cell? ⟨b, off + j, none⟩ = some v)
    (hvs : ∀ j v, vs[j]? = some v → w.cell? ⟨vb, voff + j, none⟩ = some v) (h1c : ∀ v ∈ cs, v.oneCell' = true) (h1v : ∀ v ∈ vs, v.oneCell' = true) :
    Calls Tryz.prog 150 #[.slice (some ⟨b, off, none⟩) n c, .int .i64 i, .slice (some ⟨vb, voff, none⟩) m vc] w fun e w' =>
      e = .returned (.slice (some ⟨w.heap.size, 0, none⟩) (n + m) (grownCap w (n + m) c 37)) ∧
      w' = (((w.alloc (.cells ((cs.take (i * 2)).toArray ++ Builtin.zeroCells (Value.agg #[.string ⟨#[]⟩, .slice none 0 0]).cells (n + m - i) ++ Builtin.zeroCells (Value.agg #[.string ⟨#[]⟩, .slice none 0 0]).cells (grownCap w (n + m) c 37 - (n + m))) 37)).drew.setCells w.heap.size (i * 2) vs).drew).setCells w.heap.size ((i + m) * 2) (cs.drop (i * 2)) := by
  obtain ⟨i0, hi0, hz0, hzs, hzb⟩ := info_parts (P := Tryz.prog) (e := 37) (z := .agg #[.string ⟨#[]⟩, .slice none 0 0]) (size := 2) (bytes := 40) (by kernel_rfl)
  have mixed : Tryz.prog.follows .mixedOrders = true := by kernel_rfl
  have hz1 : ¬ ((m : Int) = 0) := by omega
  have hz2 : ¬ ((i : Int) = (n : Int)) := by omega
  have hz3 : (c : Int) < (n : Int) + (m : Int) := by omega
  have hsz : (Tryz.prog.info? 37).map (·.size) = some 2 := by kernel_rfl
  have hbw : b < w.heap.size := block_lt_of_cell (hcs 0 _ (List.getElem?_eq_getElem (by omega)))
  have hvw : vb < w.heap.size := block_lt_of_cell (hvs 0 _ (List.getElem?_eq_getElem (by omega)))
  have hkk : (n : Int) + (m : Int) - (i : Int) = ((n + m - i : Nat) : Int) := by omega
  have hik : i + (n + m - i) = n + m := by omega
  have hold : (Builtin.firstCells i0.size i (.slice (some ⟨b, off, none⟩) i c)).run Tryz.prog w.drew = .ok (cs.take (i * 2)).toArray w.drew := by
    rw [hzs]
    exact run_firstCells_some w.drew 2 i ⟨b, off, none⟩ i c (cs.take (i * 2)) (by rw [List.length_take]; omega) (fun j v hj => by
      rw [Addr.add_lit]
      rw [List.getElem?_take] at hj
      split at hj
      · exact hcs j v hj
      · cases hj)
  have hrz : ∀ ty, (Builtin.append_ #[23, 3] ty #[.slice (some ⟨b, off, none⟩) i c, .int .i64 ((n : Int) + (m : Int) - (i : Int))]).run Tryz.prog w =
      .ok (.slice (some ⟨w.heap.size, 0, none⟩) (n + m) (grownCap w (n + m) c 37)) (w.drew.alloc (.cells ((cs.take (i * 2)).toArray ++ Builtin.zeroCells (Value.agg #[.string ⟨#[]⟩, .slice none 0 0]).cells (n + m - i) ++ Builtin.zeroCells (Value.agg #[.string ⟨#[]⟩, .slice none 0 0]).cells (grownCap w (n + m) c 37 - (n + m))) 37)) := fun ty => by
    have h := Lib.run_append_grow_zeros w 23 3 ty 37 i0 _ .i64 .i64 Tryz.underlying23 Tryz.underlying3 hi0 hz0 (some ⟨b, off, none⟩) i c (cs.take (i * 2)) hold (n + m - i) (by omega) (by omega) (by omega) (by omega) (by rw [hzb]; omega) (by rw [hzb, hik]; exact growslice_fits hroom hbig)
    rw [hik] at h
    rw [hkk]
    exact h
  obtain ⟨G, hG⟩ : ∃ G, G = grownCap w (n + m) c 37 := ⟨_, rfl⟩
  obtain ⟨ROW, hROW⟩ : ∃ ROW : Array Value, ROW = (cs.take (i * 2)).toArray ++ Builtin.zeroCells (Value.agg #[.string ⟨#[]⟩, .slice none 0 0]).cells (n + m - i) ++ Builtin.zeroCells (Value.agg #[.string ⟨#[]⟩, .slice none 0 0]).cells (G - (n + m)) := ⟨_, rfl⟩
  rw [← hG] at hrz ⊢
  rw [← hROW] at hrz ⊢
  have hRl : (n + m) * 2 ≤ ROW.size := by
    rw [hROW]
    simp [Builtin.zeroCells, Value.cells]
    omega
  obtain ⟨W1, hW1⟩ : ∃ W1, W1 = w.drew.alloc (.cells ROW 37) := ⟨_, rfl⟩
  rw [← hW1] at hrz
  have hN : ∀ j, j < (n + m) * 2 → (W1.cell? ⟨w.heap.size, j, none⟩).isSome = true := fun j hj => by
    rw [hW1, World.cell?_alloc_at (w := w.drew) ROW _ w.heap.size j rfl, Array.getElem?_eq_getElem (by omega)]; rfl
  have hNf : ∀ j, W1.frozen? ⟨w.heap.size, j, none⟩ = false := fun j => by rw [hW1]; exact World.frozen?_alloc_at (w := w.drew) ROW _ w.heap.size j rfl
  have hOb : ∀ j v, w.cell? ⟨b, j, none⟩ = some v → W1.cell? ⟨b, j, none⟩ = some v := fun j v h => by rw [hW1, World.cell?_alloc_past (w := w.drew) _ b j hbw]; exact h
  have hOv : ∀ j v, w.cell? ⟨vb, j, none⟩ = some v → W1.cell? ⟨vb, j, none⟩ = some v := fun j v h => by rw [hW1, World.cell?_alloc_past (w := w.drew) _ vb j hvw]; exact h
  have hcpA : ∀ (W : World), (∀ x, W.cell? x = W1.cell? x) → (∀ x, W.frozen? x = W1.frozen? x) → ∀ ty dc, (Builtin.copy_ #[23, 23] ty #[.slice (some ⟨w.heap.size, i * 2, none⟩) (n + m - i) dc, .slice (some ⟨vb, voff, none⟩) m vc]).run Tryz.prog W = .ok (goInt m) (W.setCells w.heap.size (i * 2) vs) := fun W hWc hWf ty dc => by
    have := run_copy_cellsK (P := Tryz.prog) W 23 23 ty 37 w.heap.size (i * 2) (n + m - i) dc 2 ⟨vb, voff, none⟩ m vc vs Tryz.underlying23 hsz (by rw [hvl]; simp only [Nat.min_def]; split <;> omega)
      (fun j v hj => by rw [Addr.add_lit, hWc]; exact hOv _ v (hvs j v hj))
      (fun j hj => by rw [hWc]; exact hN _ (by omega)) (fun j hj => by rw [hWf]; exact hNf _) h1v
    rwa [show Nat.min m (n + m - i) = m by simp only [Nat.min_def]; split <;> omega] at this
  have hGn : n + m ≤ G := by rw [hG]; exact grownCap_ge w _ _ _
  have hG63 : G ≤ 9223372036854775807 := by
    have := grownCap_le_maxLen w (n + m) c 37 (by unfold maxLen; omega)
    rw [← hG] at this
    unfold maxLen at this
    omega
  have hGi : ¬ (G = i) := by omega
  have hGim : ¬ (G = i + m) := by omega
  have hci : ¬ (c = i) := by omega
  have hbN : b ≠ w.heap.size := by omega
  have hdl : (cs.drop (i * 2)).length = (n - i) * 2 := by rw [List.length_drop, hcl]; omega
  have hcpB : ∀ (W : World), (∀ x, W.cell? x = (W1.setCells w.heap.size (i * 2) vs).cell? x) → (∀ x, W.frozen? x = (W1.setCells w.heap.size (i * 2) vs).frozen? x) → ∀ ty dc sc, (Builtin.copy_ #[23, 23] ty #[.slice (some ⟨w.heap.size, (i + m) * 2, none⟩) (n + m - (i + m)) dc, .slice (some ⟨b, off + i * 2, none⟩) (n - i) sc]).run Tryz.prog W = .ok (goInt ((n - i : Nat) : Int)) (W.setCells w.heap.size ((i + m) * 2) (cs.drop (i * 2))) := fun W hWc hWf ty dc sc => by
    have := run_copy_cellsK (P := Tryz.prog) W 23 23 ty 37 w.heap.size ((i + m) * 2) (n + m - (i + m)) dc 2 ⟨b, off + i * 2, none⟩ (n - i) sc (cs.drop (i * 2)) Tryz.underlying23 hsz (by rw [hdl]; simp only [Nat.min_def]; split <;> omega)
      (fun j v hj => by
        rw [Addr.add_lit, hWc, World.cell?_setCells_out _ _ _ _ _ (fun h _ => absurd h hbN), Nat.add_assoc]
        exact hOb _ v (hcs (i * 2 + j) v (by rwa [List.getElem?_drop] at hj)))
      (fun j hj => by rw [hWc]; exact isSome_setCells _ _ _ _ (fun t ht => hN _ (by omega)) _ (hN _ (by omega)))
      (fun j hj => by rw [hWf, World.frozen?_setCells]; exact hNf _) (fun v hv => h1c v (List.mem_of_mem_drop hv))
    rwa [show Nat.min (n - i) (n + m - (i + m)) = n - i by simp only [Nat.min_def]; split <;> omega] at this
  subst hW1
  have hE1 : ∀ x, ((w.alloc (.cells ROW 37)).drew).cell? x = (w.drew.alloc (.cells ROW 37)).cell? x := fun x => rfl
  have hE2 : ∀ x, ((w.alloc (.cells ROW 37)).drew).frozen? x = (w.drew.alloc (.cells ROW 37)).frozen? x := fun x => rfl
  have hF1 : ∀ x, (((w.alloc (.cells ROW 37)).drew.setCells w.heap.size (i * 2) vs).drew).cell? x = ((w.drew.alloc (.cells ROW 37)).setCells w.heap.size (i * 2) vs).cell? x := fun x => rfl
  have hF2 : ∀ x, (((w.alloc (.cells ROW 37)).drew.setCells w.heap.size (i * 2) vs).drew).frozen? x = ((w.drew.alloc (.cells ROW 37)).setCells w.heap.size (i * 2) vs).frozen? x := fun x => rfl
  have hw1 : IntKind.i64.wrap ((i : Int) + (m : Int)) = (i : Int) + (m : Int) := by rw [IntKind.wrap_i64]; omega
  have hb1 : (0 : Int) ≤ (i : Int) + (m : Int) := by omega
  have hin : i ≤ n := by omega
  have htn : ((i : Int) + (m : Int)).toNat = i + m := by omega
  have hb3 : (i : Int) ≤ (n : Int) := by omega
  clear hkk hik hold hROW hG hRl
  go_enter Tryz.func150, Tryz.ntmps150
  go_wp2_with (first
    | (at_builtin; refine Lib.wpList_append_run _ rfl _ _ _ _ rfl _ _ rfl rfl _ _ (hrz _) ?_)
    | (at_builtin; refine wpList_copy_runI _ rfl _ _ 23 23 rfl _ _ rfl rfl (hcpA _ hE1 hE2 _ _) ?_)
    | (at_builtin; refine wpList_copy_runI _ rfl _ _ 23 23 rfl _ _ rfl rfl (hcpB _ (fun _ => rfl) (fun _ => rfl) _ _ _) ?_))
  go_region_law_o (refine step_copy_runI rfl _ _ 23 23 rfl (.slice (some ⟨w.heap.size, (i + m) * 2, none⟩) (n + m - (i + m)) (G - (i + m))) (.slice (some ⟨b, off + i * 2, none⟩) (n - i) (c - i)) (by simp [Act.eval, Act.put]) (by simp [Act.eval, Act.put]) (hcpB _ hF1 hF2 3 (G - (i + m)) (c - i)) ?_)
  go_wp2
  go_ret
  exact ⟨rfl, rfl⟩
theorem zc_InsFile (k : Nat) : (Builtin.zeroCells (Value.agg #[.string ⟨#[]⟩, .slice none 0 0]).cells k).size = k * 2 := by simp [Builtin.zeroCells, Value.cells]
theorem k_InsFile : InsertsAt Tryz.prog 150 37 2 40 := by
  intro w v1 v2 n i xs ys h1 h2 hap hin hb ho1 ho2
  have hbig : (n + 1) * 40 ≤ 140737488355328 := hb
  have hyl : ys.length = 1 * 2 := h2.1
  have hxl : xs.length = n * 2 := h1.1
  rcases h2.2 with ⟨_, h0⟩ | ⟨vb, vc, vcur, rfl, _, hvb, hv1, hv2, hv3, hv4⟩
  · cases h0
  have hvs : ∀ j v, ys[j]? = some v → w.cell? ⟨vb, 0 + j, none⟩ = some v := by
    intro j v hj
    have hjl := (List.getElem?_eq_some_iff.1 hj).1
    rw [← hv4, List.getElem?_take_of_lt (by omega), Array.getElem?_toList] at hj
    simp only [World.cell?, hvb, Nat.zero_add, Option.isSome_none, Bool.false_eq_true, if_false]
    exact hj
  have hvw : vb < w.heap.size := (Array.getElem?_eq_some_iff.1 hvb).1
  -- a new row
  have newrow : ∀ (W : World) (G : Nat) (A : Array Value), w.grownBy W none → W.heap[w.heap.size]? = some (.cells A 37 (0, 0)) → n + 1 ≤ G → G ≤ maxLen → A.size = G * 2 → A.toList.take ((n + 1) * 2) = xs.take (i * 2) ++ ys ++ xs.drop (i * 2) →
      ∃ v, Ending.returned (Value.slice (some ⟨w.heap.size, 0, none⟩) (n + 1) G) = .returned v ∧ w.grownBy W v1.ownBlock ∧ W.ownsRow 0 37 2 v (n + 1) (xs.take (i * 2) ++ ys ++ xs.drop (i * 2)) ∧ ∀ b, v.ownBlock = some b → v1.ownBlock = some b ∨ w.heap.size ≤ b := by
    intro W G A hg hh hG hG2 hA ht
    refine ⟨_, rfl, ⟨hg.os, hg.tape, hg.output, hg.size, fun k hk _ => hg.block k hk (by simp)⟩, ⟨by rw [← ht, List.length_take, Array.length_toList, hA]; omega, .inr ⟨w.heap.size, G, A, rfl, Nat.zero_le _, hh, hG, hG2, hA, ht⟩⟩, fun b hb => ?_⟩
    simp [Value.ownBlock] at hb
    exact .inr (by omega)
  rcases h1.2 with ⟨rfl, h0⟩ | ⟨g, c, cur, rfl, _, hgb, hnc, hcm, hcur, htake⟩
  · -- nothing stands there
    subst h0
    obtain rfl : i = 0 := by omega
    have hx0 : xs = [] := List.eq_nil_of_length_eq_zero (by omega)
    subst hx0
    refine (end_grow_InsFile none 0 0 vb 0 1 vc [] ys w (by omega) (by omega) (by omega) hbig rfl hyl (fun _ => rfl) (fun a h => by cases h) hvs ho2).mono ?_
    rintro r w' ⟨rfl, rfl⟩
    refine newrow _ _ _ ?_ (World.alloc_heap_new w.drew _) (grownCap_ge w _ _ _) (grownCap_le_maxLen w _ _ _ (by unfold maxLen; omega)) ?_ ?_
    · exact grownBy_drew_alloc w _
    · have := grownCap_ge w (0 + 1) 0 37
      generalize grownCap w (0 + 1) 0 37 = G at this ⊢
      simp only [Array.size_append, zc_InsFile]
      simp [hyl]
      omega
    · simp [hyl]
  · have hgw : g < w.heap.size := (Array.getElem?_eq_some_iff.1 hgb).1
    have hvg : vb ≠ g := fun e => hap g rfl (by simp [Value.ownBlock, e])
    have hcs : ∀ j v, xs[j]? = some v → w.cell? ⟨g, 0 + j, none⟩ = some v := by
      intro j v hj
      have hjl := (List.getElem?_eq_some_iff.1 hj).1
      rw [← htake, List.getElem?_take_of_lt (by omega), Array.getElem?_toList] at hj
      simp only [World.cell?, hgb, Nat.zero_add, Option.isSome_none, Bool.false_eq_true, if_false]
      exact hj
    have hsp : ∀ j, j < c * 2 → (w.cell? ⟨g, 0 + j, none⟩).isSome = true := by
      intro j hj
      simp only [World.cell?, hgb, Nat.zero_add, Option.isSome_none, Bool.false_eq_true, if_false]
      rw [Array.getElem?_eq_getElem (by omega)]; rfl
    have hfz : ∀ j, w.frozen? ⟨g, j, none⟩ = false := fun j => by simp [World.frozen?, hgb]
    have hc63 : c ≤ 9223372036854775807 := by unfold maxLen at hcm; omega
    -- in place
    have inplace : ∀ (W : World) (A : Array Value), w.grownBy W (some g) → W.heap[g]? = some (.cells A 37 (0, 0)) → n + 1 ≤ c → A.size = c * 2 → A.toList.take ((n + 1) * 2) = xs.take (i * 2) ++ ys ++ xs.drop (i * 2) →
        ∃ v, Ending.returned (Value.slice (some ⟨g, 0, none⟩) (n + 1) c) = .returned v ∧ w.grownBy W (Value.slice (some ⟨g, 0, none⟩) n c).ownBlock ∧ W.ownsRow 0 37 2 v (n + 1) (xs.take (i * 2) ++ ys ++ xs.drop (i * 2)) ∧ ∀ b, v.ownBlock = some b → (Value.slice (some ⟨g, 0, none⟩) n c).ownBlock = some b ∨ w.heap.size ≤ b := by
      intro W A hg hh hG hA ht
      exact ⟨_, rfl, hg, ⟨by rw [← ht, List.length_take, Array.length_toList, hA]; omega, .inr ⟨g, c, A, rfl, Nat.zero_le _, hh, hG, hcm, hA, ht⟩⟩, fun b hb => .inl hb⟩
    by_cases hie : i = n
    · subst hie
      have hxe : xs.take (i * 2) ++ ys ++ xs.drop (i * 2) = xs ++ ys := by rw [List.take_of_length_le (by omega), List.drop_of_length_le (by omega), List.append_nil]
      by_cases hroom : i + 1 ≤ c
      · refine (end_room_InsFile g 0 i c vb 0 1 vc ys w (by omega) hroom hc63 hyl (fun j hj => by have := hsp (i * 2 + j) (by omega); rwa [← Nat.add_assoc] at this) (fun j hj => hfz _) hvs ho2).mono ?_
        rintro r w' ⟨rfl, rfl⟩
        rw [Nat.zero_add, setCells_row ys (i * 2) cur w hgb (by omega)]
        refine inplace _ _ (grownBy_setRow _) (setRow_heap w g cur _ _ _ hgb) hroom (by simp; omega) ?_
        rw [hxe]
        have e1 : cur.toList.take (i * 2) = xs := htake
        rw [e1]
        have e2 : (xs ++ ys).length = (i + 1) * 2 := by simp; omega
        simp only [List.append_assoc]
        rw [← List.append_assoc, ← e2, List.take_left]
      · refine (end_grow_InsFile (some ⟨g, 0, none⟩) i c vb 0 1 vc xs ys w (by omega) hnc (by omega) hbig hxl hyl (fun h => by cases h) (fun a h j v hj => by injection h with h; subst h; rw [Addr.add_lit]; exact hcs j v hj) hvs ho2).mono ?_
        rintro r w' ⟨rfl, rfl⟩
        have hn1 : i + 1 ≤ maxLen := by unfold maxLen at hcm ⊢; omega
        refine newrow _ _ _ ?_ (World.alloc_heap_new w.drew _) (grownCap_ge w _ _ _) (grownCap_le_maxLen w _ _ _ hn1) ?_ ?_
        · exact grownBy_drew_alloc w _
        · have := grownCap_ge w (i + 1) c 37
          generalize grownCap w (i + 1) c 37 = G at this ⊢
          simp only [Array.size_append, zc_InsFile]
          simp [hyl, hxl]
          omega
        · rw [hxe]
          have e2 : (xs ++ ys).length = (i + 1) * 2 := by simp; omega
          simp only [Array.toList_append, List.append_assoc]
          rw [← List.append_assoc, ← e2, List.take_left]
    · have hilt : i < n := by omega
      by_cases hroom : n + 1 ≤ c
      · refine (shift_InsFile g 0 n c i vb 0 1 vc xs ys w hilt (by omega) hroom hc63 hvg hxl hyl hcs (fun j hj => hsp j (by omega)) (fun j hj => hfz _) hvs ho1 ho2 37 37 vcur.size cur.size (by simp [World.shape?, hvb]) (by simp [World.shape?, hgb]) (by omega) (by simp [World.frozen?, hvb]) (by simp [World.frozen?, hvb])).mono ?_
        rintro r w' ⟨rfl, rfl⟩
        have hd : (w.drew).heap[g]? = some (.cells cur 37 (0, 0)) := hgb
        have hdl : (xs.drop (i * 2)).length = (n - i) * 2 := by rw [List.length_drop]; omega
        rw [Nat.zero_add, Nat.zero_add, setCells_row (xs.drop (i * 2)) ((i + 1) * 2) cur w.drew hd (by omega)]
        have hh := setRow_heap w.drew g cur (cur.toList.take ((i + 1) * 2) ++ xs.drop (i * 2) ++ cur.toList.drop ((i + 1) * 2 + (xs.drop (i * 2)).length)).toArray _ _ hd
        have hsz : (cur.toList.take ((i + 1) * 2) ++ xs.drop (i * 2) ++ cur.toList.drop ((i + 1) * 2 + (xs.drop (i * 2)).length)).toArray.size = c * 2 := by simp; omega
        rw [setCells_row ys (i * 2) _ _ hh (by rw [hsz]; omega)]
        refine inplace _ _ ?_ (setRow_heap _ g _ _ _ _ hh) hroom ?_ ?_
        · have a1 : w.drew.grownBy (w.drew.setRow g (cur.toList.take ((i + 1) * 2) ++ xs.drop (i * 2) ++ cur.toList.drop ((i + 1) * 2 + (xs.drop (i * 2)).length)).toArray) (some g) := grownBy_setRow _
          have a2 := a1.trans (grownBy_setRow (((cur.toList.take ((i + 1) * 2) ++ xs.drop (i * 2) ++ cur.toList.drop ((i + 1) * 2 + (xs.drop (i * 2)).length)).toArray.toList.take (i * 2) ++ ys ++ (cur.toList.take ((i + 1) * 2) ++ xs.drop (i * 2) ++ cur.toList.drop ((i + 1) * 2 + (xs.drop (i * 2)).length)).toArray.toList.drop (i * 2 + ys.length)).toArray))
          exact ⟨a2.os, a2.tape, a2.output, a2.size, fun k hk hne => a2.block k hk hne⟩
        · simp
          omega
        · have := ins_list cur.toList xs ys i n (by omega) htake hyl (by simp; omega)
          simpa using this
      · refine (grow_InsFile g 0 n c i vb 0 1 vc xs ys w hilt (by omega) hnc (by omega) hbig hxl hyl hcs hvs ho1 ho2).mono ?_
        rintro r w' ⟨rfl, rfl⟩
        have hn1 : n + 1 ≤ maxLen := by unfold maxLen at hcm ⊢; omega
        have hGe := grownCap_ge w (n + 1) c 37
        have hGm := grownCap_le_maxLen w (n + 1) c 37 hn1
        generalize grownCap w (n + 1) c 37 = G at hGe hGm ⊢
        obtain ⟨ROW, hROW⟩ : ∃ ROW : Array Value, ROW = (xs.take (i * 2)).toArray ++ Builtin.zeroCells (Value.agg #[.string ⟨#[]⟩, .slice none 0 0]).cells (n + 1 - i) ++ Builtin.zeroCells (Value.agg #[.string ⟨#[]⟩, .slice none 0 0]).cells (G - (n + 1)) := ⟨_, rfl⟩
        rw [← hROW]
        have hRs : ROW.size = G * 2 := by
          rw [hROW]
          simp only [Array.size_append, zc_InsFile]
          simp [hxl]
          omega
        have hRt : ROW.toList.take (i * 2) = xs.take (i * 2) := by
          have e2 : (xs.take (i * 2)).length = i * 2 := by simp; omega
          rw [hROW]
          simp only [Array.toList_append, List.append_assoc]
          rw [List.take_append_of_le_length (by rw [e2]; omega), List.take_of_length_le (by rw [e2]; omega)]
        have hd : ((w.alloc (.cells ROW 37)).drew).heap[w.heap.size]? = some (.cells ROW 37 (0, 0)) := World.alloc_heap_new w _
        rw [setCells_row ys (i * 2) ROW _ hd (by omega)]
        have hh := setRow_heap _ w.heap.size ROW (ROW.toList.take (i * 2) ++ ys ++ ROW.toList.drop (i * 2 + ys.length)).toArray _ _ hd
        have hsz : (ROW.toList.take (i * 2) ++ ys ++ ROW.toList.drop (i * 2 + ys.length)).toArray.size = G * 2 := by simp; omega
        have hh2 : ((((w.alloc (.cells ROW 37)).drew).setRow w.heap.size (ROW.toList.take (i * 2) ++ ys ++ ROW.toList.drop (i * 2 + ys.length)).toArray).drew).heap[w.heap.size]? = some (.cells (ROW.toList.take (i * 2) ++ ys ++ ROW.toList.drop (i * 2 + ys.length)).toArray 37 (0, 0)) := hh
        have hdl : (xs.drop (i * 2)).length = (n - i) * 2 := by rw [List.length_drop]; omega
        rw [setCells_row (xs.drop (i * 2)) ((i + 1) * 2) _ _ hh2 (by rw [hsz]; omega)]
        refine newrow _ _ _ ?_ (setRow_heap _ w.heap.size _ _ _ _ hh2) hGe hGm (by simp; omega) ?_
        · exact grownBy_two w _ _ _
        · rw [hRt]
          have e2 : (xs.take (i * 2) ++ ys).length = (i + 1) * 2 := by simp; omega
          have e3 : (xs.take (i * 2) ++ ys ++ xs.drop (i * 2)).length = (n + 1) * 2 := by simp; omega
          have e4 : (xs.take (i * 2) ++ ys ++ ROW.toList.drop (i * 2 + ys.length)).toArray.toList.take ((i + 1) * 2) = xs.take (i * 2) ++ ys := by
            rw [List.toList_toArray, ← e2, List.take_left]
          rw [e4]
          simp only [List.toList_toArray]
          rw [← e3, List.take_left]
end Go.Proofs.YtlkknmhhefjmjaaGreatDoor
