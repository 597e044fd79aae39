/- The code of the functions, as the evaluator reads it. Laid by a program (wip/gen/dec.py). -/
import Derived.Test.YtadeoaglhaaimaaDoorProg
import Derived.Test.YtadeoaglhaaimaaDoorPwFam
import Derived.KernelRfl
namespace Go.Proofs.YtadeoaglhaaimaaDoor
open Go.PW Go
theorem hm : Tryd.prog.follows .mixedOrders = true := by kernel_rfl
/- 47 changeforge/lines.Validate -/
def Tryd.r_lines_Validate_0 : LReg := ⟨[⟨(some 2), none, .alloc 30 2 [.int .i64 (0), .int .i64 (0)]⟩], false, []⟩
def Tryd.r_lines_Validate_1 : LReg := ⟨[⟨(some 5), none, .mv (.t 0)⟩,
  ⟨(some 6), none, .len (.t 5)⟩,
  ⟨(some 7), none, .bin .gtr (.t 6) (.c (.int .i64 (120)))⟩], false, []⟩
def Tryd.r_lines_Validate_2 : LReg := ⟨[⟨(some 8), none, .build [.int .i64 (0), .int .i64 (0)] [(0, 1, (.c (.int .i64 (2)))), (1, 1, (.c (.int .i64 (-1))))]⟩,
  ⟨none, none, .store 2 (.t 2) (.t 8)⟩], false, []⟩
def Tryd.r_lines_Validate_3 : LReg := ⟨[⟨(some 9), none, .mv (.t 0)⟩,
  ⟨(some 10), none, .len (.t 9)⟩,
  ⟨(some 11), none, .mv (.c (.int .i64 (0)))⟩], false, []⟩
def Tryd.r_lines_Validate_4 : LReg := ⟨[⟨(some 12), none, .bin .lss (.t 11) (.t 10)⟩], false, []⟩
def Tryd.r_lines_Validate_5 : LReg := ⟨[⟨(some 13), none, .mv (.t 11)⟩,
  ⟨(some 14), none, .idx 1 (.t 9) (.t 11)⟩,
  ⟨(some 15), none, .load 1 false (.t 14)⟩,
  ⟨(some 3), none, .mv (.t 13)⟩,
  ⟨(some 4), none, .mv (.t 15)⟩], false, []⟩
def Tryd.r_lines_Validate_6 : LReg := ⟨[⟨(some 16), none, .mv (.t 4)⟩,
  ⟨(some 17), none, .slen (.t 16)⟩,
  ⟨(some 18), none, .bin .gtr (.t 17) (.c (.int .i64 (80)))⟩], false, []⟩
def Tryd.r_lines_Validate_7 : LReg := ⟨[⟨(some 19), none, .mv (.t 3)⟩,
  ⟨(some 20), none, .build [.int .i64 (0), .int .i64 (0)] [(0, 1, (.c (.int .i64 (2)))), (1, 1, (.t 19))]⟩,
  ⟨none, none, .store 2 (.t 2) (.t 20)⟩], false, []⟩
def Tryd.r_lines_Validate_8 : LReg := ⟨[⟨(some 21), none, .mv (.t 4)⟩,
  ⟨(some 22), none, .call 62 [(.t 21), (.c (.int .u8 (10)))]⟩,
  ⟨(some 23), none, .bin .geq (.t 22) (.c (.int .i64 (0)))⟩], false, []⟩
def Tryd.r_lines_Validate_9 : LReg := ⟨[⟨(some 24), none, .mv (.t 3)⟩,
  ⟨(some 25), none, .build [.int .i64 (0), .int .i64 (0)] [(0, 1, (.c (.int .i64 (5)))), (1, 1, (.t 24))]⟩,
  ⟨none, none, .store 2 (.t 2) (.t 25)⟩], false, []⟩
def Tryd.r_lines_Validate_10 : LReg := ⟨[⟨(some 26), none, .bin .add (.t 11) (.c (.int .i64 (1)))⟩,
  ⟨(some 11), none, .mv (.t 26)⟩], false, []⟩
def Tryd.r_lines_Validate_11 : LReg := ⟨[⟨(some 27), none, .build [.int .i64 (0), .int .i64 (0)] []⟩,
  ⟨none, none, .store 2 (.t 2) (.t 27)⟩], false, []⟩
def Tryd.l_lines_Validate : LCode := (.seq (.reg Tryd.r_lines_Validate_0) (.seq (.seq (.reg Tryd.r_lines_Validate_1) (.cond (.t 7) (.seq (.reg Tryd.r_lines_Validate_2) .ret) .skip)) (.seq (.seq (.reg Tryd.r_lines_Validate_3) (.block 0 (.loop (.seq (.reg Tryd.r_lines_Validate_4) (.seq (.cond (.t 12) .skip (.exit 0)) (.seq (.block 1 (.seq (.reg Tryd.r_lines_Validate_5) (.seq (.seq (.reg Tryd.r_lines_Validate_6) (.cond (.t 18) (.seq (.reg Tryd.r_lines_Validate_7) .ret) .skip)) (.seq (.reg Tryd.r_lines_Validate_8) (.cond (.t 23) (.seq (.reg Tryd.r_lines_Validate_9) .ret) .skip))))) (.reg Tryd.r_lines_Validate_10))))))) (.seq (.reg Tryd.r_lines_Validate_11) .ret))))
theorem Tryd.c_lines_Validate : fnComp Tryd.prog 47 = some (28, Tryd.l_lines_Validate, [.cell 2 2 true]) := by kernel_rfl

/- 31 changeforge/sandbox.checkOp -/
def Tryd.r_sandbox_checkOp_0 : LReg := ⟨[⟨(some 1), none, .box 47 2 (.t 0)⟩,
  ⟨(some 2), none, .mv (.c (.int .i64 (0)))⟩], false, []⟩
def Tryd.r_sandbox_checkOp_1 : LReg := ⟨[⟨(some 3), none, .fieldAddr 0 (.t 1)⟩,
  ⟨(some 4), none, .load 1 false (.t 3)⟩], false, []⟩
def Tryd.r_sandbox_checkOp_2 : LReg := ⟨[⟨(some 6), none, .bin .eql (.t 4) (.c (.int .i64 (1)))⟩,
  ⟨(some 5), none, .mv (.t 6)⟩], false, []⟩
def Tryd.r_sandbox_checkOp_3 : LReg := ⟨[⟨(some 7), none, .bin .eql (.t 4) (.c (.int .i64 (2)))⟩,
  ⟨(some 5), none, .mv (.t 7)⟩], false, []⟩
def Tryd.r_sandbox_checkOp_4 : LReg := ⟨[⟨(some 8), none, .fieldAddr 1 (.t 1)⟩,
  ⟨(some 9), none, .load 1 false (.t 8)⟩,
  ⟨(some 10), none, .call 30 [(.t 9)]⟩,
  ⟨(some 11), none, .un .not (.t 10)⟩], false, []⟩
def Tryd.r_sandbox_checkOp_5 : LReg := ⟨[⟨(some 2), none, .mv (.c (.int .i64 (12)))⟩], false, []⟩
def Tryd.r_sandbox_checkOp_6 : LReg := ⟨[⟨(some 13), none, .bin .eql (.t 4) (.c (.int .i64 (3)))⟩,
  ⟨(some 12), none, .mv (.t 13)⟩], false, []⟩
def Tryd.r_sandbox_checkOp_7 : LReg := ⟨[⟨(some 14), none, .fieldAddr 1 (.t 1)⟩,
  ⟨(some 15), none, .load 1 false (.t 14)⟩,
  ⟨(some 16), none, .mkSlice 9 1 1 [.str []] [(0, (.t 15))]⟩,
  ⟨(some 17), none, .call 47 [(.t 16)]⟩,
  ⟨(some 18), none, .field 0 1 false (.t 17)⟩,
  ⟨(some 2), none, .mv (.t 18)⟩], false, []⟩
def Tryd.r_sandbox_checkOp_8 : LReg := ⟨[⟨(some 20), none, .bin .eql (.t 4) (.c (.int .i64 (4)))⟩,
  ⟨(some 19), none, .mv (.t 20)⟩], false, []⟩
def Tryd.r_sandbox_checkOp_9 : LReg := ⟨[⟨(some 21), none, .bin .eql (.t 4) (.c (.int .i64 (5)))⟩,
  ⟨(some 19), none, .mv (.t 21)⟩], false, []⟩
def Tryd.r_sandbox_checkOp_10 : LReg := ⟨[⟨(some 22), none, .fieldAddr 1 (.t 1)⟩,
  ⟨(some 23), none, .load 1 false (.t 22)⟩,
  ⟨(some 24), none, .bin .neq (.t 23) (.c (.str []))⟩], false, []⟩
def Tryd.r_sandbox_checkOp_11 : LReg := ⟨[⟨(some 2), none, .mv (.c (.int .i64 (5)))⟩], false, []⟩
def Tryd.r_sandbox_checkOp_12 : LReg := ⟨[⟨(some 2), none, .mv (.c (.int .i64 (4)))⟩], false, []⟩
def Tryd.r_sandbox_checkOp_13 : LReg := ⟨[⟨(some 2), none, .mv (.c (.int .i64 (0)))⟩], false, []⟩
def Tryd.l_sandbox_checkOp : LCode := (.seq (.reg Tryd.r_sandbox_checkOp_0) (.seq (.seq (.reg Tryd.r_sandbox_checkOp_1) (.block 0 (.seq (.seq (.reg Tryd.r_sandbox_checkOp_2) (.cond (.t 5) .skip (.reg Tryd.r_sandbox_checkOp_3))) (.cond (.t 5) (.seq (.reg Tryd.r_sandbox_checkOp_4) (.cond (.t 11) (.seq (.reg Tryd.r_sandbox_checkOp_5) .ret) .skip)) (.seq (.reg Tryd.r_sandbox_checkOp_6) (.cond (.t 12) (.seq (.reg Tryd.r_sandbox_checkOp_7) .ret) (.seq (.seq (.reg Tryd.r_sandbox_checkOp_8) (.cond (.t 19) .skip (.reg Tryd.r_sandbox_checkOp_9))) (.cond (.t 19) (.seq (.reg Tryd.r_sandbox_checkOp_10) (.cond (.t 24) (.seq (.reg Tryd.r_sandbox_checkOp_11) .ret) .skip)) (.seq (.reg Tryd.r_sandbox_checkOp_12) .ret))))))))) (.seq (.reg Tryd.r_sandbox_checkOp_13) .ret)))
theorem Tryd.c_sandbox_checkOp : fnComp Tryd.prog 31 = some (25, Tryd.l_sandbox_checkOp, [.t 2]) := by kernel_rfl

/- 11 changeforge/sandbox.Validate -/
def Tryd.r_sandbox_Validate_0 : LReg := ⟨[⟨(some 1), none, .box 25 3 (.t 0)⟩,
  ⟨(some 2), none, .alloc 30 2 [.int .i64 (0), .int .i64 (0)]⟩], false, []⟩
def Tryd.r_sandbox_Validate_1 : LReg := ⟨[⟨(some 8), none, .fieldAddr 0 (.t 1)⟩,
  ⟨(some 9), none, .load 1 false (.t 8)⟩,
  ⟨(some 10), none, .len (.t 9)⟩,
  ⟨(some 11), none, .bin .gtr (.t 10) (.c (.int .i64 (8)))⟩,
  ⟨(some 12), none, .mv (.t 11)⟩,
  ⟨(some 13), (some (12, false)), .fieldAddr 1 (.t 1)⟩,
  ⟨(some 14), (some (12, false)), .load 1 false (.t 13)⟩,
  ⟨(some 15), (some (12, false)), .len (.t 14)⟩,
  ⟨(some 16), (some (12, false)), .bin .gtr (.t 15) (.c (.int .i64 (16)))⟩,
  ⟨(some 17), none, .pick (.t 12) (.c (.bool true)) (.t 16)⟩], false, []⟩
def Tryd.r_sandbox_Validate_2 : LReg := ⟨[⟨(some 18), none, .build [.int .i64 (0), .int .i64 (0)] [(0, 1, (.c (.int .i64 (2)))), (1, 1, (.c (.int .i64 (-1))))]⟩,
  ⟨none, none, .store 2 (.t 2) (.t 18)⟩], false, []⟩
def Tryd.r_sandbox_Validate_3 : LReg := ⟨[⟨(some 19), none, .fieldAddr 0 (.t 1)⟩,
  ⟨(some 20), none, .load 1 false (.t 19)⟩,
  ⟨(some 21), none, .len (.t 20)⟩,
  ⟨(some 22), none, .mv (.c (.int .i64 (0)))⟩], false, []⟩
def Tryd.r_sandbox_Validate_4 : LReg := ⟨[⟨(some 23), none, .bin .lss (.t 22) (.t 21)⟩], false, []⟩
def Tryd.r_sandbox_Validate_5 : LReg := ⟨[⟨(some 24), none, .mv (.t 22)⟩,
  ⟨(some 25), none, .idx 1 (.t 20) (.t 22)⟩,
  ⟨(some 26), none, .load 1 false (.t 25)⟩,
  ⟨(some 3), none, .mv (.t 24)⟩,
  ⟨(some 4), none, .mv (.t 26)⟩], false, []⟩
def Tryd.r_sandbox_Validate_6 : LReg := ⟨[⟨(some 27), none, .mv (.t 4)⟩,
  ⟨(some 28), none, .call 30 [(.t 27)]⟩,
  ⟨(some 29), none, .un .not (.t 28)⟩], false, []⟩
def Tryd.r_sandbox_Validate_7 : LReg := ⟨[⟨(some 30), none, .mv (.t 3)⟩,
  ⟨(some 31), none, .build [.int .i64 (0), .int .i64 (0)] [(0, 1, (.c (.int .i64 (12)))), (1, 1, (.t 30))]⟩,
  ⟨none, none, .store 2 (.t 2) (.t 31)⟩], false, []⟩
def Tryd.r_sandbox_Validate_8 : LReg := ⟨[⟨(some 32), none, .mv (.t 3)⟩,
  ⟨(some 33), none, .bin .gtr (.t 32) (.c (.int .i64 (0)))⟩,
  ⟨(some 34), none, .mv (.t 33)⟩,
  ⟨(some 35), (some (34, true)), .mv (.t 4)⟩,
  ⟨(some 36), (some (34, true)), .fieldAddr 0 (.t 1)⟩,
  ⟨(some 37), (some (34, true)), .load 1 false (.t 36)⟩,
  ⟨(some 38), (some (34, true)), .mv (.t 3)⟩,
  ⟨(some 39), (some (34, true)), .bin .sub (.t 38) (.c (.int .i64 (1)))⟩,
  ⟨(some 40), (some (34, true)), .idx 1 (.t 37) (.t 39)⟩,
  ⟨(some 41), (some (34, true)), .load 1 false (.t 40)⟩,
  ⟨(some 42), (some (34, true)), .bin .leq (.t 35) (.t 41)⟩,
  ⟨(some 43), none, .pick (.t 34) (.t 42) (.c (.bool false))⟩], false, []⟩
def Tryd.r_sandbox_Validate_9 : LReg := ⟨[⟨(some 44), none, .mv (.t 3)⟩,
  ⟨(some 45), none, .build [.int .i64 (0), .int .i64 (0)] [(0, 1, (.c (.int .i64 (5)))), (1, 1, (.t 44))]⟩,
  ⟨none, none, .store 2 (.t 2) (.t 45)⟩], false, []⟩
def Tryd.r_sandbox_Validate_10 : LReg := ⟨[⟨(some 46), none, .bin .add (.t 22) (.c (.int .i64 (1)))⟩,
  ⟨(some 22), none, .mv (.t 46)⟩], false, []⟩
def Tryd.r_sandbox_Validate_11 : LReg := ⟨[⟨(some 47), none, .fieldAddr 2 (.t 1)⟩,
  ⟨(some 48), none, .load 1 false (.t 47)⟩,
  ⟨(some 49), none, .call 30 [(.t 48)]⟩,
  ⟨(some 50), none, .un .not (.t 49)⟩], false, []⟩
def Tryd.r_sandbox_Validate_12 : LReg := ⟨[⟨(some 51), none, .build [.int .i64 (0), .int .i64 (0)] [(0, 1, (.c (.int .i64 (12)))), (1, 1, (.c (.int .i64 (-2))))]⟩,
  ⟨none, none, .store 2 (.t 2) (.t 51)⟩], false, []⟩
def Tryd.r_sandbox_Validate_13 : LReg := ⟨[⟨(some 52), none, .fieldAddr 1 (.t 1)⟩,
  ⟨(some 53), none, .load 1 false (.t 52)⟩,
  ⟨(some 54), none, .len (.t 53)⟩,
  ⟨(some 55), none, .mv (.c (.int .i64 (0)))⟩], false, []⟩
def Tryd.r_sandbox_Validate_14 : LReg := ⟨[⟨(some 56), none, .bin .lss (.t 55) (.t 54)⟩], false, []⟩
def Tryd.r_sandbox_Validate_15 : LReg := ⟨[⟨(some 57), none, .mv (.t 55)⟩,
  ⟨(some 58), none, .idx 2 (.t 53) (.t 55)⟩,
  ⟨(some 59), none, .load 2 true (.t 58)⟩,
  ⟨(some 6), none, .alloc 47 2 [.int .i64 (0), .str []]⟩,
  ⟨(some 5), none, .mv (.t 57)⟩,
  ⟨none, none, .store 2 (.t 6) (.t 59)⟩], false, []⟩
def Tryd.r_sandbox_Validate_16 : LReg := ⟨[⟨(some 60), none, .load 2 true (.t 6)⟩,
  ⟨(some 61), none, .call 31 [(.t 60)]⟩,
  ⟨(some 7), none, .mv (.t 61)⟩], false, []⟩
def Tryd.r_sandbox_Validate_17 : LReg := ⟨[⟨(some 62), none, .mv (.t 7)⟩,
  ⟨(some 63), none, .bin .neq (.t 62) (.c (.int .i64 (0)))⟩], false, []⟩
def Tryd.r_sandbox_Validate_18 : LReg := ⟨[⟨(some 64), none, .mv (.t 7)⟩,
  ⟨(some 65), none, .mv (.t 5)⟩,
  ⟨(some 66), none, .bin .sub (.c (.int .i64 (-3))) (.t 65)⟩,
  ⟨(some 67), none, .build [.int .i64 (0), .int .i64 (0)] [(0, 1, (.t 64)), (1, 1, (.t 66))]⟩,
  ⟨none, none, .store 2 (.t 2) (.t 67)⟩], false, []⟩
def Tryd.r_sandbox_Validate_19 : LReg := ⟨[⟨(some 68), none, .bin .add (.t 55) (.c (.int .i64 (1)))⟩,
  ⟨(some 55), none, .mv (.t 68)⟩], false, []⟩
def Tryd.r_sandbox_Validate_20 : LReg := ⟨[⟨(some 69), none, .build [.int .i64 (0), .int .i64 (0)] []⟩,
  ⟨none, none, .store 2 (.t 2) (.t 69)⟩], false, []⟩
def Tryd.l_sandbox_Validate : LCode := (.seq (.reg Tryd.r_sandbox_Validate_0) (.seq (.seq (.reg Tryd.r_sandbox_Validate_1) (.cond (.t 17) (.seq (.reg Tryd.r_sandbox_Validate_2) .ret) .skip)) (.seq (.seq (.reg Tryd.r_sandbox_Validate_3) (.block 0 (.loop (.seq (.reg Tryd.r_sandbox_Validate_4) (.seq (.cond (.t 23) .skip (.exit 0)) (.seq (.block 1 (.seq (.reg Tryd.r_sandbox_Validate_5) (.seq (.seq (.reg Tryd.r_sandbox_Validate_6) (.cond (.t 29) (.seq (.reg Tryd.r_sandbox_Validate_7) .ret) .skip)) (.seq (.reg Tryd.r_sandbox_Validate_8) (.cond (.t 43) (.seq (.reg Tryd.r_sandbox_Validate_9) .ret) .skip))))) (.reg Tryd.r_sandbox_Validate_10))))))) (.seq (.seq (.reg Tryd.r_sandbox_Validate_11) (.cond (.t 50) (.seq (.reg Tryd.r_sandbox_Validate_12) .ret) .skip)) (.seq (.seq (.reg Tryd.r_sandbox_Validate_13) (.block 2 (.loop (.seq (.reg Tryd.r_sandbox_Validate_14) (.seq (.cond (.t 56) .skip (.exit 2)) (.seq (.block 3 (.seq (.reg Tryd.r_sandbox_Validate_15) (.seq (.reg Tryd.r_sandbox_Validate_16) (.seq (.reg Tryd.r_sandbox_Validate_17) (.cond (.t 63) (.seq (.reg Tryd.r_sandbox_Validate_18) .ret) .skip))))) (.reg Tryd.r_sandbox_Validate_19))))))) (.seq (.reg Tryd.r_sandbox_Validate_20) .ret))))))
theorem Tryd.c_sandbox_Validate : fnComp Tryd.prog 11 = some (70, Tryd.l_sandbox_Validate, [.cell 2 2 true]) := by kernel_rfl

/- 33 slices.Compact[[]string,string] -/
def Tryd.r_slices_Compact_string_0 : LReg := ⟨[⟨(some 2), none, .mv (.c (.nils))⟩], false, []⟩
def Tryd.r_slices_Compact_string_1 : LReg := ⟨[⟨(some 6), none, .mv (.t 0)⟩,
  ⟨(some 7), none, .len (.t 6)⟩,
  ⟨(some 8), none, .bin .lss (.t 7) (.c (.int .i64 (2)))⟩], false, []⟩
def Tryd.r_slices_Compact_string_2 : LReg := ⟨[⟨(some 9), none, .mv (.t 0)⟩,
  ⟨(some 2), none, .mv (.t 9)⟩], false, []⟩
def Tryd.r_slices_Compact_string_3 : LReg := ⟨[⟨(some 3), none, .mv (.c (.int .i64 (1)))⟩], false, []⟩
def Tryd.r_slices_Compact_string_4 : LReg := ⟨[⟨(some 10), none, .mv (.t 3)⟩,
  ⟨(some 11), none, .mv (.t 0)⟩,
  ⟨(some 12), none, .len (.t 11)⟩,
  ⟨(some 13), none, .bin .lss (.t 10) (.t 12)⟩], false, []⟩
def Tryd.r_slices_Compact_string_5 : LReg := ⟨[⟨(some 16), none, .mv (.t 0)⟩,
  ⟨(some 17), none, .mv (.t 3)⟩,
  ⟨(some 18), none, .idx 1 (.t 16) (.t 17)⟩,
  ⟨(some 19), none, .load 1 false (.t 18)⟩,
  ⟨(some 20), none, .mv (.t 0)⟩,
  ⟨(some 21), none, .mv (.t 3)⟩,
  ⟨(some 22), none, .bin .sub (.t 21) (.c (.int .i64 (1)))⟩,
  ⟨(some 23), none, .idx 1 (.t 20) (.t 22)⟩,
  ⟨(some 24), none, .load 1 false (.t 23)⟩,
  ⟨(some 25), none, .bin .eql (.t 19) (.t 24)⟩], true, [(2, 7), (3, 7), (2, 8), (3, 8)]⟩
def Tryd.r_slices_Compact_string_6 : LReg := ⟨[⟨(some 26), none, .mv (.t 0)⟩,
  ⟨(some 27), none, .mv (.t 3)⟩,
  ⟨(some 28), none, .slice 1 (.t 26) (some (.t 27)) none⟩,
  ⟨(some 4), none, .mv (.t 28)⟩], false, []⟩
def Tryd.r_slices_Compact_string_7 : LReg := ⟨[⟨(some 5), none, .mv (.c (.int .i64 (1)))⟩], false, []⟩
def Tryd.r_slices_Compact_string_8 : LReg := ⟨[⟨(some 29), none, .mv (.t 5)⟩,
  ⟨(some 30), none, .mv (.t 4)⟩,
  ⟨(some 31), none, .len (.t 30)⟩,
  ⟨(some 32), none, .bin .lss (.t 29) (.t 31)⟩], false, []⟩
def Tryd.r_slices_Compact_string_9 : LReg := ⟨[⟨(some 35), none, .mv (.t 4)⟩,
  ⟨(some 36), none, .mv (.t 5)⟩,
  ⟨(some 37), none, .idx 1 (.t 35) (.t 36)⟩,
  ⟨(some 38), none, .load 1 false (.t 37)⟩,
  ⟨(some 39), none, .mv (.t 4)⟩,
  ⟨(some 40), none, .mv (.t 5)⟩,
  ⟨(some 41), none, .bin .sub (.t 40) (.c (.int .i64 (1)))⟩,
  ⟨(some 42), none, .idx 1 (.t 39) (.t 41)⟩,
  ⟨(some 43), none, .load 1 false (.t 42)⟩,
  ⟨(some 44), none, .bin .neq (.t 38) (.t 43)⟩], true, [(2, 7), (3, 7), (2, 8), (3, 8)]⟩
def Tryd.r_slices_Compact_string_10 : LReg := ⟨[⟨(some 45), none, .mv (.t 0)⟩,
  ⟨(some 46), none, .mv (.t 3)⟩,
  ⟨(some 47), none, .mv (.t 4)⟩,
  ⟨(some 48), none, .mv (.t 5)⟩,
  ⟨(some 49), none, .idx 1 (.t 47) (.t 48)⟩,
  ⟨(some 50), none, .load 1 false (.t 49)⟩,
  ⟨(some 51), none, .idx 1 (.t 45) (.t 46)⟩,
  ⟨none, none, .store 1 (.t 51) (.t 50)⟩], false, []⟩
def Tryd.r_slices_Compact_string_11 : LReg := ⟨[⟨(some 52), none, .mv (.t 3)⟩,
  ⟨(some 53), none, .bin .add (.t 52) (.c (.int .i64 (1)))⟩,
  ⟨(some 3), none, .mv (.t 53)⟩], false, []⟩
def Tryd.r_slices_Compact_string_12 : LReg := ⟨[⟨(some 33), none, .mv (.t 5)⟩,
  ⟨(some 34), none, .bin .add (.t 33) (.c (.int .i64 (1)))⟩,
  ⟨(some 5), none, .mv (.t 34)⟩], false, []⟩
def Tryd.r_slices_Compact_string_13 : LReg := ⟨[⟨(some 54), none, .mv (.t 0)⟩,
  ⟨(some 55), none, .mv (.t 3)⟩,
  ⟨(some 56), none, .slice 1 (.t 54) (some (.t 55)) none⟩,
  ⟨none, none, .clear 1 [.str []] (.t 56)⟩], false, []⟩
def Tryd.r_slices_Compact_string_14 : LReg := ⟨[⟨(some 57), none, .mv (.t 0)⟩,
  ⟨(some 58), none, .mv (.t 3)⟩,
  ⟨(some 59), none, .slice 1 (.t 57) none (some (.t 58))⟩,
  ⟨(some 2), none, .mv (.t 59)⟩], false, []⟩
def Tryd.r_slices_Compact_string_15 : LReg := ⟨[⟨(some 14), none, .mv (.t 3)⟩,
  ⟨(some 15), none, .bin .add (.t 14) (.c (.int .i64 (1)))⟩,
  ⟨(some 3), none, .mv (.t 15)⟩], false, []⟩
def Tryd.r_slices_Compact_string_16 : LReg := ⟨[⟨(some 60), none, .mv (.t 0)⟩,
  ⟨(some 2), none, .mv (.t 60)⟩], false, []⟩
def Tryd.l_slices_Compact_string : LCode := (.seq (.reg Tryd.r_slices_Compact_string_0) (.seq (.seq (.reg Tryd.r_slices_Compact_string_1) (.cond (.t 8) (.seq (.reg Tryd.r_slices_Compact_string_2) .ret) .skip)) (.seq (.seq (.reg Tryd.r_slices_Compact_string_3) (.block 0 (.loop (.seq (.seq (.reg Tryd.r_slices_Compact_string_4) (.cond (.t 13) .skip (.exit 0))) (.seq (.block 1 (.seq (.reg Tryd.r_slices_Compact_string_5) (.cond (.t 25) (.seq (.reg Tryd.r_slices_Compact_string_6) (.seq (.seq (.reg Tryd.r_slices_Compact_string_7) (.block 2 (.loop (.seq (.seq (.reg Tryd.r_slices_Compact_string_8) (.cond (.t 32) .skip (.exit 2))) (.seq (.block 3 (.seq (.reg Tryd.r_slices_Compact_string_9) (.cond (.t 44) (.seq (.reg Tryd.r_slices_Compact_string_10) (.reg Tryd.r_slices_Compact_string_11)) .skip))) (.reg Tryd.r_slices_Compact_string_12)))))) (.seq (.reg Tryd.r_slices_Compact_string_13) (.seq (.reg Tryd.r_slices_Compact_string_14) .ret)))) .skip))) (.reg Tryd.r_slices_Compact_string_15)))))) (.seq (.reg Tryd.r_slices_Compact_string_16) .ret))))
theorem Tryd.c_slices_Compact_string : fnComp Tryd.prog 33 = some (61, Tryd.l_slices_Compact_string, [.t 2]) := by kernel_rfl

/- 12 changeforge/sandbox.Reads -/
def Tryd.r_sandbox_Reads_0 : LReg := ⟨[⟨(some 1), none, .box 25 3 (.t 0)⟩,
  ⟨(some 2), none, .mv (.c (.nils))⟩,
  ⟨(some 3), none, .alloc 30 2 [.int .i64 (0), .int .i64 (0)]⟩], false, []⟩
def Tryd.r_sandbox_Reads_1 : LReg := ⟨[⟨(some 8), none, .load 3 true (.t 1)⟩,
  ⟨(some 9), none, .call 11 [(.t 8)]⟩,
  ⟨(some 4), none, .alloc 30 2 [.int .i64 (0), .int .i64 (0)]⟩,
  ⟨none, none, .store 2 (.t 4) (.t 9)⟩], false, []⟩
def Tryd.r_sandbox_Reads_2 : LReg := ⟨[⟨(some 10), none, .load 2 true (.t 4)⟩,
  ⟨(some 11), none, .build [.int .i64 (0), .int .i64 (0)] []⟩,
  ⟨(some 12), none, .eqs true [0, 0] (.t 10) (.t 11)⟩], false, []⟩
def Tryd.r_sandbox_Reads_3 : LReg := ⟨[⟨(some 13), none, .load 2 true (.t 4)⟩,
  ⟨(some 2), none, .mv (.c (.nils))⟩,
  ⟨none, none, .store 2 (.t 3) (.t 13)⟩], true, []⟩
def Tryd.r_sandbox_Reads_4 : LReg := ⟨[⟨(some 5), none, .mv (.c (.nils))⟩], false, []⟩
def Tryd.r_sandbox_Reads_5 : LReg := ⟨[⟨(some 14), none, .fieldAddr 1 (.t 1)⟩,
  ⟨(some 15), none, .load 1 false (.t 14)⟩,
  ⟨(some 16), none, .len (.t 15)⟩,
  ⟨(some 17), none, .mv (.c (.int .i64 (0)))⟩], false, []⟩
def Tryd.r_sandbox_Reads_6 : LReg := ⟨[⟨(some 18), none, .bin .lss (.t 17) (.t 16)⟩], false, []⟩
def Tryd.r_sandbox_Reads_7 : LReg := ⟨[⟨(some 19), none, .idx 2 (.t 15) (.t 17)⟩,
  ⟨(some 20), none, .load 2 true (.t 19)⟩,
  ⟨(some 7), none, .alloc 47 2 [.int .i64 (0), .str []]⟩,
  ⟨none, none, .store 2 (.t 7) (.t 20)⟩], false, []⟩
def Tryd.r_sandbox_Reads_8 : LReg := ⟨[⟨(some 21), none, .fieldAddr 0 (.t 7)⟩,
  ⟨(some 22), none, .load 1 false (.t 21)⟩,
  ⟨(some 23), none, .bin .eql (.t 22) (.c (.int .i64 (1)))⟩,
  ⟨(some 24), none, .mv (.t 23)⟩,
  ⟨(some 25), (some (24, false)), .fieldAddr 0 (.t 7)⟩,
  ⟨(some 26), (some (24, false)), .load 1 false (.t 25)⟩,
  ⟨(some 27), (some (24, false)), .bin .eql (.t 26) (.c (.int .i64 (2)))⟩,
  ⟨(some 28), none, .pick (.t 24) (.c (.bool true)) (.t 27)⟩], false, []⟩
def Tryd.r_sandbox_Reads_9 : LReg := ⟨[⟨(some 29), none, .mv (.t 5)⟩,
  ⟨(some 30), none, .fieldAddr 1 (.t 7)⟩,
  ⟨(some 31), none, .load 1 false (.t 30)⟩,
  ⟨(some 32), none, .mkSlice 9 1 1 [.str []] [(0, (.t 31))]⟩,
  ⟨(some 33), none, .append 9 1 16 (.t 29) (.t 32)⟩,
  ⟨(some 5), none, .mv (.t 33)⟩], false, []⟩
def Tryd.r_sandbox_Reads_10 : LReg := ⟨[⟨(some 34), none, .bin .add (.t 17) (.c (.int .i64 (1)))⟩,
  ⟨(some 17), none, .mv (.t 34)⟩], false, []⟩
def Tryd.r_sandbox_Reads_11 : LReg := ⟨[⟨(some 35), none, .mv (.t 5)⟩,
  ⟨(some 36), none, .call 32 [(.t 35)]⟩], false, []⟩
def Tryd.r_sandbox_Reads_12 : LReg := ⟨[⟨(some 37), none, .mv (.t 5)⟩,
  ⟨(some 38), none, .call 33 [(.t 37)]⟩,
  ⟨(some 39), none, .build [.int .i64 (0), .int .i64 (0)] []⟩,
  ⟨(some 2), none, .mv (.t 38)⟩,
  ⟨none, none, .store 2 (.t 3) (.t 39)⟩], false, []⟩
def Tryd.l_sandbox_Reads : LCode := (.seq (.reg Tryd.r_sandbox_Reads_0) (.seq (.seq (.reg Tryd.r_sandbox_Reads_1) (.seq (.reg Tryd.r_sandbox_Reads_2) (.cond (.t 12) (.seq (.reg Tryd.r_sandbox_Reads_3) .ret) .skip))) (.seq (.reg Tryd.r_sandbox_Reads_4) (.seq (.seq (.reg Tryd.r_sandbox_Reads_5) (.block 0 (.loop (.seq (.reg Tryd.r_sandbox_Reads_6) (.seq (.cond (.t 18) .skip (.exit 0)) (.seq (.block 1 (.seq (.reg Tryd.r_sandbox_Reads_7) (.seq (.reg Tryd.r_sandbox_Reads_8) (.cond (.t 28) (.reg Tryd.r_sandbox_Reads_9) .skip)))) (.reg Tryd.r_sandbox_Reads_10))))))) (.seq (.reg Tryd.r_sandbox_Reads_11) (.seq (.reg Tryd.r_sandbox_Reads_12) .ret))))))
theorem Tryd.c_sandbox_Reads : fnComp Tryd.prog 12 = some (40, Tryd.l_sandbox_Reads, [.t 2, .cell 3 2 true]) := by kernel_rfl

/- 13 changeforge/changeforgeref6.Strings -/
def Tryd.r_ref6_Strings_0 : LReg := ⟨[⟨(some 4), none, .mv (.c (.bool false))⟩], false, []⟩
def Tryd.r_ref6_Strings_1 : LReg := ⟨[⟨(some 6), none, .mv (.t 0)⟩,
  ⟨(some 7), none, .len (.t 6)⟩,
  ⟨(some 8), none, .mv (.t 1)⟩,
  ⟨(some 9), none, .len (.t 8)⟩,
  ⟨(some 10), none, .bin .neq (.t 7) (.t 9)⟩], false, []⟩
def Tryd.r_ref6_Strings_2 : LReg := ⟨[⟨(some 4), none, .mv (.c (.bool false))⟩], false, []⟩
def Tryd.r_ref6_Strings_3 : LReg := ⟨[⟨(some 5), none, .mv (.c (.int .i64 (0)))⟩], false, []⟩
def Tryd.r_ref6_Strings_4 : LReg := ⟨[⟨(some 11), none, .mv (.t 5)⟩,
  ⟨(some 12), none, .mv (.t 0)⟩,
  ⟨(some 13), none, .len (.t 12)⟩,
  ⟨(some 14), none, .bin .lss (.t 11) (.t 13)⟩], false, []⟩
def Tryd.r_ref6_Strings_5 : LReg := ⟨[⟨(some 17), none, .mv (.t 0)⟩,
  ⟨(some 18), none, .mv (.t 5)⟩,
  ⟨(some 19), none, .idx 1 (.t 17) (.t 18)⟩,
  ⟨(some 20), none, .load 1 false (.t 19)⟩,
  ⟨(some 21), none, .mv (.t 1)⟩,
  ⟨(some 22), none, .mv (.t 5)⟩,
  ⟨(some 23), none, .idx 1 (.t 21) (.t 22)⟩,
  ⟨(some 24), none, .load 1 false (.t 23)⟩,
  ⟨(some 25), none, .bin .neq (.t 20) (.t 24)⟩], true, [(2, 6), (3, 6), (2, 7), (3, 7)]⟩
def Tryd.r_ref6_Strings_6 : LReg := ⟨[⟨(some 4), none, .mv (.c (.bool false))⟩], false, []⟩
def Tryd.r_ref6_Strings_7 : LReg := ⟨[⟨(some 15), none, .mv (.t 5)⟩,
  ⟨(some 16), none, .bin .add (.t 15) (.c (.int .i64 (1)))⟩,
  ⟨(some 5), none, .mv (.t 16)⟩], false, []⟩
def Tryd.r_ref6_Strings_8 : LReg := ⟨[⟨(some 4), none, .mv (.c (.bool true))⟩], false, []⟩
def Tryd.l_ref6_Strings : LCode := (.seq (.reg Tryd.r_ref6_Strings_0) (.seq (.seq (.reg Tryd.r_ref6_Strings_1) (.cond (.t 10) (.seq (.reg Tryd.r_ref6_Strings_2) .ret) .skip)) (.seq (.seq (.reg Tryd.r_ref6_Strings_3) (.block 0 (.loop (.seq (.seq (.reg Tryd.r_ref6_Strings_4) (.cond (.t 14) .skip (.exit 0))) (.seq (.block 1 (.seq (.reg Tryd.r_ref6_Strings_5) (.cond (.t 25) (.seq (.reg Tryd.r_ref6_Strings_6) .ret) .skip))) (.reg Tryd.r_ref6_Strings_7)))))) (.seq (.reg Tryd.r_ref6_Strings_8) .ret))))
theorem Tryd.c_ref6_Strings : fnComp Tryd.prog 13 = some (26, Tryd.l_ref6_Strings, [.t 4]) := by kernel_rfl

/- 106 internal/stringslite.HasPrefix -/
def Tryd.r_internal_stringslite_HasPrefix_0 : LReg := ⟨[⟨(some 4), none, .mv (.c (.bool false))⟩], false, []⟩
def Tryd.r_internal_stringslite_HasPrefix_1 : LReg := ⟨[⟨(some 5), none, .mv (.t 0)⟩,
  ⟨(some 6), none, .slen (.t 5)⟩,
  ⟨(some 7), none, .mv (.t 1)⟩,
  ⟨(some 8), none, .slen (.t 7)⟩,
  ⟨(some 9), none, .bin .geq (.t 6) (.t 8)⟩,
  ⟨(some 10), none, .mv (.t 9)⟩,
  ⟨(some 11), (some (10, true)), .mv (.t 0)⟩,
  ⟨(some 12), (some (10, true)), .mv (.t 1)⟩,
  ⟨(some 13), (some (10, true)), .slen (.t 12)⟩,
  ⟨(some 14), (some (10, true)), .sslice (.t 11) none (some (.t 13))⟩,
  ⟨(some 15), (some (10, true)), .mv (.t 1)⟩,
  ⟨(some 16), (some (10, true)), .bin .eql (.t 14) (.t 15)⟩,
  ⟨(some 17), none, .pick (.t 10) (.t 16) (.c (.bool false))⟩,
  ⟨(some 4), none, .mv (.t 17)⟩], false, []⟩
def Tryd.l_internal_stringslite_HasPrefix : LCode := (.seq (.reg Tryd.r_internal_stringslite_HasPrefix_0) (.seq (.reg Tryd.r_internal_stringslite_HasPrefix_1) .ret))
theorem Tryd.c_internal_stringslite_HasPrefix : fnComp Tryd.prog 106 = some (18, Tryd.l_internal_stringslite_HasPrefix, [.t 4]) := by kernel_rfl

/- 104 strings.HasPrefix -/
def Tryd.r_strings_HasPrefix_0 : LReg := ⟨[⟨(some 4), none, .mv (.c (.bool false))⟩], false, []⟩
def Tryd.r_strings_HasPrefix_1 : LReg := ⟨[⟨(some 5), none, .mv (.t 0)⟩,
  ⟨(some 6), none, .mv (.t 1)⟩,
  ⟨(some 7), none, .call 106 [(.t 5), (.t 6)]⟩,
  ⟨(some 4), none, .mv (.t 7)⟩], false, []⟩
def Tryd.l_strings_HasPrefix : LCode := (.seq (.reg Tryd.r_strings_HasPrefix_0) (.seq (.reg Tryd.r_strings_HasPrefix_1) .ret))
theorem Tryd.c_strings_HasPrefix : fnComp Tryd.prog 104 = some (8, Tryd.l_strings_HasPrefix, [.t 4]) := by kernel_rfl

/- 99 changeforge/treepatch.Related -/
def Tryd.r_treepatch_Related_0 : LReg := ⟨[⟨(some 4), none, .mv (.c (.bool false))⟩], false, []⟩
def Tryd.r_treepatch_Related_1 : LReg := ⟨[⟨(some 5), none, .mv (.t 0)⟩,
  ⟨(some 6), none, .mv (.t 1)⟩,
  ⟨(some 7), none, .bin .eql (.t 5) (.t 6)⟩,
  ⟨(some 8), none, .mv (.t 7)⟩,
  ⟨(some 9), (some (8, false)), .mv (.t 0)⟩,
  ⟨(some 10), (some (8, false)), .mv (.t 1)⟩,
  ⟨(some 11), (some (8, false)), .bin .add (.t 10) (.c (.str [47]))⟩,
  ⟨(some 12), (some (8, false)), .call 104 [(.t 9), (.t 11)]⟩,
  ⟨(some 13), none, .pick (.t 8) (.c (.bool true)) (.t 12)⟩,
  ⟨(some 14), none, .mv (.t 13)⟩,
  ⟨(some 15), (some (14, false)), .mv (.t 1)⟩,
  ⟨(some 16), (some (14, false)), .mv (.t 0)⟩,
  ⟨(some 17), (some (14, false)), .bin .add (.t 16) (.c (.str [47]))⟩,
  ⟨(some 18), (some (14, false)), .call 104 [(.t 15), (.t 17)]⟩,
  ⟨(some 19), none, .pick (.t 14) (.c (.bool true)) (.t 18)⟩,
  ⟨(some 4), none, .mv (.t 19)⟩], false, []⟩
def Tryd.l_treepatch_Related : LCode := (.seq (.reg Tryd.r_treepatch_Related_0) (.seq (.reg Tryd.r_treepatch_Related_1) .ret))
theorem Tryd.c_treepatch_Related : fnComp Tryd.prog 99 = some (20, Tryd.l_treepatch_Related, [.t 4]) := by kernel_rfl

/- 92 changeforge/treepatch.Clash -/
def Tryd.r_treepatch_Clash_0 : LReg := ⟨[⟨(some 6), none, .mv (.c (.bool false))⟩], false, []⟩
def Tryd.r_treepatch_Clash_1 : LReg := ⟨[⟨(some 9), none, .mv (.t 0)⟩,
  ⟨(some 10), none, .len (.t 9)⟩,
  ⟨(some 11), none, .mv (.c (.int .i64 (0)))⟩], false, []⟩
def Tryd.r_treepatch_Clash_2 : LReg := ⟨[⟨(some 12), none, .bin .lss (.t 11) (.t 10)⟩], false, []⟩
def Tryd.r_treepatch_Clash_3 : LReg := ⟨[⟨(some 13), none, .mv (.t 11)⟩,
  ⟨(some 14), none, .idx 2 (.t 9) (.t 11)⟩,
  ⟨(some 15), none, .load 2 true (.t 14)⟩,
  ⟨(some 8), none, .alloc 61 2 [.str [], .nils]⟩,
  ⟨(some 7), none, .mv (.t 13)⟩,
  ⟨none, none, .store 2 (.t 8) (.t 15)⟩], false, []⟩
def Tryd.r_treepatch_Clash_4 : LReg := ⟨[⟨(some 16), none, .mv (.t 7)⟩,
  ⟨(some 17), none, .mv (.t 2)⟩,
  ⟨(some 18), none, .bin .neq (.t 16) (.t 17)⟩,
  ⟨(some 19), none, .mv (.t 18)⟩,
  ⟨(some 20), (some (19, true)), .fieldAddr 0 (.t 8)⟩,
  ⟨(some 21), (some (19, true)), .load 1 false (.t 20)⟩,
  ⟨(some 22), (some (19, true)), .mv (.t 1)⟩,
  ⟨(some 23), (some (19, true)), .call 99 [(.t 21), (.t 22)]⟩,
  ⟨(some 24), none, .pick (.t 19) (.t 23) (.c (.bool false))⟩], false, []⟩
def Tryd.r_treepatch_Clash_5 : LReg := ⟨[⟨(some 6), none, .mv (.c (.bool true))⟩], false, []⟩
def Tryd.r_treepatch_Clash_6 : LReg := ⟨[⟨(some 25), none, .bin .add (.t 11) (.c (.int .i64 (1)))⟩,
  ⟨(some 11), none, .mv (.t 25)⟩], false, []⟩
def Tryd.r_treepatch_Clash_7 : LReg := ⟨[⟨(some 6), none, .mv (.c (.bool false))⟩], false, []⟩
def Tryd.l_treepatch_Clash : LCode := (.seq (.reg Tryd.r_treepatch_Clash_0) (.seq (.seq (.reg Tryd.r_treepatch_Clash_1) (.block 0 (.loop (.seq (.reg Tryd.r_treepatch_Clash_2) (.seq (.cond (.t 12) .skip (.exit 0)) (.seq (.block 1 (.seq (.reg Tryd.r_treepatch_Clash_3) (.seq (.reg Tryd.r_treepatch_Clash_4) (.cond (.t 24) (.seq (.reg Tryd.r_treepatch_Clash_5) .ret) .skip)))) (.reg Tryd.r_treepatch_Clash_6))))))) (.seq (.reg Tryd.r_treepatch_Clash_7) .ret)))
theorem Tryd.c_treepatch_Clash : fnComp Tryd.prog 92 = some (26, Tryd.l_treepatch_Clash, [.t 6]) := by kernel_rfl

/- 93 changeforge/lines.Second -/
def Tryd.r_lines_Second_0 : LReg := ⟨[⟨(some 4), none, .alloc 30 2 [.int .i64 (0), .int .i64 (0)]⟩], false, []⟩
def Tryd.r_lines_Second_1 : LReg := ⟨[⟨(some 6), none, .mv (.t 0)⟩,
  ⟨(some 7), none, .call 47 [(.t 6)]⟩,
  ⟨(some 5), none, .alloc 30 2 [.int .i64 (0), .int .i64 (0)]⟩,
  ⟨none, none, .store 2 (.t 5) (.t 7)⟩], false, []⟩
def Tryd.r_lines_Second_2 : LReg := ⟨[⟨(some 8), none, .load 2 true (.t 5)⟩,
  ⟨(some 9), none, .build [.int .i64 (0), .int .i64 (0)] []⟩,
  ⟨(some 10), none, .eqs true [0, 0] (.t 8) (.t 9)⟩], false, []⟩
def Tryd.r_lines_Second_3 : LReg := ⟨[⟨(some 11), none, .fieldAddr 0 (.t 5)⟩,
  ⟨(some 12), none, .load 1 false (.t 11)⟩,
  ⟨(some 13), none, .mv (.t 1)⟩,
  ⟨(some 14), none, .build [.int .i64 (0), .int .i64 (0)] [(0, 1, (.t 12)), (1, 1, (.t 13))]⟩,
  ⟨none, none, .store 2 (.t 4) (.t 14)⟩], false, []⟩
def Tryd.r_lines_Second_4 : LReg := ⟨[⟨(some 15), none, .build [.int .i64 (0), .int .i64 (0)] []⟩,
  ⟨none, none, .store 2 (.t 4) (.t 15)⟩], false, []⟩
def Tryd.l_lines_Second : LCode := (.seq (.reg Tryd.r_lines_Second_0) (.seq (.seq (.reg Tryd.r_lines_Second_1) (.seq (.reg Tryd.r_lines_Second_2) (.cond (.t 10) (.seq (.reg Tryd.r_lines_Second_3) .ret) .skip))) (.seq (.reg Tryd.r_lines_Second_4) .ret)))
theorem Tryd.c_lines_Second : fnComp Tryd.prog 93 = some (16, Tryd.l_lines_Second, [.cell 4 2 true]) := by kernel_rfl

/- 77 changeforge/treepatch.Validate -/
def Tryd.r_treepatch_Validate_0 : LReg := ⟨[⟨(some 1), none, .box 28 1 (.t 0)⟩,
  ⟨(some 2), none, .alloc 30 2 [.int .i64 (0), .int .i64 (0)]⟩], false, []⟩
def Tryd.r_treepatch_Validate_1 : LReg := ⟨[⟨(some 6), none, .fieldAddr 0 (.t 1)⟩,
  ⟨(some 7), none, .load 1 false (.t 6)⟩,
  ⟨(some 8), none, .len (.t 7)⟩,
  ⟨(some 9), none, .bin .gtr (.t 8) (.c (.int .i64 (24)))⟩], false, []⟩
def Tryd.r_treepatch_Validate_2 : LReg := ⟨[⟨(some 10), none, .build [.int .i64 (0), .int .i64 (0)] [(0, 1, (.c (.int .i64 (2)))), (1, 1, (.c (.int .i64 (-1))))]⟩,
  ⟨none, none, .store 2 (.t 2) (.t 10)⟩], false, []⟩
def Tryd.r_treepatch_Validate_3 : LReg := ⟨[⟨(some 11), none, .fieldAddr 0 (.t 1)⟩,
  ⟨(some 12), none, .load 1 false (.t 11)⟩,
  ⟨(some 13), none, .len (.t 12)⟩,
  ⟨(some 14), none, .mv (.c (.int .i64 (0)))⟩], false, []⟩
def Tryd.r_treepatch_Validate_4 : LReg := ⟨[⟨(some 15), none, .bin .lss (.t 14) (.t 13)⟩], false, []⟩
def Tryd.r_treepatch_Validate_5 : LReg := ⟨[⟨(some 16), none, .mv (.t 14)⟩,
  ⟨(some 17), none, .idx 2 (.t 12) (.t 14)⟩,
  ⟨(some 18), none, .load 2 true (.t 17)⟩,
  ⟨(some 4), none, .alloc 61 2 [.str [], .nils]⟩,
  ⟨(some 3), none, .mv (.t 16)⟩,
  ⟨none, none, .store 2 (.t 4) (.t 18)⟩], false, []⟩
def Tryd.r_treepatch_Validate_6 : LReg := ⟨[⟨(some 20), none, .fieldAddr 0 (.t 4)⟩,
  ⟨(some 21), none, .load 1 false (.t 20)⟩,
  ⟨(some 22), none, .call 30 [(.t 21)]⟩,
  ⟨(some 23), none, .un .not (.t 22)⟩,
  ⟨(some 19), none, .mv (.t 23)⟩], false, []⟩
def Tryd.r_treepatch_Validate_7 : LReg := ⟨[⟨(some 24), none, .mv (.t 3)⟩,
  ⟨(some 25), none, .build [.int .i64 (0), .int .i64 (0)] [(0, 1, (.c (.int .i64 (12)))), (1, 1, (.t 24))]⟩,
  ⟨none, none, .store 2 (.t 2) (.t 25)⟩], false, []⟩
def Tryd.r_treepatch_Validate_8 : LReg := ⟨[⟨(some 27), none, .mv (.t 3)⟩,
  ⟨(some 28), none, .bin .gtr (.t 27) (.c (.int .i64 (0)))⟩,
  ⟨(some 29), none, .mv (.t 28)⟩,
  ⟨(some 30), (some (29, true)), .fieldAddr 0 (.t 4)⟩,
  ⟨(some 31), (some (29, true)), .load 1 false (.t 30)⟩,
  ⟨(some 32), (some (29, true)), .fieldAddr 0 (.t 1)⟩,
  ⟨(some 33), (some (29, true)), .load 1 false (.t 32)⟩,
  ⟨(some 34), (some (29, true)), .mv (.t 3)⟩,
  ⟨(some 35), (some (29, true)), .bin .sub (.t 34) (.c (.int .i64 (1)))⟩,
  ⟨(some 36), (some (29, true)), .idx 2 (.t 33) (.t 35)⟩,
  ⟨(some 37), (some (29, true)), .fieldAddr 0 (.t 36)⟩,
  ⟨(some 38), (some (29, true)), .load 1 false (.t 37)⟩,
  ⟨(some 39), (some (29, true)), .bin .leq (.t 31) (.t 38)⟩,
  ⟨(some 40), none, .pick (.t 29) (.t 39) (.c (.bool false))⟩,
  ⟨(some 26), none, .mv (.t 40)⟩], true, [(3, 5), (4, 5), (3, 6), (4, 6), (3, 9), (4, 9), (3, 10), (4, 10), (3, 11), (4, 11)]⟩
def Tryd.r_treepatch_Validate_9 : LReg := ⟨[⟨(some 41), none, .mv (.t 3)⟩,
  ⟨(some 42), none, .build [.int .i64 (0), .int .i64 (0)] [(0, 1, (.c (.int .i64 (5)))), (1, 1, (.t 41))]⟩,
  ⟨none, none, .store 2 (.t 2) (.t 42)⟩], false, []⟩
def Tryd.r_treepatch_Validate_10 : LReg := ⟨[⟨(some 44), none, .fieldAddr 0 (.t 1)⟩,
  ⟨(some 45), none, .load 1 false (.t 44)⟩,
  ⟨(some 46), none, .mv (.t 3)⟩,
  ⟨(some 47), none, .slice 2 (.t 45) none (some (.t 46))⟩,
  ⟨(some 48), none, .fieldAddr 0 (.t 4)⟩,
  ⟨(some 49), none, .load 1 false (.t 48)⟩,
  ⟨(some 50), none, .call 92 [(.t 47), (.t 49), (.c (.int .i64 (-1)))]⟩,
  ⟨(some 43), none, .mv (.t 50)⟩], true, [(0, 4), (1, 4), (3, 4), (0, 5), (1, 5), (3, 5)]⟩
def Tryd.r_treepatch_Validate_11 : LReg := ⟨[⟨(some 51), none, .mv (.t 3)⟩,
  ⟨(some 52), none, .build [.int .i64 (0), .int .i64 (0)] [(0, 1, (.c (.int .i64 (7)))), (1, 1, (.t 51))]⟩,
  ⟨none, none, .store 2 (.t 2) (.t 52)⟩], false, []⟩
def Tryd.r_treepatch_Validate_12 : LReg := ⟨[⟨(some 53), none, .fieldAddr 1 (.t 4)⟩,
  ⟨(some 54), none, .load 1 false (.t 53)⟩,
  ⟨(some 55), none, .mv (.t 3)⟩,
  ⟨(some 56), none, .call 93 [(.t 54), (.t 55)]⟩,
  ⟨(some 5), none, .alloc 30 2 [.int .i64 (0), .int .i64 (0)]⟩,
  ⟨none, none, .store 2 (.t 5) (.t 56)⟩], false, []⟩
def Tryd.r_treepatch_Validate_13 : LReg := ⟨[⟨(some 57), none, .load 2 true (.t 5)⟩,
  ⟨(some 58), none, .build [.int .i64 (0), .int .i64 (0)] []⟩,
  ⟨(some 59), none, .eqs true [0, 0] (.t 57) (.t 58)⟩], false, []⟩
def Tryd.r_treepatch_Validate_14 : LReg := ⟨[⟨(some 60), none, .load 2 true (.t 5)⟩,
  ⟨none, none, .store 2 (.t 2) (.t 60)⟩], false, []⟩
def Tryd.r_treepatch_Validate_15 : LReg := ⟨[⟨(some 61), none, .bin .add (.t 14) (.c (.int .i64 (1)))⟩,
  ⟨(some 14), none, .mv (.t 61)⟩], false, []⟩
def Tryd.r_treepatch_Validate_16 : LReg := ⟨[⟨(some 62), none, .build [.int .i64 (0), .int .i64 (0)] []⟩,
  ⟨none, none, .store 2 (.t 2) (.t 62)⟩], false, []⟩
def Tryd.l_treepatch_Validate : LCode := (.seq (.reg Tryd.r_treepatch_Validate_0) (.seq (.seq (.reg Tryd.r_treepatch_Validate_1) (.cond (.t 9) (.seq (.reg Tryd.r_treepatch_Validate_2) .ret) .skip)) (.seq (.seq (.reg Tryd.r_treepatch_Validate_3) (.block 0 (.loop (.seq (.reg Tryd.r_treepatch_Validate_4) (.seq (.cond (.t 15) .skip (.exit 0)) (.seq (.block 1 (.seq (.reg Tryd.r_treepatch_Validate_5) (.seq (.block 2 (.seq (.reg Tryd.r_treepatch_Validate_6) (.cond (.t 19) (.seq (.reg Tryd.r_treepatch_Validate_7) .ret) (.seq (.reg Tryd.r_treepatch_Validate_8) (.cond (.t 26) (.seq (.reg Tryd.r_treepatch_Validate_9) .ret) (.seq (.reg Tryd.r_treepatch_Validate_10) (.cond (.t 43) (.seq (.reg Tryd.r_treepatch_Validate_11) .ret) .skip))))))) (.seq (.reg Tryd.r_treepatch_Validate_12) (.seq (.reg Tryd.r_treepatch_Validate_13) (.cond (.t 59) (.seq (.reg Tryd.r_treepatch_Validate_14) .ret) .skip)))))) (.reg Tryd.r_treepatch_Validate_15))))))) (.seq (.reg Tryd.r_treepatch_Validate_16) .ret))))
theorem Tryd.c_treepatch_Validate : fnComp Tryd.prog 77 = some (63, Tryd.l_treepatch_Validate, [.cell 2 2 true]) := by kernel_rfl

/- 51 changeforge/treepatch.Second -/
def Tryd.r_treepatch_Second_0 : LReg := ⟨[⟨(some 2), none, .box 28 1 (.t 0)⟩,
  ⟨(some 4), none, .alloc 30 2 [.int .i64 (0), .int .i64 (0)]⟩], false, []⟩
def Tryd.r_treepatch_Second_1 : LReg := ⟨[⟨(some 6), none, .load 1 true (.t 2)⟩,
  ⟨(some 7), none, .call 77 [(.t 6)]⟩,
  ⟨(some 5), none, .alloc 30 2 [.int .i64 (0), .int .i64 (0)]⟩,
  ⟨none, none, .store 2 (.t 5) (.t 7)⟩], false, []⟩
def Tryd.r_treepatch_Second_2 : LReg := ⟨[⟨(some 8), none, .load 2 true (.t 5)⟩,
  ⟨(some 9), none, .build [.int .i64 (0), .int .i64 (0)] []⟩,
  ⟨(some 10), none, .eqs true [0, 0] (.t 8) (.t 9)⟩], false, []⟩
def Tryd.r_treepatch_Second_3 : LReg := ⟨[⟨(some 11), none, .fieldAddr 0 (.t 5)⟩,
  ⟨(some 12), none, .load 1 false (.t 11)⟩,
  ⟨(some 13), none, .mv (.t 1)⟩,
  ⟨(some 14), none, .build [.int .i64 (0), .int .i64 (0)] [(0, 1, (.t 12)), (1, 1, (.t 13))]⟩,
  ⟨none, none, .store 2 (.t 4) (.t 14)⟩], false, []⟩
def Tryd.r_treepatch_Second_4 : LReg := ⟨[⟨(some 15), none, .build [.int .i64 (0), .int .i64 (0)] []⟩,
  ⟨none, none, .store 2 (.t 4) (.t 15)⟩], false, []⟩
def Tryd.l_treepatch_Second : LCode := (.seq (.reg Tryd.r_treepatch_Second_0) (.seq (.seq (.reg Tryd.r_treepatch_Second_1) (.seq (.reg Tryd.r_treepatch_Second_2) (.cond (.t 10) (.seq (.reg Tryd.r_treepatch_Second_3) .ret) .skip))) (.seq (.reg Tryd.r_treepatch_Second_4) .ret)))
theorem Tryd.c_treepatch_Second : fnComp Tryd.prog 51 = some (16, Tryd.l_treepatch_Second, [.cell 4 2 true]) := by kernel_rfl

/- 36 changeforge/sandbox.Arguments -/
def Tryd.r_sandbox_Arguments_0 : LReg := ⟨[⟨(some 2), none, .box 25 3 (.t 0)⟩,
  ⟨(some 3), none, .box 28 1 (.t 1)⟩,
  ⟨(some 4), none, .alloc 30 2 [.int .i64 (0), .int .i64 (0)]⟩], false, []⟩
def Tryd.r_sandbox_Arguments_1 : LReg := ⟨[⟨(some 6), none, .load 3 true (.t 2)⟩,
  ⟨(some 7), none, .call 11 [(.t 6)]⟩,
  ⟨(some 5), none, .alloc 30 2 [.int .i64 (0), .int .i64 (0)]⟩,
  ⟨none, none, .store 2 (.t 5) (.t 7)⟩], false, []⟩
def Tryd.r_sandbox_Arguments_2 : LReg := ⟨[⟨(some 8), none, .load 2 true (.t 5)⟩,
  ⟨(some 9), none, .build [.int .i64 (0), .int .i64 (0)] []⟩,
  ⟨(some 10), none, .eqs true [0, 0] (.t 8) (.t 9)⟩], false, []⟩
def Tryd.r_sandbox_Arguments_3 : LReg := ⟨[⟨(some 11), none, .load 2 true (.t 5)⟩,
  ⟨none, none, .store 2 (.t 4) (.t 11)⟩], false, []⟩
def Tryd.r_sandbox_Arguments_4 : LReg := ⟨[⟨(some 12), none, .load 1 true (.t 3)⟩,
  ⟨(some 13), none, .call 51 [(.t 12), (.c (.int .i64 (-20)))]⟩,
  ⟨none, none, .store 2 (.t 4) (.t 13)⟩], false, []⟩
def Tryd.l_sandbox_Arguments : LCode := (.seq (.reg Tryd.r_sandbox_Arguments_0) (.seq (.seq (.reg Tryd.r_sandbox_Arguments_1) (.seq (.reg Tryd.r_sandbox_Arguments_2) (.cond (.t 10) (.seq (.reg Tryd.r_sandbox_Arguments_3) .ret) .skip))) (.seq (.reg Tryd.r_sandbox_Arguments_4) .ret)))
theorem Tryd.c_sandbox_Arguments : fnComp Tryd.prog 36 = some (14, Tryd.l_sandbox_Arguments, [.cell 4 2 true]) := by kernel_rfl

/- 52 slices.Clone[[]string,string] -/
def Tryd.r_slices_Clone_string_0 : LReg := ⟨[⟨(some 2), none, .mv (.c (.nils))⟩], false, []⟩
def Tryd.r_slices_Clone_string_1 : LReg := ⟨[⟨(some 3), none, .mv (.t 0)⟩,
  ⟨(some 4), none, .isnil false (.t 3)⟩], false, []⟩
def Tryd.r_slices_Clone_string_2 : LReg := ⟨[⟨(some 2), none, .mv (.c (.nils))⟩], false, []⟩
def Tryd.r_slices_Clone_string_3 : LReg := ⟨[⟨(some 5), none, .mkSlice 9 1 0 [.str []] []⟩,
  ⟨(some 6), none, .mv (.t 0)⟩,
  ⟨(some 7), none, .append 9 1 16 (.t 5) (.t 6)⟩,
  ⟨(some 2), none, .mv (.t 7)⟩], false, []⟩
def Tryd.l_slices_Clone_string : LCode := (.seq (.reg Tryd.r_slices_Clone_string_0) (.seq (.seq (.reg Tryd.r_slices_Clone_string_1) (.cond (.t 4) (.seq (.reg Tryd.r_slices_Clone_string_2) .ret) .skip)) (.seq (.reg Tryd.r_slices_Clone_string_3) .ret)))
theorem Tryd.c_slices_Clone_string : fnComp Tryd.prog 52 = some (8, Tryd.l_slices_Clone_string, [.t 2]) := by kernel_rfl

/- 37 changeforge/treepatch.CopyTree -/
def Tryd.r_treepatch_CopyTree_0 : LReg := ⟨[⟨(some 1), none, .box 28 1 (.t 0)⟩,
  ⟨(some 2), none, .alloc 28 1 [.nils]⟩], false, []⟩
def Tryd.r_treepatch_CopyTree_1 : LReg := ⟨[⟨(some 3), none, .alloc 28 1 [.nils]⟩], false, []⟩
def Tryd.r_treepatch_CopyTree_2 : LReg := ⟨[⟨(some 6), none, .fieldAddr 0 (.t 1)⟩,
  ⟨(some 7), none, .load 1 false (.t 6)⟩,
  ⟨(some 8), none, .len (.t 7)⟩,
  ⟨(some 9), none, .mv (.c (.int .i64 (0)))⟩], false, []⟩
def Tryd.r_treepatch_CopyTree_3 : LReg := ⟨[⟨(some 10), none, .bin .lss (.t 9) (.t 8)⟩], false, []⟩
def Tryd.r_treepatch_CopyTree_4 : LReg := ⟨[⟨(some 11), none, .idx 2 (.t 7) (.t 9)⟩,
  ⟨(some 12), none, .load 2 true (.t 11)⟩,
  ⟨(some 5), none, .alloc 61 2 [.str [], .nils]⟩,
  ⟨none, none, .store 2 (.t 5) (.t 12)⟩], false, []⟩
def Tryd.r_treepatch_CopyTree_5 : LReg := ⟨[⟨(some 13), none, .fieldAddr 0 (.t 3)⟩,
  ⟨(some 14), none, .load 1 false (.t 13)⟩,
  ⟨(some 15), none, .fieldAddr 0 (.t 5)⟩,
  ⟨(some 16), none, .load 1 false (.t 15)⟩,
  ⟨(some 17), none, .fieldAddr 1 (.t 5)⟩,
  ⟨(some 18), none, .load 1 false (.t 17)⟩,
  ⟨(some 19), none, .call 52 [(.t 18)]⟩,
  ⟨(some 20), none, .build [.str [], .nils] [(0, 1, (.t 16)), (1, 1, (.t 19))]⟩,
  ⟨(some 21), none, .mkSlice 61 2 1 [.str [], .nils] [(0, (.t 20))]⟩,
  ⟨(some 22), none, .append 61 2 40 (.t 14) (.t 21)⟩,
  ⟨(some 23), none, .fieldAddr 0 (.t 3)⟩,
  ⟨none, none, .store 1 (.t 23) (.t 22)⟩], true, [(0, 2), (1, 2), (0, 3), (1, 3), (0, 4), (1, 4), (2, 4), (3, 4), (0, 5), (1, 5), (2, 5), (3, 5), (0, 6), (1, 6), (2, 6), (3, 6), (0, 8), (1, 8)]⟩
def Tryd.r_treepatch_CopyTree_6 : LReg := ⟨[⟨(some 24), none, .bin .add (.t 9) (.c (.int .i64 (1)))⟩,
  ⟨(some 9), none, .mv (.t 24)⟩], false, []⟩
def Tryd.r_treepatch_CopyTree_7 : LReg := ⟨[⟨(some 25), none, .load 1 true (.t 3)⟩,
  ⟨none, none, .store 1 (.t 2) (.t 25)⟩], false, []⟩
def Tryd.l_treepatch_CopyTree : LCode := (.seq (.reg Tryd.r_treepatch_CopyTree_0) (.seq (.reg Tryd.r_treepatch_CopyTree_1) (.seq (.seq (.reg Tryd.r_treepatch_CopyTree_2) (.block 0 (.loop (.seq (.reg Tryd.r_treepatch_CopyTree_3) (.seq (.cond (.t 10) .skip (.exit 0)) (.seq (.block 1 (.seq (.reg Tryd.r_treepatch_CopyTree_4) (.reg Tryd.r_treepatch_CopyTree_5))) (.reg Tryd.r_treepatch_CopyTree_6))))))) (.seq (.reg Tryd.r_treepatch_CopyTree_7) .ret))))
theorem Tryd.c_treepatch_CopyTree : fnComp Tryd.prog 37 = some (26, Tryd.l_treepatch_CopyTree, [.cell 2 1 true]) := by kernel_rfl

/- 53 slices.IndexFunc[[]changeforge/api.File,changeforge/api.File] -/
def Tryd.r_slices_IndexFunc_api_File_api_File_0 : LReg := ⟨[⟨(some 4), none, .mv (.c (.int .i64 (0)))⟩], false, []⟩
def Tryd.r_slices_IndexFunc_api_File_api_File_1 : LReg := ⟨[⟨(some 6), none, .mv (.t 0)⟩,
  ⟨(some 7), none, .len (.t 6)⟩,
  ⟨(some 8), none, .mv (.c (.int .i64 (0)))⟩], false, []⟩
def Tryd.r_slices_IndexFunc_api_File_api_File_2 : LReg := ⟨[⟨(some 9), none, .bin .lss (.t 8) (.t 7)⟩], false, []⟩
def Tryd.r_slices_IndexFunc_api_File_api_File_3 : LReg := ⟨[⟨(some 10), none, .mv (.t 8)⟩,
  ⟨(some 5), none, .mv (.t 10)⟩], false, []⟩
def Tryd.r_slices_IndexFunc_api_File_api_File_4 : LReg := ⟨[⟨(some 11), none, .mv (.t 1)⟩,
  ⟨(some 12), none, .mv (.t 0)⟩,
  ⟨(some 13), none, .mv (.t 5)⟩,
  ⟨(some 14), none, .idx 2 (.t 12) (.t 13)⟩,
  ⟨(some 15), none, .load 2 true (.t 14)⟩,
  ⟨(some 16), none, .callv (.t 11) [(.t 15)]⟩], false, []⟩
def Tryd.r_slices_IndexFunc_api_File_api_File_5 : LReg := ⟨[⟨(some 17), none, .mv (.t 5)⟩,
  ⟨(some 4), none, .mv (.t 17)⟩], false, []⟩
def Tryd.r_slices_IndexFunc_api_File_api_File_6 : LReg := ⟨[⟨(some 18), none, .bin .add (.t 8) (.c (.int .i64 (1)))⟩,
  ⟨(some 8), none, .mv (.t 18)⟩], false, []⟩
def Tryd.r_slices_IndexFunc_api_File_api_File_7 : LReg := ⟨[⟨(some 4), none, .mv (.c (.int .i64 (-1)))⟩], false, []⟩
def Tryd.l_slices_IndexFunc_api_File_api_File : LCode := (.seq (.reg Tryd.r_slices_IndexFunc_api_File_api_File_0) (.seq (.seq (.reg Tryd.r_slices_IndexFunc_api_File_api_File_1) (.block 0 (.loop (.seq (.reg Tryd.r_slices_IndexFunc_api_File_api_File_2) (.seq (.cond (.t 9) .skip (.exit 0)) (.seq (.block 1 (.seq (.reg Tryd.r_slices_IndexFunc_api_File_api_File_3) (.seq (.reg Tryd.r_slices_IndexFunc_api_File_api_File_4) (.cond (.t 16) (.seq (.reg Tryd.r_slices_IndexFunc_api_File_api_File_5) .ret) .skip)))) (.reg Tryd.r_slices_IndexFunc_api_File_api_File_6))))))) (.seq (.reg Tryd.r_slices_IndexFunc_api_File_api_File_7) .ret)))
theorem Tryd.c_slices_IndexFunc_api_File_api_File : fnComp Tryd.prog 53 = some (19, Tryd.l_slices_IndexFunc_api_File_api_File, [.t 4]) := by kernel_rfl

/- 38 slices.DeleteFunc[[]changeforge/api.File,changeforge/api.File] -/
def Tryd.r_slices_DeleteFunc_api_File_api_File_0 : LReg := ⟨[⟨(some 4), none, .mv (.c (.nils))⟩], false, []⟩
def Tryd.r_slices_DeleteFunc_api_File_api_File_1 : LReg := ⟨[⟨(some 8), none, .mv (.t 0)⟩,
  ⟨(some 9), none, .mv (.t 1)⟩,
  ⟨(some 10), none, .call 53 [(.t 8), (.t 9)]⟩,
  ⟨(some 5), none, .mv (.t 10)⟩], false, []⟩
def Tryd.r_slices_DeleteFunc_api_File_api_File_2 : LReg := ⟨[⟨(some 11), none, .mv (.t 5)⟩,
  ⟨(some 12), none, .bin .eql (.t 11) (.c (.int .i64 (-1)))⟩], false, []⟩
def Tryd.r_slices_DeleteFunc_api_File_api_File_3 : LReg := ⟨[⟨(some 13), none, .mv (.t 0)⟩,
  ⟨(some 4), none, .mv (.t 13)⟩], false, []⟩
def Tryd.r_slices_DeleteFunc_api_File_api_File_4 : LReg := ⟨[⟨(some 14), none, .mv (.t 5)⟩,
  ⟨(some 15), none, .bin .add (.t 14) (.c (.int .i64 (1)))⟩,
  ⟨(some 6), none, .mv (.t 15)⟩], false, []⟩
def Tryd.r_slices_DeleteFunc_api_File_api_File_5 : LReg := ⟨[⟨(some 16), none, .mv (.t 6)⟩,
  ⟨(some 17), none, .mv (.t 0)⟩,
  ⟨(some 18), none, .len (.t 17)⟩,
  ⟨(some 19), none, .bin .lss (.t 16) (.t 18)⟩], false, []⟩
def Tryd.r_slices_DeleteFunc_api_File_api_File_6 : LReg := ⟨[⟨(some 22), none, .mv (.t 0)⟩,
  ⟨(some 23), none, .mv (.t 6)⟩,
  ⟨(some 24), none, .idx 2 (.t 22) (.t 23)⟩,
  ⟨(some 25), none, .load 2 true (.t 24)⟩,
  ⟨(some 7), none, .alloc 61 2 [.str [], .nils]⟩,
  ⟨none, none, .store 2 (.t 7) (.t 25)⟩], false, []⟩
def Tryd.r_slices_DeleteFunc_api_File_api_File_7 : LReg := ⟨[⟨(some 26), none, .mv (.t 1)⟩,
  ⟨(some 27), none, .load 2 true (.t 7)⟩,
  ⟨(some 28), none, .callv (.t 26) [(.t 27)]⟩,
  ⟨(some 29), none, .un .not (.t 28)⟩], false, []⟩
def Tryd.r_slices_DeleteFunc_api_File_api_File_8 : LReg := ⟨[⟨(some 30), none, .mv (.t 0)⟩,
  ⟨(some 31), none, .mv (.t 5)⟩,
  ⟨(some 32), none, .load 2 true (.t 7)⟩,
  ⟨(some 33), none, .idx 2 (.t 30) (.t 31)⟩,
  ⟨none, none, .store 2 (.t 33) (.t 32)⟩], false, []⟩
def Tryd.r_slices_DeleteFunc_api_File_api_File_9 : LReg := ⟨[⟨(some 34), none, .mv (.t 5)⟩,
  ⟨(some 35), none, .bin .add (.t 34) (.c (.int .i64 (1)))⟩,
  ⟨(some 5), none, .mv (.t 35)⟩], false, []⟩
def Tryd.r_slices_DeleteFunc_api_File_api_File_10 : LReg := ⟨[⟨(some 20), none, .mv (.t 6)⟩,
  ⟨(some 21), none, .bin .add (.t 20) (.c (.int .i64 (1)))⟩,
  ⟨(some 6), none, .mv (.t 21)⟩], false, []⟩
def Tryd.r_slices_DeleteFunc_api_File_api_File_11 : LReg := ⟨[⟨(some 36), none, .mv (.t 0)⟩,
  ⟨(some 37), none, .mv (.t 5)⟩,
  ⟨(some 38), none, .slice 2 (.t 36) (some (.t 37)) none⟩,
  ⟨none, none, .clear 2 [.str [], .nils] (.t 38)⟩], false, []⟩
def Tryd.r_slices_DeleteFunc_api_File_api_File_12 : LReg := ⟨[⟨(some 39), none, .mv (.t 0)⟩,
  ⟨(some 40), none, .mv (.t 5)⟩,
  ⟨(some 41), none, .slice 2 (.t 39) none (some (.t 40))⟩,
  ⟨(some 4), none, .mv (.t 41)⟩], false, []⟩
def Tryd.l_slices_DeleteFunc_api_File_api_File : LCode := (.seq (.reg Tryd.r_slices_DeleteFunc_api_File_api_File_0) (.seq (.reg Tryd.r_slices_DeleteFunc_api_File_api_File_1) (.seq (.seq (.reg Tryd.r_slices_DeleteFunc_api_File_api_File_2) (.cond (.t 12) (.seq (.reg Tryd.r_slices_DeleteFunc_api_File_api_File_3) .ret) .skip)) (.seq (.seq (.reg Tryd.r_slices_DeleteFunc_api_File_api_File_4) (.block 0 (.loop (.seq (.seq (.reg Tryd.r_slices_DeleteFunc_api_File_api_File_5) (.cond (.t 19) .skip (.exit 0))) (.seq (.block 1 (.seq (.reg Tryd.r_slices_DeleteFunc_api_File_api_File_6) (.seq (.reg Tryd.r_slices_DeleteFunc_api_File_api_File_7) (.cond (.t 29) (.seq (.reg Tryd.r_slices_DeleteFunc_api_File_api_File_8) (.reg Tryd.r_slices_DeleteFunc_api_File_api_File_9)) .skip)))) (.reg Tryd.r_slices_DeleteFunc_api_File_api_File_10)))))) (.seq (.reg Tryd.r_slices_DeleteFunc_api_File_api_File_11) (.seq (.reg Tryd.r_slices_DeleteFunc_api_File_api_File_12) .ret))))))
theorem Tryd.c_slices_DeleteFunc_api_File_api_File : fnComp Tryd.prog 38 = some (42, Tryd.l_slices_DeleteFunc_api_File_api_File, [.t 4]) := by kernel_rfl

/- 54 slices.Index[[]string,string] -/
def Tryd.r_slices_Index_string_0 : LReg := ⟨[⟨(some 4), none, .mv (.c (.int .i64 (0)))⟩], false, []⟩
def Tryd.r_slices_Index_string_1 : LReg := ⟨[⟨(some 6), none, .mv (.t 0)⟩,
  ⟨(some 7), none, .len (.t 6)⟩,
  ⟨(some 8), none, .mv (.c (.int .i64 (0)))⟩], false, []⟩
def Tryd.r_slices_Index_string_2 : LReg := ⟨[⟨(some 9), none, .bin .lss (.t 8) (.t 7)⟩], false, []⟩
def Tryd.r_slices_Index_string_3 : LReg := ⟨[⟨(some 10), none, .mv (.t 8)⟩,
  ⟨(some 5), none, .mv (.t 10)⟩], false, []⟩
def Tryd.r_slices_Index_string_4 : LReg := ⟨[⟨(some 11), none, .mv (.t 1)⟩,
  ⟨(some 12), none, .mv (.t 0)⟩,
  ⟨(some 13), none, .mv (.t 5)⟩,
  ⟨(some 14), none, .idx 1 (.t 12) (.t 13)⟩,
  ⟨(some 15), none, .load 1 false (.t 14)⟩,
  ⟨(some 16), none, .bin .eql (.t 11) (.t 15)⟩], false, []⟩
def Tryd.r_slices_Index_string_5 : LReg := ⟨[⟨(some 17), none, .mv (.t 5)⟩,
  ⟨(some 4), none, .mv (.t 17)⟩], false, []⟩
def Tryd.r_slices_Index_string_6 : LReg := ⟨[⟨(some 18), none, .bin .add (.t 8) (.c (.int .i64 (1)))⟩,
  ⟨(some 8), none, .mv (.t 18)⟩], false, []⟩
def Tryd.r_slices_Index_string_7 : LReg := ⟨[⟨(some 4), none, .mv (.c (.int .i64 (-1)))⟩], false, []⟩
def Tryd.l_slices_Index_string : LCode := (.seq (.reg Tryd.r_slices_Index_string_0) (.seq (.seq (.reg Tryd.r_slices_Index_string_1) (.block 0 (.loop (.seq (.reg Tryd.r_slices_Index_string_2) (.seq (.cond (.t 9) .skip (.exit 0)) (.seq (.block 1 (.seq (.reg Tryd.r_slices_Index_string_3) (.seq (.reg Tryd.r_slices_Index_string_4) (.cond (.t 16) (.seq (.reg Tryd.r_slices_Index_string_5) .ret) .skip)))) (.reg Tryd.r_slices_Index_string_6))))))) (.seq (.reg Tryd.r_slices_Index_string_7) .ret)))
theorem Tryd.c_slices_Index_string : fnComp Tryd.prog 54 = some (19, Tryd.l_slices_Index_string, [.t 4]) := by kernel_rfl

/- 40 slices.Contains[[]string,string] -/
def Tryd.r_slices_Contains_string_0 : LReg := ⟨[⟨(some 4), none, .mv (.c (.bool false))⟩], false, []⟩
def Tryd.r_slices_Contains_string_1 : LReg := ⟨[⟨(some 5), none, .mv (.t 0)⟩,
  ⟨(some 6), none, .mv (.t 1)⟩,
  ⟨(some 7), none, .call 54 [(.t 5), (.t 6)]⟩,
  ⟨(some 8), none, .bin .geq (.t 7) (.c (.int .i64 (0)))⟩,
  ⟨(some 4), none, .mv (.t 8)⟩], false, []⟩
def Tryd.l_slices_Contains_string : LCode := (.seq (.reg Tryd.r_slices_Contains_string_0) (.seq (.reg Tryd.r_slices_Contains_string_1) .ret))
theorem Tryd.c_slices_Contains_string : fnComp Tryd.prog 40 = some (9, Tryd.l_slices_Contains_string, [.t 4]) := by kernel_rfl

/- 39 changeforge/sandbox.Restrict$1 -/
theorem Tryd.b_sandbox_Restrict_1 : bodied Tryd.prog 39 = true := by kernel_rfl
def Tryd.r_sandbox_Restrict_1_0 : LReg := ⟨[⟨(some 2), none, .box 61 2 (.t 0)⟩,
  ⟨(some 3), none, .mv (.c (.bool false))⟩], false, []⟩
def Tryd.r_sandbox_Restrict_1_1 : LReg := ⟨[⟨(some 4), none, .fieldAddr 0 (.t 1)⟩,
  ⟨(some 5), none, .load 1 false (.t 4)⟩,
  ⟨(some 6), none, .fieldAddr 0 (.t 2)⟩,
  ⟨(some 7), none, .load 1 false (.t 6)⟩,
  ⟨(some 8), none, .call 40 [(.t 5), (.t 7)]⟩,
  ⟨(some 9), none, .un .not (.t 8)⟩,
  ⟨(some 3), none, .mv (.t 9)⟩], false, []⟩
def Tryd.l_sandbox_Restrict_1 : LCode := (.seq (.reg Tryd.r_sandbox_Restrict_1_0) (.seq (.reg Tryd.r_sandbox_Restrict_1_1) .ret))
theorem Tryd.c_sandbox_Restrict_1 : fnComp Tryd.prog 39 = some (10, Tryd.l_sandbox_Restrict_1, [.t 3]) := by kernel_rfl

/- 16 changeforge/sandbox.Restrict -/
def Tryd.r_sandbox_Restrict_0 : LReg := ⟨[⟨(some 2), none, .box 25 3 (.t 0)⟩,
  ⟨(some 3), none, .box 28 1 (.t 1)⟩,
  ⟨(some 4), none, .alloc 28 1 [.nils]⟩,
  ⟨(some 5), none, .alloc 30 2 [.int .i64 (0), .int .i64 (0)]⟩], false, []⟩
def Tryd.r_sandbox_Restrict_1 : LReg := ⟨[⟨(some 8), none, .load 3 true (.t 2)⟩,
  ⟨(some 9), none, .load 1 true (.t 3)⟩,
  ⟨(some 10), none, .call 36 [(.t 8), (.t 9)]⟩,
  ⟨(some 6), none, .alloc 30 2 [.int .i64 (0), .int .i64 (0)]⟩,
  ⟨none, none, .store 2 (.t 6) (.t 10)⟩], false, []⟩
def Tryd.r_sandbox_Restrict_2 : LReg := ⟨[⟨(some 11), none, .load 2 true (.t 6)⟩,
  ⟨(some 12), none, .build [.int .i64 (0), .int .i64 (0)] []⟩,
  ⟨(some 13), none, .eqs true [0, 0] (.t 11) (.t 12)⟩], false, []⟩
def Tryd.r_sandbox_Restrict_3 : LReg := ⟨[⟨(some 14), none, .build [.nils] []⟩,
  ⟨(some 15), none, .load 2 true (.t 6)⟩,
  ⟨none, none, .store 1 (.t 4) (.t 14)⟩,
  ⟨none, none, .store 2 (.t 5) (.t 15)⟩], true, [(1, 2)]⟩
def Tryd.r_sandbox_Restrict_4 : LReg := ⟨[⟨(some 16), none, .load 1 true (.t 3)⟩,
  ⟨(some 17), none, .call 37 [(.t 16)]⟩,
  ⟨(some 7), none, .alloc 28 1 [.nils]⟩,
  ⟨none, none, .store 1 (.t 7) (.t 17)⟩], false, []⟩
def Tryd.r_sandbox_Restrict_5 : LReg := ⟨[⟨(some 18), none, .fieldAddr 0 (.t 7)⟩,
  ⟨(some 19), none, .load 1 false (.t 18)⟩,
  ⟨(some 20), none, .mkfn 39 [] [(.t 2)]⟩,
  ⟨(some 21), none, .call 38 [(.t 19), (.t 20)]⟩,
  ⟨(some 22), none, .fieldAddr 0 (.t 7)⟩,
  ⟨none, none, .store 1 (.t 22) (.t 21)⟩], false, []⟩
def Tryd.r_sandbox_Restrict_6 : LReg := ⟨[⟨(some 23), none, .load 1 true (.t 7)⟩,
  ⟨(some 24), none, .build [.int .i64 (0), .int .i64 (0)] []⟩,
  ⟨none, none, .store 1 (.t 4) (.t 23)⟩,
  ⟨none, none, .store 2 (.t 5) (.t 24)⟩], false, []⟩
def Tryd.l_sandbox_Restrict : LCode := (.seq (.reg Tryd.r_sandbox_Restrict_0) (.seq (.seq (.reg Tryd.r_sandbox_Restrict_1) (.seq (.reg Tryd.r_sandbox_Restrict_2) (.cond (.t 13) (.seq (.reg Tryd.r_sandbox_Restrict_3) .ret) .skip))) (.seq (.reg Tryd.r_sandbox_Restrict_4) (.seq (.reg Tryd.r_sandbox_Restrict_5) (.seq (.reg Tryd.r_sandbox_Restrict_6) .ret)))))
theorem Tryd.c_sandbox_Restrict : fnComp Tryd.prog 16 = some (25, Tryd.l_sandbox_Restrict, [.cell 4 1 true, .cell 5 2 true]) := by kernel_rfl

/- 17 changeforge/changeforgeref6.Trees -/
def Tryd.r_ref6_Trees_0 : LReg := ⟨[⟨(some 2), none, .box 28 1 (.t 0)⟩,
  ⟨(some 3), none, .box 28 1 (.t 1)⟩,
  ⟨(some 4), none, .mv (.c (.bool false))⟩], false, []⟩
def Tryd.r_ref6_Trees_1 : LReg := ⟨[⟨(some 6), none, .fieldAddr 0 (.t 2)⟩,
  ⟨(some 7), none, .load 1 false (.t 6)⟩,
  ⟨(some 8), none, .len (.t 7)⟩,
  ⟨(some 9), none, .fieldAddr 0 (.t 3)⟩,
  ⟨(some 10), none, .load 1 false (.t 9)⟩,
  ⟨(some 11), none, .len (.t 10)⟩,
  ⟨(some 12), none, .bin .neq (.t 8) (.t 11)⟩], false, []⟩
def Tryd.r_ref6_Trees_2 : LReg := ⟨[⟨(some 4), none, .mv (.c (.bool false))⟩], false, []⟩
def Tryd.r_ref6_Trees_3 : LReg := ⟨[⟨(some 5), none, .mv (.c (.int .i64 (0)))⟩], false, []⟩
def Tryd.r_ref6_Trees_4 : LReg := ⟨[⟨(some 13), none, .mv (.t 5)⟩,
  ⟨(some 14), none, .fieldAddr 0 (.t 2)⟩,
  ⟨(some 15), none, .load 1 false (.t 14)⟩,
  ⟨(some 16), none, .len (.t 15)⟩,
  ⟨(some 17), none, .bin .lss (.t 13) (.t 16)⟩], false, []⟩
def Tryd.r_ref6_Trees_5 : LReg := ⟨[⟨(some 20), none, .fieldAddr 0 (.t 2)⟩,
  ⟨(some 21), none, .load 1 false (.t 20)⟩,
  ⟨(some 22), none, .mv (.t 5)⟩,
  ⟨(some 23), none, .idx 2 (.t 21) (.t 22)⟩,
  ⟨(some 24), none, .fieldAddr 0 (.t 23)⟩,
  ⟨(some 25), none, .load 1 false (.t 24)⟩,
  ⟨(some 26), none, .fieldAddr 0 (.t 3)⟩,
  ⟨(some 27), none, .load 1 false (.t 26)⟩,
  ⟨(some 28), none, .mv (.t 5)⟩,
  ⟨(some 29), none, .idx 2 (.t 27) (.t 28)⟩,
  ⟨(some 30), none, .fieldAddr 0 (.t 29)⟩,
  ⟨(some 31), none, .load 1 false (.t 30)⟩,
  ⟨(some 32), none, .bin .neq (.t 25) (.t 31)⟩,
  ⟨(some 33), none, .mv (.t 32)⟩,
  ⟨(some 34), (some (33, false)), .fieldAddr 0 (.t 2)⟩,
  ⟨(some 35), (some (33, false)), .load 1 false (.t 34)⟩,
  ⟨(some 36), (some (33, false)), .mv (.t 5)⟩,
  ⟨(some 37), (some (33, false)), .idx 2 (.t 35) (.t 36)⟩,
  ⟨(some 38), (some (33, false)), .fieldAddr 1 (.t 37)⟩,
  ⟨(some 39), (some (33, false)), .load 1 false (.t 38)⟩,
  ⟨(some 40), (some (33, false)), .fieldAddr 0 (.t 3)⟩,
  ⟨(some 41), (some (33, false)), .load 1 false (.t 40)⟩,
  ⟨(some 42), (some (33, false)), .mv (.t 5)⟩,
  ⟨(some 43), (some (33, false)), .idx 2 (.t 41) (.t 42)⟩,
  ⟨(some 44), (some (33, false)), .fieldAddr 1 (.t 43)⟩,
  ⟨(some 45), (some (33, false)), .load 1 false (.t 44)⟩,
  ⟨(some 46), (some (33, false)), .call 13 [(.t 39), (.t 45)]⟩,
  ⟨(some 47), (some (33, false)), .un .not (.t 46)⟩,
  ⟨(some 48), none, .pick (.t 33) (.c (.bool true)) (.t 47)⟩], true, [(0, 6), (1, 6), (3, 6), (4, 6), (5, 6), (0, 7), (1, 7), (3, 7), (4, 7), (5, 7), (0, 9), (1, 9), (3, 9), (4, 9), (5, 9), (0, 10), (1, 10), (3, 10), (4, 10), (5, 10), (0, 11), (1, 11), (3, 11), (4, 11), (5, 11), (14, 20), (15, 20), (17, 20), (18, 20), (19, 20), (14, 21), (15, 21), (17, 21), (18, 21), (19, 21), (14, 23), (15, 23), (17, 23), (18, 23), (19, 23), (14, 24), (15, 24), (17, 24), (18, 24), (19, 24), (14, 25), (15, 25), (17, 25), (18, 25), (19, 25)]⟩
def Tryd.r_ref6_Trees_6 : LReg := ⟨[⟨(some 4), none, .mv (.c (.bool false))⟩], false, []⟩
def Tryd.r_ref6_Trees_7 : LReg := ⟨[⟨(some 18), none, .mv (.t 5)⟩,
  ⟨(some 19), none, .bin .add (.t 18) (.c (.int .i64 (1)))⟩,
  ⟨(some 5), none, .mv (.t 19)⟩], false, []⟩
def Tryd.r_ref6_Trees_8 : LReg := ⟨[⟨(some 4), none, .mv (.c (.bool true))⟩], false, []⟩
def Tryd.l_ref6_Trees : LCode := (.seq (.reg Tryd.r_ref6_Trees_0) (.seq (.seq (.reg Tryd.r_ref6_Trees_1) (.cond (.t 12) (.seq (.reg Tryd.r_ref6_Trees_2) .ret) .skip)) (.seq (.seq (.reg Tryd.r_ref6_Trees_3) (.block 0 (.loop (.seq (.seq (.reg Tryd.r_ref6_Trees_4) (.cond (.t 17) .skip (.exit 0))) (.seq (.block 1 (.seq (.reg Tryd.r_ref6_Trees_5) (.cond (.t 48) (.seq (.reg Tryd.r_ref6_Trees_6) .ret) .skip))) (.reg Tryd.r_ref6_Trees_7)))))) (.seq (.reg Tryd.r_ref6_Trees_8) .ret))))
theorem Tryd.c_ref6_Trees : fnComp Tryd.prog 17 = some (49, Tryd.l_ref6_Trees, [.t 4]) := by kernel_rfl

/- 78 slices.BinarySearchFunc[[]changeforge/api.File,changeforge/api.File,string] -/
def Tryd.r_slices_BinarySearchFunc_api_File_api_File_string_0 : LReg := ⟨[⟨(some 6), none, .mv (.c (.int .i64 (0)))⟩,
  ⟨(some 7), none, .mv (.c (.bool false))⟩], false, []⟩
def Tryd.r_slices_BinarySearchFunc_api_File_api_File_string_1 : LReg := ⟨[⟨(some 12), none, .mv (.t 0)⟩,
  ⟨(some 13), none, .len (.t 12)⟩,
  ⟨(some 8), none, .mv (.t 13)⟩], false, []⟩
def Tryd.r_slices_BinarySearchFunc_api_File_api_File_string_2 : LReg := ⟨[⟨(some 14), none, .mv (.t 8)⟩,
  ⟨(some 9), none, .mv (.c (.int .i64 (0)))⟩,
  ⟨(some 10), none, .mv (.t 14)⟩], false, []⟩
def Tryd.r_slices_BinarySearchFunc_api_File_api_File_string_3 : LReg := ⟨[⟨(some 15), none, .mv (.t 9)⟩,
  ⟨(some 16), none, .mv (.t 10)⟩,
  ⟨(some 17), none, .bin .lss (.t 15) (.t 16)⟩], false, []⟩
def Tryd.r_slices_BinarySearchFunc_api_File_api_File_string_4 : LReg := ⟨[⟨(some 18), none, .mv (.t 9)⟩,
  ⟨(some 19), none, .mv (.t 10)⟩,
  ⟨(some 20), none, .bin .add (.t 18) (.t 19)⟩,
  ⟨(some 21), none, .conv .u64 (.t 20)⟩,
  ⟨(some 22), none, .bin .shr (.t 21) (.c (.int .u64 (1)))⟩,
  ⟨(some 23), none, .conv .i64 (.t 22)⟩,
  ⟨(some 11), none, .mv (.t 23)⟩], false, []⟩
def Tryd.r_slices_BinarySearchFunc_api_File_api_File_string_5 : LReg := ⟨[⟨(some 24), none, .mv (.t 2)⟩,
  ⟨(some 25), none, .mv (.t 0)⟩,
  ⟨(some 26), none, .mv (.t 11)⟩,
  ⟨(some 27), none, .idx 2 (.t 25) (.t 26)⟩,
  ⟨(some 28), none, .load 2 true (.t 27)⟩,
  ⟨(some 29), none, .mv (.t 1)⟩,
  ⟨(some 30), none, .callv (.t 24) [(.t 28), (.t 29)]⟩,
  ⟨(some 31), none, .bin .lss (.t 30) (.c (.int .i64 (0)))⟩], false, []⟩
def Tryd.r_slices_BinarySearchFunc_api_File_api_File_string_6 : LReg := ⟨[⟨(some 32), none, .mv (.t 11)⟩,
  ⟨(some 33), none, .bin .add (.t 32) (.c (.int .i64 (1)))⟩,
  ⟨(some 9), none, .mv (.t 33)⟩], false, []⟩
def Tryd.r_slices_BinarySearchFunc_api_File_api_File_string_7 : LReg := ⟨[⟨(some 34), none, .mv (.t 11)⟩,
  ⟨(some 10), none, .mv (.t 34)⟩], false, []⟩
def Tryd.r_slices_BinarySearchFunc_api_File_api_File_string_8 : LReg := ⟨[⟨(some 35), none, .mv (.t 9)⟩,
  ⟨(some 36), none, .mv (.t 9)⟩,
  ⟨(some 37), none, .mv (.t 8)⟩,
  ⟨(some 38), none, .bin .lss (.t 36) (.t 37)⟩,
  ⟨(some 39), none, .mv (.t 38)⟩,
  ⟨(some 40), (some (39, true)), .mv (.t 2)⟩,
  ⟨(some 41), (some (39, true)), .mv (.t 0)⟩,
  ⟨(some 42), (some (39, true)), .mv (.t 9)⟩,
  ⟨(some 43), (some (39, true)), .idx 2 (.t 41) (.t 42)⟩,
  ⟨(some 44), (some (39, true)), .load 2 true (.t 43)⟩,
  ⟨(some 45), (some (39, true)), .mv (.t 1)⟩,
  ⟨(some 46), (some (39, true)), .callv (.t 40) [(.t 44), (.t 45)]⟩,
  ⟨(some 47), (some (39, true)), .bin .eql (.t 46) (.c (.int .i64 (0)))⟩,
  ⟨(some 48), none, .pick (.t 39) (.t 47) (.c (.bool false))⟩,
  ⟨(some 6), none, .mv (.t 35)⟩,
  ⟨(some 7), none, .mv (.t 48)⟩], false, []⟩
def Tryd.l_slices_BinarySearchFunc_api_File_api_File_string : LCode := (.seq (.reg Tryd.r_slices_BinarySearchFunc_api_File_api_File_string_0) (.seq (.reg Tryd.r_slices_BinarySearchFunc_api_File_api_File_string_1) (.seq (.reg Tryd.r_slices_BinarySearchFunc_api_File_api_File_string_2) (.seq (.block 0 (.loop (.seq (.seq (.reg Tryd.r_slices_BinarySearchFunc_api_File_api_File_string_3) (.cond (.t 17) .skip (.exit 0))) (.block 1 (.seq (.reg Tryd.r_slices_BinarySearchFunc_api_File_api_File_string_4) (.seq (.reg Tryd.r_slices_BinarySearchFunc_api_File_api_File_string_5) (.cond (.t 31) (.reg Tryd.r_slices_BinarySearchFunc_api_File_api_File_string_6) (.reg Tryd.r_slices_BinarySearchFunc_api_File_api_File_string_7)))))))) (.seq (.reg Tryd.r_slices_BinarySearchFunc_api_File_api_File_string_8) .ret)))))
theorem Tryd.c_slices_BinarySearchFunc_api_File_api_File_string : fnComp Tryd.prog 78 = some (49, Tryd.l_slices_BinarySearchFunc_api_File_api_File_string, [.t 6, .t 7]) := by kernel_rfl

/- 79 changeforge/treepatch.Find$1 -/
theorem Tryd.b_treepatch_Find_1 : bodied Tryd.prog 79 = true := by kernel_rfl
def Tryd.r_treepatch_Find_1_0 : LReg := ⟨[⟨(some 2), none, .box 61 2 (.t 0)⟩,
  ⟨(some 4), none, .mv (.c (.int .i64 (0)))⟩], false, []⟩
def Tryd.r_treepatch_Find_1_1 : LReg := ⟨[⟨(some 5), none, .fieldAddr 0 (.t 2)⟩,
  ⟨(some 6), none, .load 1 false (.t 5)⟩,
  ⟨(some 7), none, .mv (.t 1)⟩,
  ⟨(some 8), none, .call 80 [(.t 6), (.t 7)]⟩,
  ⟨(some 4), none, .mv (.t 8)⟩], false, []⟩
def Tryd.l_treepatch_Find_1 : LCode := (.seq (.reg Tryd.r_treepatch_Find_1_0) (.seq (.reg Tryd.r_treepatch_Find_1_1) .ret))
theorem Tryd.c_treepatch_Find_1 : fnComp Tryd.prog 79 = some (9, Tryd.l_treepatch_Find_1, [.t 4]) := by kernel_rfl

/- 57 changeforge/treepatch.Find -/
def Tryd.r_treepatch_Find_0 : LReg := ⟨[⟨(some 4), none, .mv (.c (.int .i64 (0)))⟩,
  ⟨(some 5), none, .mv (.c (.bool false))⟩], false, []⟩
def Tryd.r_treepatch_Find_1 : LReg := ⟨[⟨(some 6), none, .mv (.t 0)⟩,
  ⟨(some 7), none, .mv (.t 1)⟩,
  ⟨(some 8), none, .call 78 [(.t 6), (.t 7), (.c (.fn 79 [] []))]⟩,
  ⟨(some 9), none, .extract 0 (.t 8)⟩,
  ⟨(some 10), none, .extract 1 (.t 8)⟩,
  ⟨(some 4), none, .mv (.t 9)⟩,
  ⟨(some 5), none, .mv (.t 10)⟩], false, []⟩
def Tryd.l_treepatch_Find : LCode := (.seq (.reg Tryd.r_treepatch_Find_0) (.seq (.reg Tryd.r_treepatch_Find_1) .ret))
theorem Tryd.c_treepatch_Find : fnComp Tryd.prog 57 = some (11, Tryd.l_treepatch_Find, [.t 4, .t 5]) := by kernel_rfl

/- 58 changeforge/sandbox.step$1 -/
theorem Tryd.b_sandbox_step_1 : bodied Tryd.prog 58 = true := by kernel_rfl
def Tryd.r_sandbox_step_1_0 : LReg := ⟨[⟨(some 3), none, .mv (.c (.nils))⟩,
  ⟨(some 4), none, .mv (.c (.int .i64 (0)))⟩], false, []⟩
def Tryd.r_sandbox_step_1_1 : LReg := ⟨[⟨(some 5), none, .load 1 false (.t 1)⟩,
  ⟨(some 6), none, .len (.t 5)⟩,
  ⟨(some 7), none, .mv (.t 0)⟩,
  ⟨(some 8), none, .len (.t 7)⟩,
  ⟨(some 9), none, .bin .add (.t 6) (.t 8)⟩,
  ⟨(some 10), none, .bin .gtr (.t 9) (.c (.int .i64 (120)))⟩], false, []⟩
def Tryd.r_sandbox_step_1_2 : LReg := ⟨[⟨(some 3), none, .mv (.c (.nils))⟩,
  ⟨(some 4), none, .mv (.c (.int .i64 (10)))⟩], false, []⟩
def Tryd.r_sandbox_step_1_3 : LReg := ⟨[⟨(some 11), none, .load 1 false (.t 1)⟩,
  ⟨(some 12), none, .mv (.t 0)⟩,
  ⟨(some 13), none, .append 9 1 16 (.t 11) (.t 12)⟩,
  ⟨(some 3), none, .mv (.t 13)⟩,
  ⟨(some 4), none, .mv (.c (.int .i64 (0)))⟩], false, []⟩
def Tryd.l_sandbox_step_1 : LCode := (.seq (.reg Tryd.r_sandbox_step_1_0) (.seq (.seq (.reg Tryd.r_sandbox_step_1_1) (.cond (.t 10) (.seq (.reg Tryd.r_sandbox_step_1_2) .ret) .skip)) (.seq (.reg Tryd.r_sandbox_step_1_3) .ret)))
theorem Tryd.c_sandbox_step_1 : fnComp Tryd.prog 58 = some (14, Tryd.l_sandbox_step_1, [.t 3, .t 4]) := by kernel_rfl

/- 59 slices.Reverse[[]string,string] -/
def Tryd.r_slices_Reverse_string_0 : LReg := ⟨[⟨(some 4), none, .mv (.t 0)⟩,
  ⟨(some 5), none, .len (.t 4)⟩,
  ⟨(some 6), none, .bin .sub (.t 5) (.c (.int .i64 (1)))⟩,
  ⟨(some 2), none, .mv (.c (.int .i64 (0)))⟩,
  ⟨(some 3), none, .mv (.t 6)⟩], false, []⟩
def Tryd.r_slices_Reverse_string_1 : LReg := ⟨[⟨(some 7), none, .mv (.t 2)⟩,
  ⟨(some 8), none, .mv (.t 3)⟩,
  ⟨(some 9), none, .bin .lss (.t 7) (.t 8)⟩], false, []⟩
def Tryd.r_slices_Reverse_string_2 : LReg := ⟨[⟨(some 14), none, .mv (.t 0)⟩,
  ⟨(some 15), none, .mv (.t 2)⟩,
  ⟨(some 16), none, .mv (.t 0)⟩,
  ⟨(some 17), none, .mv (.t 3)⟩,
  ⟨(some 18), none, .mv (.t 0)⟩,
  ⟨(some 19), none, .mv (.t 3)⟩,
  ⟨(some 20), none, .idx 1 (.t 18) (.t 19)⟩,
  ⟨(some 21), none, .load 1 false (.t 20)⟩,
  ⟨(some 22), none, .mv (.t 0)⟩,
  ⟨(some 23), none, .mv (.t 2)⟩,
  ⟨(some 24), none, .idx 1 (.t 22) (.t 23)⟩,
  ⟨(some 25), none, .load 1 false (.t 24)⟩,
  ⟨(some 26), none, .idx 1 (.t 14) (.t 15)⟩,
  ⟨none, none, .store 1 (.t 26) (.t 21)⟩,
  ⟨(some 27), none, .idx 1 (.t 16) (.t 17)⟩,
  ⟨none, none, .store 1 (.t 27) (.t 25)⟩], true, [(6, 10), (7, 10), (6, 11), (7, 11)]⟩
def Tryd.r_slices_Reverse_string_3 : LReg := ⟨[⟨(some 10), none, .mv (.t 2)⟩,
  ⟨(some 11), none, .bin .add (.t 10) (.c (.int .i64 (1)))⟩,
  ⟨(some 12), none, .mv (.t 3)⟩,
  ⟨(some 13), none, .bin .sub (.t 12) (.c (.int .i64 (1)))⟩,
  ⟨(some 2), none, .mv (.t 11)⟩,
  ⟨(some 3), none, .mv (.t 13)⟩], false, []⟩
def Tryd.l_slices_Reverse_string : LCode := (.seq (.reg Tryd.r_slices_Reverse_string_0) (.block 0 (.loop (.seq (.seq (.reg Tryd.r_slices_Reverse_string_1) (.cond (.t 9) .skip (.exit 0))) (.seq (.block 1 (.reg Tryd.r_slices_Reverse_string_2)) (.reg Tryd.r_slices_Reverse_string_3))))))
theorem Tryd.c_slices_Reverse_string : fnComp Tryd.prog 59 = some (28, Tryd.l_slices_Reverse_string, []) := by kernel_rfl

/- 60 changeforge/sandbox.unique -/
def Tryd.r_sandbox_unique_0 : LReg := ⟨[⟨(some 2), none, .mv (.c (.nils))⟩], false, []⟩
def Tryd.r_sandbox_unique_1 : LReg := ⟨[⟨(some 3), none, .mv (.c (.nils))⟩], false, []⟩
def Tryd.r_sandbox_unique_2 : LReg := ⟨[⟨(some 6), none, .mv (.t 0)⟩,
  ⟨(some 7), none, .len (.t 6)⟩,
  ⟨(some 8), none, .mv (.c (.int .i64 (0)))⟩], false, []⟩
def Tryd.r_sandbox_unique_3 : LReg := ⟨[⟨(some 9), none, .bin .lss (.t 8) (.t 7)⟩], false, []⟩
def Tryd.r_sandbox_unique_4 : LReg := ⟨[⟨(some 10), none, .idx 1 (.t 6) (.t 8)⟩,
  ⟨(some 11), none, .load 1 false (.t 10)⟩,
  ⟨(some 5), none, .mv (.t 11)⟩], false, []⟩
def Tryd.r_sandbox_unique_5 : LReg := ⟨[⟨(some 12), none, .mv (.t 3)⟩,
  ⟨(some 13), none, .mv (.t 5)⟩,
  ⟨(some 14), none, .call 40 [(.t 12), (.t 13)]⟩,
  ⟨(some 15), none, .un .not (.t 14)⟩], false, []⟩
def Tryd.r_sandbox_unique_6 : LReg := ⟨[⟨(some 16), none, .mv (.t 3)⟩,
  ⟨(some 17), none, .mv (.t 5)⟩,
  ⟨(some 18), none, .mkSlice 9 1 1 [.str []] [(0, (.t 17))]⟩,
  ⟨(some 19), none, .append 9 1 16 (.t 16) (.t 18)⟩,
  ⟨(some 3), none, .mv (.t 19)⟩], false, []⟩
def Tryd.r_sandbox_unique_7 : LReg := ⟨[⟨(some 20), none, .bin .add (.t 8) (.c (.int .i64 (1)))⟩,
  ⟨(some 8), none, .mv (.t 20)⟩], false, []⟩
def Tryd.r_sandbox_unique_8 : LReg := ⟨[⟨(some 21), none, .mv (.t 3)⟩,
  ⟨(some 2), none, .mv (.t 21)⟩], false, []⟩
def Tryd.l_sandbox_unique : LCode := (.seq (.reg Tryd.r_sandbox_unique_0) (.seq (.reg Tryd.r_sandbox_unique_1) (.seq (.seq (.reg Tryd.r_sandbox_unique_2) (.block 0 (.loop (.seq (.reg Tryd.r_sandbox_unique_3) (.seq (.cond (.t 9) .skip (.exit 0)) (.seq (.block 1 (.seq (.reg Tryd.r_sandbox_unique_4) (.seq (.reg Tryd.r_sandbox_unique_5) (.cond (.t 15) (.reg Tryd.r_sandbox_unique_6) .skip)))) (.reg Tryd.r_sandbox_unique_7))))))) (.seq (.reg Tryd.r_sandbox_unique_8) .ret))))
theorem Tryd.c_sandbox_unique : fnComp Tryd.prog 60 = some (22, Tryd.l_sandbox_unique, [.t 2]) := by kernel_rfl

/- 42 changeforge/sandbox.step -/
def Tryd.r_sandbox_step_0 : LReg := ⟨[⟨(some 4), none, .box 25 3 (.t 0)⟩,
  ⟨(some 5), none, .box 47 2 (.t 1)⟩,
  ⟨(some 6), none, .box 28 1 (.t 2)⟩,
  ⟨(some 7), none, .box 22 1 (.t 3)⟩,
  ⟨(some 8), none, .mv (.c (.nils))⟩,
  ⟨(some 9), none, .mv (.c (.int .i64 (0)))⟩], false, []⟩
def Tryd.r_sandbox_step_1 : LReg := ⟨[⟨(some 14), none, .fieldAddr 0 (.t 6)⟩,
  ⟨(some 15), none, .load 1 false (.t 14)⟩,
  ⟨(some 16), none, .fieldAddr 1 (.t 5)⟩,
  ⟨(some 17), none, .load 1 false (.t 16)⟩,
  ⟨(some 18), none, .call 57 [(.t 15), (.t 17)]⟩,
  ⟨(some 13), none, .mv (.t 18)⟩,
  ⟨(some 19), none, .extract 0 (.t 13)⟩,
  ⟨(some 20), none, .extract 1 (.t 13)⟩,
  ⟨(some 10), none, .mv (.t 19)⟩,
  ⟨(some 11), none, .mv (.t 20)⟩], false, []⟩
def Tryd.r_sandbox_step_2 : LReg := ⟨[⟨(some 21), none, .mkfn 58 [] [(.t 7)]⟩,
  ⟨(some 12), none, .mv (.t 21)⟩], false, []⟩
def Tryd.r_sandbox_step_3 : LReg := ⟨[⟨(some 22), none, .fieldAddr 0 (.t 5)⟩,
  ⟨(some 23), none, .load 1 false (.t 22)⟩,
  ⟨(some 24), none, .bin .eql (.t 23) (.c (.int .i64 (1)))⟩,
  ⟨(some 25), none, .mv (.t 24)⟩,
  ⟨(some 26), (some (25, false)), .fieldAddr 0 (.t 5)⟩,
  ⟨(some 27), (some (25, false)), .load 1 false (.t 26)⟩,
  ⟨(some 28), (some (25, false)), .bin .eql (.t 27) (.c (.int .i64 (2)))⟩,
  ⟨(some 29), none, .pick (.t 25) (.c (.bool true)) (.t 28)⟩,
  ⟨(some 30), none, .mv (.t 29)⟩,
  ⟨(some 31), (some (30, true)), .fieldAddr 0 (.t 4)⟩,
  ⟨(some 32), (some (30, true)), .load 1 false (.t 31)⟩,
  ⟨(some 33), (some (30, true)), .fieldAddr 1 (.t 5)⟩,
  ⟨(some 34), (some (30, true)), .load 1 false (.t 33)⟩,
  ⟨(some 35), (some (30, true)), .call 40 [(.t 32), (.t 34)]⟩,
  ⟨(some 36), (some (30, true)), .un .not (.t 35)⟩,
  ⟨(some 37), none, .pick (.t 30) (.t 36) (.c (.bool false))⟩], false, []⟩
def Tryd.r_sandbox_step_4 : LReg := ⟨[⟨(some 8), none, .mv (.c (.nils))⟩,
  ⟨(some 9), none, .mv (.c (.int .i64 (13)))⟩], false, []⟩
def Tryd.r_sandbox_step_5 : LReg := ⟨[⟨(some 38), none, .fieldAddr 0 (.t 5)⟩,
  ⟨(some 39), none, .load 1 false (.t 38)⟩], false, []⟩
def Tryd.r_sandbox_step_6 : LReg := ⟨[⟨(some 41), none, .bin .eql (.t 39) (.c (.int .i64 (1)))⟩,
  ⟨(some 40), none, .mv (.t 41)⟩], false, []⟩
def Tryd.r_sandbox_step_7 : LReg := ⟨[⟨(some 42), none, .mv (.t 11)⟩,
  ⟨(some 43), none, .un .not (.t 42)⟩], false, []⟩
def Tryd.r_sandbox_step_8 : LReg := ⟨[⟨(some 8), none, .mv (.c (.nils))⟩,
  ⟨(some 9), none, .mv (.c (.int .i64 (6)))⟩], false, []⟩
def Tryd.r_sandbox_step_9 : LReg := ⟨[⟨(some 44), none, .mv (.t 12)⟩,
  ⟨(some 45), none, .fieldAddr 0 (.t 6)⟩,
  ⟨(some 46), none, .load 1 false (.t 45)⟩,
  ⟨(some 47), none, .mv (.t 10)⟩,
  ⟨(some 48), none, .idx 2 (.t 46) (.t 47)⟩,
  ⟨(some 49), none, .fieldAddr 1 (.t 48)⟩,
  ⟨(some 50), none, .load 1 false (.t 49)⟩,
  ⟨(some 51), none, .callv (.t 44) [(.t 50)]⟩,
  ⟨(some 52), none, .extract 0 (.t 51)⟩,
  ⟨(some 53), none, .extract 1 (.t 51)⟩,
  ⟨(some 8), none, .mv (.t 52)⟩,
  ⟨(some 9), none, .mv (.t 53)⟩], false, []⟩
def Tryd.r_sandbox_step_10 : LReg := ⟨[⟨(some 55), none, .bin .eql (.t 39) (.c (.int .i64 (2)))⟩,
  ⟨(some 54), none, .mv (.t 55)⟩], false, []⟩
def Tryd.r_sandbox_step_11 : LReg := ⟨[⟨(some 56), none, .mv (.t 11)⟩], false, []⟩
def Tryd.r_sandbox_step_12 : LReg := ⟨[⟨(some 57), none, .mv (.t 12)⟩,
  ⟨(some 58), none, .mkSlice 9 1 1 [.str []] [(0, (.c (.str [121, 101, 115])))]⟩,
  ⟨(some 59), none, .callv (.t 57) [(.t 58)]⟩,
  ⟨(some 60), none, .extract 0 (.t 59)⟩,
  ⟨(some 61), none, .extract 1 (.t 59)⟩,
  ⟨(some 8), none, .mv (.t 60)⟩,
  ⟨(some 9), none, .mv (.t 61)⟩], false, []⟩
def Tryd.r_sandbox_step_13 : LReg := ⟨[⟨(some 62), none, .mv (.t 12)⟩,
  ⟨(some 63), none, .mkSlice 9 1 1 [.str []] [(0, (.c (.str [110, 111])))]⟩,
  ⟨(some 64), none, .callv (.t 62) [(.t 63)]⟩,
  ⟨(some 65), none, .extract 0 (.t 64)⟩,
  ⟨(some 66), none, .extract 1 (.t 64)⟩,
  ⟨(some 8), none, .mv (.t 65)⟩,
  ⟨(some 9), none, .mv (.t 66)⟩], false, []⟩
def Tryd.r_sandbox_step_14 : LReg := ⟨[⟨(some 68), none, .bin .eql (.t 39) (.c (.int .i64 (3)))⟩,
  ⟨(some 67), none, .mv (.t 68)⟩], false, []⟩
def Tryd.r_sandbox_step_15 : LReg := ⟨[⟨(some 69), none, .mv (.t 12)⟩,
  ⟨(some 70), none, .fieldAddr 1 (.t 5)⟩,
  ⟨(some 71), none, .load 1 false (.t 70)⟩,
  ⟨(some 72), none, .mkSlice 9 1 1 [.str []] [(0, (.t 71))]⟩,
  ⟨(some 73), none, .callv (.t 69) [(.t 72)]⟩,
  ⟨(some 74), none, .extract 0 (.t 73)⟩,
  ⟨(some 75), none, .extract 1 (.t 73)⟩,
  ⟨(some 8), none, .mv (.t 74)⟩,
  ⟨(some 9), none, .mv (.t 75)⟩], false, []⟩
def Tryd.r_sandbox_step_16 : LReg := ⟨[⟨(some 77), none, .bin .eql (.t 39) (.c (.int .i64 (4)))⟩,
  ⟨(some 76), none, .mv (.t 77)⟩], false, []⟩
def Tryd.r_sandbox_step_17 : LReg := ⟨[⟨(some 78), none, .load 1 false (.t 7)⟩,
  ⟨(some 79), none, .call 59 [(.t 78)]⟩], false, []⟩
def Tryd.r_sandbox_step_18 : LReg := ⟨[⟨(some 80), none, .load 1 false (.t 7)⟩,
  ⟨(some 8), none, .mv (.t 80)⟩,
  ⟨(some 9), none, .mv (.c (.int .i64 (0)))⟩], false, []⟩
def Tryd.r_sandbox_step_19 : LReg := ⟨[⟨(some 81), none, .load 1 false (.t 7)⟩,
  ⟨(some 82), none, .call 60 [(.t 81)]⟩,
  ⟨(some 8), none, .mv (.t 82)⟩,
  ⟨(some 9), none, .mv (.c (.int .i64 (0)))⟩], false, []⟩
def Tryd.l_sandbox_step : LCode := (.seq (.reg Tryd.r_sandbox_step_0) (.seq (.reg Tryd.r_sandbox_step_1) (.seq (.reg Tryd.r_sandbox_step_2) (.seq (.seq (.reg Tryd.r_sandbox_step_3) (.cond (.t 37) (.seq (.reg Tryd.r_sandbox_step_4) .ret) .skip)) (.seq (.seq (.reg Tryd.r_sandbox_step_5) (.block 0 (.seq (.reg Tryd.r_sandbox_step_6) (.cond (.t 40) (.seq (.seq (.reg Tryd.r_sandbox_step_7) (.cond (.t 43) (.seq (.reg Tryd.r_sandbox_step_8) .ret) .skip)) (.seq (.reg Tryd.r_sandbox_step_9) .ret)) (.seq (.reg Tryd.r_sandbox_step_10) (.cond (.t 54) (.seq (.seq (.reg Tryd.r_sandbox_step_11) (.cond (.t 56) (.seq (.reg Tryd.r_sandbox_step_12) .ret) .skip)) (.seq (.reg Tryd.r_sandbox_step_13) .ret)) (.seq (.reg Tryd.r_sandbox_step_14) (.cond (.t 67) (.seq (.reg Tryd.r_sandbox_step_15) .ret) (.seq (.reg Tryd.r_sandbox_step_16) (.cond (.t 76) (.seq (.reg Tryd.r_sandbox_step_17) (.seq (.reg Tryd.r_sandbox_step_18) .ret)) .skip)))))))))) (.seq (.reg Tryd.r_sandbox_step_19) .ret))))))
theorem Tryd.c_sandbox_step : fnComp Tryd.prog 42 = some (83, Tryd.l_sandbox_step, [.t 8, .t 9]) := by kernel_rfl

/- 20 changeforge/sandbox.Run -/
def Tryd.r_sandbox_Run_0 : LReg := ⟨[⟨(some 2), none, .box 25 3 (.t 0)⟩,
  ⟨(some 3), none, .box 28 1 (.t 1)⟩,
  ⟨(some 4), none, .mv (.c (.nils))⟩,
  ⟨(some 5), none, .alloc 30 2 [.int .i64 (0), .int .i64 (0)]⟩], false, []⟩
def Tryd.r_sandbox_Run_1 : LReg := ⟨[⟨(some 12), none, .load 3 true (.t 2)⟩,
  ⟨(some 13), none, .load 1 true (.t 3)⟩,
  ⟨(some 14), none, .call 36 [(.t 12), (.t 13)]⟩,
  ⟨(some 6), none, .alloc 30 2 [.int .i64 (0), .int .i64 (0)]⟩,
  ⟨none, none, .store 2 (.t 6) (.t 14)⟩], false, []⟩
def Tryd.r_sandbox_Run_2 : LReg := ⟨[⟨(some 15), none, .load 2 true (.t 6)⟩,
  ⟨(some 16), none, .build [.int .i64 (0), .int .i64 (0)] []⟩,
  ⟨(some 17), none, .eqs true [0, 0] (.t 15) (.t 16)⟩], false, []⟩
def Tryd.r_sandbox_Run_3 : LReg := ⟨[⟨(some 18), none, .load 2 true (.t 6)⟩,
  ⟨(some 4), none, .mv (.c (.nils))⟩,
  ⟨none, none, .store 2 (.t 5) (.t 18)⟩], true, []⟩
def Tryd.r_sandbox_Run_4 : LReg := ⟨[⟨(some 7), none, .mv (.c (.nils))⟩], false, []⟩
def Tryd.r_sandbox_Run_5 : LReg := ⟨[⟨(some 19), none, .fieldAddr 1 (.t 2)⟩,
  ⟨(some 20), none, .load 1 false (.t 19)⟩,
  ⟨(some 21), none, .len (.t 20)⟩,
  ⟨(some 22), none, .mv (.c (.int .i64 (0)))⟩], false, []⟩
def Tryd.r_sandbox_Run_6 : LReg := ⟨[⟨(some 23), none, .bin .lss (.t 22) (.t 21)⟩], false, []⟩
def Tryd.r_sandbox_Run_7 : LReg := ⟨[⟨(some 24), none, .mv (.t 22)⟩,
  ⟨(some 25), none, .idx 2 (.t 20) (.t 22)⟩,
  ⟨(some 26), none, .load 2 true (.t 25)⟩,
  ⟨(some 9), none, .alloc 47 2 [.int .i64 (0), .str []]⟩,
  ⟨(some 8), none, .mv (.t 24)⟩,
  ⟨none, none, .store 2 (.t 9) (.t 26)⟩], false, []⟩
def Tryd.r_sandbox_Run_8 : LReg := ⟨[⟨(some 28), none, .load 3 true (.t 2)⟩,
  ⟨(some 29), none, .load 2 true (.t 9)⟩,
  ⟨(some 30), none, .load 1 true (.t 3)⟩,
  ⟨(some 31), none, .mv (.t 7)⟩,
  ⟨(some 32), none, .call 42 [(.t 28), (.t 29), (.t 30), (.t 31)]⟩,
  ⟨(some 27), none, .mv (.t 32)⟩,
  ⟨(some 33), none, .extract 0 (.t 27)⟩,
  ⟨(some 34), none, .extract 1 (.t 27)⟩,
  ⟨(some 10), none, .mv (.t 33)⟩,
  ⟨(some 11), none, .mv (.t 34)⟩], false, []⟩
def Tryd.r_sandbox_Run_9 : LReg := ⟨[⟨(some 35), none, .mv (.t 11)⟩,
  ⟨(some 36), none, .bin .neq (.t 35) (.c (.int .i64 (0)))⟩], false, []⟩
def Tryd.r_sandbox_Run_10 : LReg := ⟨[⟨(some 37), none, .mv (.t 11)⟩,
  ⟨(some 38), none, .mv (.t 8)⟩,
  ⟨(some 39), none, .bin .sub (.c (.int .i64 (-3))) (.t 38)⟩,
  ⟨(some 40), none, .build [.int .i64 (0), .int .i64 (0)] [(0, 1, (.t 37)), (1, 1, (.t 39))]⟩,
  ⟨(some 4), none, .mv (.c (.nils))⟩,
  ⟨none, none, .store 2 (.t 5) (.t 40)⟩], false, []⟩
def Tryd.r_sandbox_Run_11 : LReg := ⟨[⟨(some 41), none, .mv (.t 10)⟩,
  ⟨(some 7), none, .mv (.t 41)⟩], false, []⟩
def Tryd.r_sandbox_Run_12 : LReg := ⟨[⟨(some 42), none, .bin .add (.t 22) (.c (.int .i64 (1)))⟩,
  ⟨(some 22), none, .mv (.t 42)⟩], false, []⟩
def Tryd.r_sandbox_Run_13 : LReg := ⟨[⟨(some 43), none, .mv (.t 7)⟩,
  ⟨(some 44), none, .build [.int .i64 (0), .int .i64 (0)] []⟩,
  ⟨(some 4), none, .mv (.t 43)⟩,
  ⟨none, none, .store 2 (.t 5) (.t 44)⟩], false, []⟩
def Tryd.l_sandbox_Run : LCode := (.seq (.reg Tryd.r_sandbox_Run_0) (.seq (.seq (.reg Tryd.r_sandbox_Run_1) (.seq (.reg Tryd.r_sandbox_Run_2) (.cond (.t 17) (.seq (.reg Tryd.r_sandbox_Run_3) .ret) .skip))) (.seq (.reg Tryd.r_sandbox_Run_4) (.seq (.seq (.reg Tryd.r_sandbox_Run_5) (.block 0 (.loop (.seq (.reg Tryd.r_sandbox_Run_6) (.seq (.cond (.t 23) .skip (.exit 0)) (.seq (.block 1 (.seq (.reg Tryd.r_sandbox_Run_7) (.seq (.reg Tryd.r_sandbox_Run_8) (.seq (.seq (.reg Tryd.r_sandbox_Run_9) (.cond (.t 36) (.seq (.reg Tryd.r_sandbox_Run_10) .ret) .skip)) (.reg Tryd.r_sandbox_Run_11))))) (.reg Tryd.r_sandbox_Run_12))))))) (.seq (.reg Tryd.r_sandbox_Run_13) .ret)))))
theorem Tryd.c_sandbox_Run : fnComp Tryd.prog 20 = some (45, Tryd.l_sandbox_Run, [.t 4, .cell 5 2 true]) := by kernel_rfl

/- 27 changeforge/changeforgelaw6.action -/
def Tryd.r_law6_action_0 : LReg := ⟨[⟨(some 0), none, .alloc 25 3 [.nils, .nils, .str []]⟩], false, []⟩
def Tryd.r_law6_action_1 : LReg := ⟨[⟨(some 1), none, .mkSlice 9 1 1 [.str []] [(0, (.c (.str [97])))]⟩,
  ⟨(some 2), none, .build [.int .i64 (0), .str []] [(0, 1, (.c (.int .i64 (1)))), (1, 1, (.c (.str [97])))]⟩,
  ⟨(some 3), none, .build [.int .i64 (0), .str []] [(0, 1, (.c (.int .i64 (3)))), (1, 1, (.c (.str [122])))]⟩,
  ⟨(some 4), none, .build [.int .i64 (0), .str []] [(0, 1, (.c (.int .i64 (4))))]⟩,
  ⟨(some 5), none, .mkSlice 47 2 3 [.int .i64 (0), .str []] [(0, (.t 2)), (1, (.t 3)), (2, (.t 4))]⟩,
  ⟨(some 6), none, .build [.nils, .nils, .str []] [(0, 1, (.t 1)), (1, 1, (.t 5)), (2, 1, (.c (.str [98])))]⟩,
  ⟨none, none, .store 3 (.t 0) (.t 6)⟩], false, []⟩
def Tryd.l_law6_action : LCode := (.seq (.reg Tryd.r_law6_action_0) (.seq (.reg Tryd.r_law6_action_1) .ret))
theorem Tryd.c_law6_action : fnComp Tryd.prog 27 = some (7, Tryd.l_law6_action, [.cell 0 3 true]) := by kernel_rfl

/- 28 changeforge/changeforgelaw6.files -/
def Tryd.r_law6_files_0 : LReg := ⟨[⟨(some 0), none, .alloc 28 1 [.nils]⟩], false, []⟩
def Tryd.r_law6_files_1 : LReg := ⟨[⟨(some 1), none, .mkSlice 9 1 2 [.str []] [(0, (.c (.str [120]))), (1, (.c (.str [121])))]⟩,
  ⟨(some 2), none, .build [.str [], .nils] [(0, 1, (.c (.str [97]))), (1, 1, (.t 1))]⟩,
  ⟨(some 3), none, .mkSlice 61 2 1 [.str [], .nils] [(0, (.t 2))]⟩,
  ⟨(some 4), none, .build [.nils] [(0, 1, (.t 3))]⟩,
  ⟨none, none, .store 1 (.t 0) (.t 4)⟩], false, []⟩
def Tryd.l_law6_files : LCode := (.seq (.reg Tryd.r_law6_files_0) (.seq (.reg Tryd.r_law6_files_1) .ret))
theorem Tryd.c_law6_files : fnComp Tryd.prog 28 = some (5, Tryd.l_law6_files, [.cell 0 1 true]) := by kernel_rfl

/- 29 changeforge/changeforgelaw6.fault -/
def Tryd.r_law6_fault_0 : LReg := ⟨[⟨(some 4), none, .alloc 30 2 [.int .i64 (0), .int .i64 (0)]⟩], false, []⟩
def Tryd.r_law6_fault_1 : LReg := ⟨[⟨(some 5), none, .mv (.t 0)⟩,
  ⟨(some 6), none, .mv (.t 1)⟩,
  ⟨(some 7), none, .build [.int .i64 (0), .int .i64 (0)] [(0, 1, (.t 5)), (1, 1, (.t 6))]⟩,
  ⟨none, none, .store 2 (.t 4) (.t 7)⟩], false, []⟩
def Tryd.l_law6_fault : LCode := (.seq (.reg Tryd.r_law6_fault_0) (.seq (.reg Tryd.r_law6_fault_1) .ret))
theorem Tryd.c_law6_fault : fnComp Tryd.prog 29 = some (8, Tryd.l_law6_fault, [.cell 4 2 true]) := by kernel_rfl

/- 10 changeforge/changeforgelaw6.runs -/
def Tryd.r_law6_runs_0 : LReg := ⟨[⟨(some 0), none, .mv (.c (.bool false))⟩], false, []⟩
def Tryd.r_law6_runs_1 : LReg := ⟨[⟨(some 11), none, .call 27 []⟩,
  ⟨(some 12), none, .call 28 []⟩,
  ⟨(some 13), none, .call 20 [(.t 11), (.t 12)]⟩,
  ⟨(some 10), none, .mv (.t 13)⟩,
  ⟨(some 14), none, .extract 0 (.t 10)⟩,
  ⟨(some 15), none, .extract 1 (.t 10)⟩,
  ⟨(some 2), none, .alloc 30 2 [.int .i64 (0), .int .i64 (0)]⟩,
  ⟨(some 1), none, .mv (.t 14)⟩,
  ⟨none, none, .store 2 (.t 2) (.t 15)⟩], false, []⟩
def Tryd.r_law6_runs_2 : LReg := ⟨[⟨(some 17), none, .call 27 []⟩,
  ⟨(some 18), none, .call 12 [(.t 17)]⟩,
  ⟨(some 16), none, .mv (.t 18)⟩,
  ⟨(some 19), none, .extract 0 (.t 16)⟩,
  ⟨(some 20), none, .extract 1 (.t 16)⟩,
  ⟨(some 4), none, .alloc 30 2 [.int .i64 (0), .int .i64 (0)]⟩,
  ⟨(some 3), none, .mv (.t 19)⟩,
  ⟨none, none, .store 2 (.t 4) (.t 20)⟩], false, []⟩
def Tryd.r_law6_runs_3 : LReg := ⟨[⟨(some 22), none, .call 27 []⟩,
  ⟨(some 23), none, .call 28 []⟩,
  ⟨(some 24), none, .call 16 [(.t 22), (.t 23)]⟩,
  ⟨(some 21), none, .mv (.t 24)⟩,
  ⟨(some 25), none, .extract 0 (.t 21)⟩,
  ⟨(some 26), none, .extract 1 (.t 21)⟩,
  ⟨(some 5), none, .alloc 28 1 [.nils]⟩,
  ⟨(some 6), none, .alloc 30 2 [.int .i64 (0), .int .i64 (0)]⟩,
  ⟨none, none, .store 1 (.t 5) (.t 25)⟩,
  ⟨none, none, .store 2 (.t 6) (.t 26)⟩], false, []⟩
def Tryd.r_law6_runs_4 : LReg := ⟨[⟨(some 27), none, .call 27 []⟩,
  ⟨(some 7), none, .alloc 25 3 [.nils, .nils, .str []]⟩,
  ⟨none, none, .store 3 (.t 7) (.t 27)⟩], false, []⟩
def Tryd.r_law6_runs_5 : LReg := ⟨[⟨(some 28), none, .fieldAddr 0 (.t 7)⟩,
  ⟨none, none, .store 1 (.t 28) (.c (.nils))⟩], false, []⟩
def Tryd.r_law6_runs_6 : LReg := ⟨[⟨(some 30), none, .load 3 true (.t 7)⟩,
  ⟨(some 31), none, .call 28 []⟩,
  ⟨(some 32), none, .call 20 [(.t 30), (.t 31)]⟩,
  ⟨(some 29), none, .mv (.t 32)⟩,
  ⟨(some 33), none, .extract 0 (.t 29)⟩,
  ⟨(some 34), none, .extract 1 (.t 29)⟩,
  ⟨(some 9), none, .alloc 30 2 [.int .i64 (0), .int .i64 (0)]⟩,
  ⟨(some 8), none, .mv (.t 33)⟩,
  ⟨none, none, .store 2 (.t 9) (.t 34)⟩], true, [(0, 1), (0, 6), (1, 6), (2, 6)]⟩
def Tryd.r_law6_runs_7 : LReg := ⟨[⟨(some 35), none, .fieldAddr 0 (.t 2)⟩,
  ⟨(some 36), none, .load 1 false (.t 35)⟩,
  ⟨(some 37), none, .bin .eql (.t 36) (.c (.int .i64 (0)))⟩,
  ⟨(some 38), none, .mv (.t 37)⟩,
  ⟨(some 39), (some (38, true)), .fieldAddr 0 (.t 4)⟩,
  ⟨(some 40), (some (38, true)), .load 1 false (.t 39)⟩,
  ⟨(some 41), (some (38, true)), .bin .eql (.t 40) (.c (.int .i64 (0)))⟩,
  ⟨(some 42), none, .pick (.t 38) (.t 41) (.c (.bool false))⟩,
  ⟨(some 43), none, .mv (.t 42)⟩,
  ⟨(some 44), (some (43, true)), .fieldAddr 0 (.t 6)⟩,
  ⟨(some 45), (some (43, true)), .load 1 false (.t 44)⟩,
  ⟨(some 46), (some (43, true)), .bin .eql (.t 45) (.c (.int .i64 (0)))⟩,
  ⟨(some 47), none, .pick (.t 43) (.t 46) (.c (.bool false))⟩,
  ⟨(some 48), none, .mv (.t 47)⟩,
  ⟨(some 49), (some (48, true)), .load 2 true (.t 9)⟩,
  ⟨(some 50), (some (48, true)), .call 29 [(.c (.int .i64 (13))), (.c (.int .i64 (-3)))]⟩,
  ⟨(some 51), (some (48, true)), .eqs false [0, 0] (.t 49) (.t 50)⟩,
  ⟨(some 52), none, .pick (.t 48) (.t 51) (.c (.bool false))⟩,
  ⟨(some 53), none, .mv (.t 52)⟩,
  ⟨(some 54), (some (53, true)), .mv (.t 1)⟩,
  ⟨(some 55), (some (53, true)), .mkSlice 9 1 3 [.str []] [(0, (.c (.str [122]))), (1, (.c (.str [121]))), (2, (.c (.str [120])))]⟩,
  ⟨(some 56), (some (53, true)), .call 13 [(.t 54), (.t 55)]⟩,
  ⟨(some 57), none, .pick (.t 53) (.t 56) (.c (.bool false))⟩,
  ⟨(some 58), none, .mv (.t 57)⟩,
  ⟨(some 59), (some (58, true)), .mv (.t 3)⟩,
  ⟨(some 60), (some (58, true)), .mkSlice 9 1 1 [.str []] [(0, (.c (.str [97])))]⟩,
  ⟨(some 61), (some (58, true)), .call 13 [(.t 59), (.t 60)]⟩,
  ⟨(some 62), none, .pick (.t 58) (.t 61) (.c (.bool false))⟩,
  ⟨(some 63), none, .mv (.t 62)⟩,
  ⟨(some 64), (some (63, true)), .load 1 true (.t 5)⟩,
  ⟨(some 65), (some (63, true)), .call 28 []⟩,
  ⟨(some 66), (some (63, true)), .call 17 [(.t 64), (.t 65)]⟩,
  ⟨(some 67), none, .pick (.t 63) (.t 66) (.c (.bool false))⟩,
  ⟨(some 68), none, .mv (.t 67)⟩,
  ⟨(some 69), (some (68, true)), .build [.nils, .nils, .str []] []⟩,
  ⟨(some 70), (some (68, true)), .call 11 [(.t 69)]⟩,
  ⟨(some 71), (some (68, true)), .call 29 [(.c (.int .i64 (12))), (.c (.int .i64 (-2)))]⟩,
  ⟨(some 72), (some (68, true)), .eqs false [0, 0] (.t 70) (.t 71)⟩,
  ⟨(some 73), none, .pick (.t 68) (.t 72) (.c (.bool false))⟩,
  ⟨(some 0), none, .mv (.t 73)⟩], true, [(14, 15), (29, 30)]⟩
def Tryd.l_law6_runs : LCode := (.seq (.reg Tryd.r_law6_runs_0) (.seq (.reg Tryd.r_law6_runs_1) (.seq (.reg Tryd.r_law6_runs_2) (.seq (.reg Tryd.r_law6_runs_3) (.seq (.reg Tryd.r_law6_runs_4) (.seq (.reg Tryd.r_law6_runs_5) (.seq (.reg Tryd.r_law6_runs_6) (.seq (.reg Tryd.r_law6_runs_7) .ret))))))))
theorem Tryd.c_law6_runs : fnComp Tryd.prog 10 = some (74, Tryd.l_law6_runs, [.t 0]) := by kernel_rfl

/- 21 changeforge/changeforgeref6.HasString -/
def Tryd.r_ref6_HasString_0 : LReg := ⟨[⟨(some 4), none, .mv (.c (.bool false))⟩], false, []⟩
def Tryd.r_ref6_HasString_1 : LReg := ⟨[⟨(some 5), none, .mv (.c (.int .i64 (0)))⟩], false, []⟩
def Tryd.r_ref6_HasString_2 : LReg := ⟨[⟨(some 6), none, .mv (.t 5)⟩,
  ⟨(some 7), none, .mv (.t 0)⟩,
  ⟨(some 8), none, .len (.t 7)⟩,
  ⟨(some 9), none, .bin .lss (.t 6) (.t 8)⟩], false, []⟩
def Tryd.r_ref6_HasString_3 : LReg := ⟨[⟨(some 12), none, .mv (.t 0)⟩,
  ⟨(some 13), none, .mv (.t 5)⟩,
  ⟨(some 14), none, .idx 1 (.t 12) (.t 13)⟩,
  ⟨(some 15), none, .load 1 false (.t 14)⟩,
  ⟨(some 16), none, .mv (.t 1)⟩,
  ⟨(some 17), none, .bin .eql (.t 15) (.t 16)⟩], false, []⟩
def Tryd.r_ref6_HasString_4 : LReg := ⟨[⟨(some 4), none, .mv (.c (.bool true))⟩], false, []⟩
def Tryd.r_ref6_HasString_5 : LReg := ⟨[⟨(some 10), none, .mv (.t 5)⟩,
  ⟨(some 11), none, .bin .add (.t 10) (.c (.int .i64 (1)))⟩,
  ⟨(some 5), none, .mv (.t 11)⟩], false, []⟩
def Tryd.r_ref6_HasString_6 : LReg := ⟨[⟨(some 4), none, .mv (.c (.bool false))⟩], false, []⟩
def Tryd.l_ref6_HasString : LCode := (.seq (.reg Tryd.r_ref6_HasString_0) (.seq (.seq (.reg Tryd.r_ref6_HasString_1) (.block 0 (.loop (.seq (.seq (.reg Tryd.r_ref6_HasString_2) (.cond (.t 9) .skip (.exit 0))) (.seq (.block 1 (.seq (.reg Tryd.r_ref6_HasString_3) (.cond (.t 17) (.seq (.reg Tryd.r_ref6_HasString_4) .ret) .skip))) (.reg Tryd.r_ref6_HasString_5)))))) (.seq (.reg Tryd.r_ref6_HasString_6) .ret)))
theorem Tryd.c_ref6_HasString : fnComp Tryd.prog 21 = some (18, Tryd.l_ref6_HasString, [.t 4]) := by kernel_rfl

/- 22 changeforge/changeforgelaw6.with -/
def Tryd.r_law6_with_0 : LReg := ⟨[⟨(some 2), none, .box 25 3 (.t 0)⟩,
  ⟨(some 4), none, .alloc 25 3 [.nils, .nils, .str []]⟩], false, []⟩
def Tryd.r_law6_with_1 : LReg := ⟨[⟨(some 5), none, .mv (.c (.nils))⟩], false, []⟩
def Tryd.r_law6_with_2 : LReg := ⟨[⟨(some 6), none, .mv (.t 5)⟩,
  ⟨(some 7), none, .fieldAddr 1 (.t 2)⟩,
  ⟨(some 8), none, .load 1 false (.t 7)⟩,
  ⟨(some 9), none, .append 47 2 24 (.t 6) (.t 8)⟩,
  ⟨(some 5), none, .mv (.t 9)⟩], false, []⟩
def Tryd.r_law6_with_3 : LReg := ⟨[⟨(some 10), none, .mv (.t 5)⟩,
  ⟨(some 11), none, .mv (.t 1)⟩,
  ⟨(some 12), none, .append 47 2 24 (.t 10) (.t 11)⟩,
  ⟨(some 13), none, .fieldAddr 1 (.t 2)⟩,
  ⟨none, none, .store 1 (.t 13) (.t 12)⟩], false, []⟩
def Tryd.r_law6_with_4 : LReg := ⟨[⟨(some 14), none, .load 3 true (.t 2)⟩,
  ⟨none, none, .store 3 (.t 4) (.t 14)⟩], false, []⟩
def Tryd.l_law6_with : LCode := (.seq (.reg Tryd.r_law6_with_0) (.seq (.reg Tryd.r_law6_with_1) (.seq (.reg Tryd.r_law6_with_2) (.seq (.reg Tryd.r_law6_with_3) (.seq (.reg Tryd.r_law6_with_4) .ret)))))
theorem Tryd.c_law6_with : fnComp Tryd.prog 22 = some (15, Tryd.l_law6_with, [.cell 4 3 true]) := by kernel_rfl

/- 7 changeforge/changeforgelaw6.SandboxFinalOperations -/
def Tryd.r_law6_SandboxFinalOperations_0 : LReg := ⟨[⟨(some 2), none, .box 25 3 (.t 0)⟩,
  ⟨(some 3), none, .box 28 1 (.t 1)⟩,
  ⟨(some 4), none, .mv (.c (.bool false))⟩], false, []⟩
def Tryd.r_law6_SandboxFinalOperations_1 : LReg := ⟨[⟨(some 14), none, .call 10 []⟩,
  ⟨(some 15), none, .un .not (.t 14)⟩], false, []⟩
def Tryd.r_law6_SandboxFinalOperations_2 : LReg := ⟨[⟨(some 4), none, .mv (.c (.bool false))⟩], false, []⟩
def Tryd.r_law6_SandboxFinalOperations_3 : LReg := ⟨[⟨(some 16), none, .fieldAddr 1 (.t 2)⟩,
  ⟨(some 17), none, .load 1 false (.t 16)⟩,
  ⟨(some 18), none, .len (.t 17)⟩,
  ⟨(some 19), none, .bin .gtr (.t 18) (.c (.int .i64 (14)))⟩], false, []⟩
def Tryd.r_law6_SandboxFinalOperations_4 : LReg := ⟨[⟨(some 4), none, .mv (.c (.bool true))⟩], false, []⟩
def Tryd.r_law6_SandboxFinalOperations_5 : LReg := ⟨[⟨(some 21), none, .load 3 true (.t 2)⟩,
  ⟨(some 22), none, .load 1 true (.t 3)⟩,
  ⟨(some 23), none, .call 20 [(.t 21), (.t 22)]⟩,
  ⟨(some 20), none, .mv (.t 23)⟩,
  ⟨(some 24), none, .extract 0 (.t 20)⟩,
  ⟨(some 25), none, .extract 1 (.t 20)⟩,
  ⟨(some 6), none, .alloc 30 2 [.int .i64 (0), .int .i64 (0)]⟩,
  ⟨(some 5), none, .mv (.t 24)⟩,
  ⟨none, none, .store 2 (.t 6) (.t 25)⟩], false, []⟩
def Tryd.r_law6_SandboxFinalOperations_6 : LReg := ⟨[⟨(some 27), none, .load 3 true (.t 2)⟩,
  ⟨(some 28), none, .build [.int .i64 (0), .str []] [(0, 1, (.c (.int .i64 (4))))]⟩,
  ⟨(some 29), none, .build [.int .i64 (0), .str []] [(0, 1, (.c (.int .i64 (4))))]⟩,
  ⟨(some 30), none, .mkSlice 47 2 2 [.int .i64 (0), .str []] [(0, (.t 28)), (1, (.t 29))]⟩,
  ⟨(some 31), none, .call 22 [(.t 27), (.t 30)]⟩,
  ⟨(some 32), none, .load 1 true (.t 3)⟩,
  ⟨(some 33), none, .call 20 [(.t 31), (.t 32)]⟩,
  ⟨(some 26), none, .mv (.t 33)⟩,
  ⟨(some 34), none, .extract 0 (.t 26)⟩,
  ⟨(some 35), none, .extract 1 (.t 26)⟩,
  ⟨(some 8), none, .alloc 30 2 [.int .i64 (0), .int .i64 (0)]⟩,
  ⟨(some 7), none, .mv (.t 34)⟩,
  ⟨none, none, .store 2 (.t 8) (.t 35)⟩], true, [(0, 3), (0, 5), (3, 5), (4, 5), (0, 10), (3, 10), (4, 10), (5, 10), (6, 10)]⟩
def Tryd.r_law6_SandboxFinalOperations_7 : LReg := ⟨[⟨(some 37), none, .load 3 true (.t 2)⟩,
  ⟨(some 38), none, .build [.int .i64 (0), .str []] [(0, 1, (.c (.int .i64 (5))))]⟩,
  ⟨(some 39), none, .mkSlice 47 2 1 [.int .i64 (0), .str []] [(0, (.t 38))]⟩,
  ⟨(some 40), none, .call 22 [(.t 37), (.t 39)]⟩,
  ⟨(some 41), none, .load 1 true (.t 3)⟩,
  ⟨(some 42), none, .call 20 [(.t 40), (.t 41)]⟩,
  ⟨(some 36), none, .mv (.t 42)⟩,
  ⟨(some 43), none, .extract 0 (.t 36)⟩,
  ⟨(some 44), none, .extract 1 (.t 36)⟩,
  ⟨(some 10), none, .alloc 30 2 [.int .i64 (0), .int .i64 (0)]⟩,
  ⟨(some 9), none, .mv (.t 43)⟩,
  ⟨none, none, .store 2 (.t 10) (.t 44)⟩], true, [(0, 2), (0, 4), (2, 4), (3, 4), (0, 9), (2, 9), (3, 9), (4, 9), (5, 9)]⟩
def Tryd.r_law6_SandboxFinalOperations_8 : LReg := ⟨[⟨(some 46), none, .load 3 true (.t 2)⟩,
  ⟨(some 47), none, .build [.int .i64 (0), .str []] [(0, 1, (.c (.int .i64 (5))))]⟩,
  ⟨(some 48), none, .build [.int .i64 (0), .str []] [(0, 1, (.c (.int .i64 (5))))]⟩,
  ⟨(some 49), none, .mkSlice 47 2 2 [.int .i64 (0), .str []] [(0, (.t 47)), (1, (.t 48))]⟩,
  ⟨(some 50), none, .call 22 [(.t 46), (.t 49)]⟩,
  ⟨(some 51), none, .load 1 true (.t 3)⟩,
  ⟨(some 52), none, .call 20 [(.t 50), (.t 51)]⟩,
  ⟨(some 45), none, .mv (.t 52)⟩,
  ⟨(some 53), none, .extract 0 (.t 45)⟩,
  ⟨(some 54), none, .extract 1 (.t 45)⟩,
  ⟨(some 12), none, .alloc 30 2 [.int .i64 (0), .int .i64 (0)]⟩,
  ⟨(some 11), none, .mv (.t 53)⟩,
  ⟨none, none, .store 2 (.t 12) (.t 54)⟩], true, [(0, 3), (0, 5), (3, 5), (4, 5), (0, 10), (3, 10), (4, 10), (5, 10), (6, 10)]⟩
def Tryd.r_law6_SandboxFinalOperations_9 : LReg := ⟨[⟨(some 55), none, .fieldAddr 0 (.t 6)⟩,
  ⟨(some 56), none, .load 1 false (.t 55)⟩,
  ⟨(some 57), none, .bin .neq (.t 56) (.c (.int .i64 (0)))⟩], false, []⟩
def Tryd.r_law6_SandboxFinalOperations_10 : LReg := ⟨[⟨(some 58), none, .load 2 true (.t 8)⟩,
  ⟨(some 59), none, .load 2 true (.t 6)⟩,
  ⟨(some 60), none, .eqs false [0, 0] (.t 58) (.t 59)⟩,
  ⟨(some 61), none, .mv (.t 60)⟩,
  ⟨(some 62), (some (61, true)), .load 2 true (.t 10)⟩,
  ⟨(some 63), (some (61, true)), .load 2 true (.t 6)⟩,
  ⟨(some 64), (some (61, true)), .eqs false [0, 0] (.t 62) (.t 63)⟩,
  ⟨(some 65), none, .pick (.t 61) (.t 64) (.c (.bool false))⟩,
  ⟨(some 66), none, .mv (.t 65)⟩,
  ⟨(some 67), (some (66, true)), .load 2 true (.t 12)⟩,
  ⟨(some 68), (some (66, true)), .load 2 true (.t 6)⟩,
  ⟨(some 69), (some (66, true)), .eqs false [0, 0] (.t 67) (.t 68)⟩,
  ⟨(some 70), none, .pick (.t 66) (.t 69) (.c (.bool false))⟩,
  ⟨(some 71), none, .mv (.t 70)⟩,
  ⟨(some 72), (some (71, true)), .mv (.t 5)⟩,
  ⟨(some 73), (some (71, true)), .len (.t 72)⟩,
  ⟨(some 74), (some (71, true)), .bin .eql (.t 73) (.c (.int .i64 (0)))⟩,
  ⟨(some 75), none, .pick (.t 71) (.t 74) (.c (.bool false))⟩,
  ⟨(some 4), none, .mv (.t 75)⟩], false, []⟩
def Tryd.r_law6_SandboxFinalOperations_11 : LReg := ⟨[⟨(some 76), none, .fieldAddr 0 (.t 8)⟩,
  ⟨(some 77), none, .load 1 false (.t 76)⟩,
  ⟨(some 78), none, .bin .neq (.t 77) (.c (.int .i64 (0)))⟩,
  ⟨(some 79), none, .mv (.t 78)⟩,
  ⟨(some 80), (some (79, false)), .fieldAddr 0 (.t 10)⟩,
  ⟨(some 81), (some (79, false)), .load 1 false (.t 80)⟩,
  ⟨(some 82), (some (79, false)), .bin .neq (.t 81) (.c (.int .i64 (0)))⟩,
  ⟨(some 83), none, .pick (.t 79) (.c (.bool true)) (.t 82)⟩,
  ⟨(some 84), none, .mv (.t 83)⟩,
  ⟨(some 85), (some (84, false)), .fieldAddr 0 (.t 12)⟩,
  ⟨(some 86), (some (84, false)), .load 1 false (.t 85)⟩,
  ⟨(some 87), (some (84, false)), .bin .neq (.t 86) (.c (.int .i64 (0)))⟩,
  ⟨(some 88), none, .pick (.t 84) (.c (.bool true)) (.t 87)⟩,
  ⟨(some 89), none, .mv (.t 88)⟩,
  ⟨(some 90), (some (89, false)), .mv (.t 5)⟩,
  ⟨(some 91), (some (89, false)), .mv (.t 7)⟩,
  ⟨(some 92), (some (89, false)), .call 13 [(.t 90), (.t 91)]⟩,
  ⟨(some 93), (some (89, false)), .un .not (.t 92)⟩,
  ⟨(some 94), none, .pick (.t 89) (.c (.bool true)) (.t 93)⟩,
  ⟨(some 95), none, .mv (.t 94)⟩,
  ⟨(some 96), (some (95, false)), .mv (.t 9)⟩,
  ⟨(some 97), (some (95, false)), .mv (.t 11)⟩,
  ⟨(some 98), (some (95, false)), .call 13 [(.t 96), (.t 97)]⟩,
  ⟨(some 99), (some (95, false)), .un .not (.t 98)⟩,
  ⟨(some 100), none, .pick (.t 95) (.c (.bool true)) (.t 99)⟩], false, []⟩
def Tryd.r_law6_SandboxFinalOperations_12 : LReg := ⟨[⟨(some 4), none, .mv (.c (.bool false))⟩], false, []⟩
def Tryd.r_law6_SandboxFinalOperations_13 : LReg := ⟨[⟨(some 13), none, .mv (.c (.int .i64 (0)))⟩], false, []⟩
def Tryd.r_law6_SandboxFinalOperations_14 : LReg := ⟨[⟨(some 101), none, .mv (.t 13)⟩,
  ⟨(some 102), none, .mv (.t 5)⟩,
  ⟨(some 103), none, .len (.t 102)⟩,
  ⟨(some 104), none, .bin .lss (.t 101) (.t 103)⟩], false, []⟩
def Tryd.r_law6_SandboxFinalOperations_15 : LReg := ⟨[⟨(some 107), none, .mv (.t 9)⟩,
  ⟨(some 108), none, .mv (.t 5)⟩,
  ⟨(some 109), none, .mv (.t 13)⟩,
  ⟨(some 110), none, .idx 1 (.t 108) (.t 109)⟩,
  ⟨(some 111), none, .load 1 false (.t 110)⟩,
  ⟨(some 112), none, .call 21 [(.t 107), (.t 111)]⟩,
  ⟨(some 113), none, .un .not (.t 112)⟩,
  ⟨(some 114), none, .mv (.t 113)⟩,
  ⟨(some 115), (some (114, false)), .mv (.t 13)⟩,
  ⟨(some 116), (some (114, false)), .mv (.t 9)⟩,
  ⟨(some 117), (some (114, false)), .len (.t 116)⟩,
  ⟨(some 118), (some (114, false)), .bin .lss (.t 115) (.t 117)⟩,
  ⟨(some 119), (some (114, false)), .mv (.t 118)⟩,
  ⟨(some 120), (some (119, true)), .mv (.t 9)⟩,
  ⟨(some 121), (some (119, true)), .mv (.t 13)⟩,
  ⟨(some 122), (some (119, true)), .slice 1 (.t 120) none (some (.t 121))⟩,
  ⟨(some 123), (some (119, true)), .mv (.t 9)⟩,
  ⟨(some 124), (some (119, true)), .mv (.t 13)⟩,
  ⟨(some 125), (some (119, true)), .idx 1 (.t 123) (.t 124)⟩,
  ⟨(some 126), (some (119, true)), .load 1 false (.t 125)⟩,
  ⟨(some 127), (some (119, true)), .call 21 [(.t 122), (.t 126)]⟩,
  ⟨(some 128), (some (114, false)), .pick (.t 119) (.t 127) (.c (.bool false))⟩,
  ⟨(some 129), none, .pick (.t 114) (.c (.bool true)) (.t 128)⟩], true, [(15, 18), (15, 19)]⟩
def Tryd.r_law6_SandboxFinalOperations_16 : LReg := ⟨[⟨(some 4), none, .mv (.c (.bool false))⟩], false, []⟩
def Tryd.r_law6_SandboxFinalOperations_17 : LReg := ⟨[⟨(some 105), none, .mv (.t 13)⟩,
  ⟨(some 106), none, .bin .add (.t 105) (.c (.int .i64 (1)))⟩,
  ⟨(some 13), none, .mv (.t 106)⟩], false, []⟩
def Tryd.r_law6_SandboxFinalOperations_18 : LReg := ⟨[⟨(some 130), none, .mv (.t 9)⟩,
  ⟨(some 131), none, .len (.t 130)⟩,
  ⟨(some 132), none, .mv (.t 5)⟩,
  ⟨(some 133), none, .len (.t 132)⟩,
  ⟨(some 134), none, .bin .leq (.t 131) (.t 133)⟩,
  ⟨(some 4), none, .mv (.t 134)⟩], false, []⟩
def Tryd.l_law6_SandboxFinalOperations : LCode := (.seq (.reg Tryd.r_law6_SandboxFinalOperations_0) (.seq (.seq (.reg Tryd.r_law6_SandboxFinalOperations_1) (.cond (.t 15) (.seq (.reg Tryd.r_law6_SandboxFinalOperations_2) .ret) .skip)) (.seq (.seq (.reg Tryd.r_law6_SandboxFinalOperations_3) (.cond (.t 19) (.seq (.reg Tryd.r_law6_SandboxFinalOperations_4) .ret) .skip)) (.seq (.reg Tryd.r_law6_SandboxFinalOperations_5) (.seq (.reg Tryd.r_law6_SandboxFinalOperations_6) (.seq (.reg Tryd.r_law6_SandboxFinalOperations_7) (.seq (.reg Tryd.r_law6_SandboxFinalOperations_8) (.seq (.seq (.reg Tryd.r_law6_SandboxFinalOperations_9) (.cond (.t 57) (.seq (.reg Tryd.r_law6_SandboxFinalOperations_10) .ret) .skip)) (.seq (.seq (.reg Tryd.r_law6_SandboxFinalOperations_11) (.cond (.t 100) (.seq (.reg Tryd.r_law6_SandboxFinalOperations_12) .ret) .skip)) (.seq (.seq (.reg Tryd.r_law6_SandboxFinalOperations_13) (.block 0 (.loop (.seq (.seq (.reg Tryd.r_law6_SandboxFinalOperations_14) (.cond (.t 104) .skip (.exit 0))) (.seq (.block 1 (.seq (.reg Tryd.r_law6_SandboxFinalOperations_15) (.cond (.t 129) (.seq (.reg Tryd.r_law6_SandboxFinalOperations_16) .ret) .skip))) (.reg Tryd.r_law6_SandboxFinalOperations_17)))))) (.seq (.reg Tryd.r_law6_SandboxFinalOperations_18) .ret)))))))))))
theorem Tryd.c_law6_SandboxFinalOperations : fnComp Tryd.prog 7 = some (135, Tryd.l_law6_SandboxFinalOperations, [.t 4]) := by kernel_rfl
end Go.Proofs.YtadeoaglhaaimaaDoor
