/- The code of the functions, as the evaluator reads it. Laid by a program (wip/gen/dec.py). -/
import Derived.Test.YtpbfobgbpdbiaaaProg
import Derived.Test.YtpbfobgbpdbiaaaPwFam
import Derived.KernelRfl
namespace Go.Proofs.Ytpbfobgbpdbiaaa
open Go.PW Go
theorem hm : Try.prog.follows .mixedOrders = true := by kernel_rfl
/- 28 changeforge/changeforgeref6.fault -/
def Try.r_ref6_fault_0 : LReg := ⟨[⟨(some 4), none, .alloc 25 2 [.int .i64 (0), .int .i64 (0)]⟩], false, []⟩
def Try.r_ref6_fault_1 : LReg := ⟨[⟨(some 5), none, .mv (.t 0)⟩,
  ⟨(some 6), none, .mv (.t 1)⟩,
  ⟨(some 7), none, .build [.int .i64 (0), .int .i64 (0)] [(0, 1, (.t 5)), (1, 1, (.t 6))]⟩,
  ⟨none, none, .store 2 (.t 4) (.t 7)⟩], false, []⟩
def Try.l_ref6_fault : LCode := (.seq (.reg Try.r_ref6_fault_0) (.seq (.reg Try.r_ref6_fault_1) .ret))
theorem Try.c_ref6_fault : fnComp Try.prog 28 = some (8, Try.l_ref6_fault, [.cell 4 2 true]) := by kernel_rfl

/- 37 changeforge/changeforgeref6.in -/
def Try.r_ref6_in_0 : LReg := ⟨[⟨(some 6), none, .mv (.c (.bool false))⟩], false, []⟩
def Try.r_ref6_in_1 : LReg := ⟨[⟨(some 7), none, .mv (.t 0)⟩,
  ⟨(some 8), none, .mv (.t 1)⟩,
  ⟨(some 9), none, .bin .geq (.t 7) (.t 8)⟩,
  ⟨(some 10), none, .mv (.t 9)⟩,
  ⟨(some 11), (some (10, true)), .mv (.t 0)⟩,
  ⟨(some 12), (some (10, true)), .mv (.t 2)⟩,
  ⟨(some 13), (some (10, true)), .bin .leq (.t 11) (.t 12)⟩,
  ⟨(some 14), none, .pick (.t 10) (.t 13) (.c (.bool false))⟩,
  ⟨(some 6), none, .mv (.t 14)⟩], false, []⟩
def Try.l_ref6_in : LCode := (.seq (.reg Try.r_ref6_in_0) (.seq (.reg Try.r_ref6_in_1) .ret))
theorem Try.c_ref6_in : fnComp Try.prog 37 = some (15, Try.l_ref6_in, [.t 6]) := by kernel_rfl

/- 29 changeforge/changeforgeref6.nodesCode -/
def Try.r_ref6_nodesCode_0 : LReg := ⟨[⟨(some 4), none, .mv (.c (.int .i64 (0)))⟩], false, []⟩
def Try.r_ref6_nodesCode_1 : LReg := ⟨[⟨(some 5), none, .mv (.c (.int .i64 (0)))⟩], false, []⟩
def Try.r_ref6_nodesCode_2 : LReg := ⟨[⟨(some 6), none, .mv (.t 5)⟩,
  ⟨(some 7), none, .mv (.t 1)⟩,
  ⟨(some 8), none, .len (.t 7)⟩,
  ⟨(some 9), none, .bin .lss (.t 6) (.t 8)⟩], false, []⟩
def Try.r_ref6_nodesCode_3 : LReg := ⟨[⟨(some 12), none, .mv (.t 1)⟩,
  ⟨(some 13), none, .mv (.t 5)⟩,
  ⟨(some 14), none, .idx 1 (.t 12) (.t 13)⟩,
  ⟨(some 15), none, .load 1 false (.t 14)⟩,
  ⟨(some 16), none, .mv (.t 0)⟩,
  ⟨(some 17), none, .bin .sub (.t 16) (.c (.int .i64 (1)))⟩,
  ⟨(some 18), none, .call 37 [(.t 15), (.c (.int .i64 (0))), (.t 17)]⟩,
  ⟨(some 19), none, .un .not (.t 18)⟩], false, []⟩
def Try.r_ref6_nodesCode_4 : LReg := ⟨[⟨(some 4), none, .mv (.c (.int .i64 (3)))⟩], false, []⟩
def Try.r_ref6_nodesCode_5 : LReg := ⟨[⟨(some 20), none, .mv (.t 5)⟩,
  ⟨(some 21), none, .bin .gtr (.t 20) (.c (.int .i64 (0)))⟩,
  ⟨(some 22), none, .mv (.t 21)⟩,
  ⟨(some 23), (some (22, true)), .mv (.t 1)⟩,
  ⟨(some 24), (some (22, true)), .mv (.t 5)⟩,
  ⟨(some 25), (some (22, true)), .idx 1 (.t 23) (.t 24)⟩,
  ⟨(some 26), (some (22, true)), .load 1 false (.t 25)⟩,
  ⟨(some 27), (some (22, true)), .mv (.t 1)⟩,
  ⟨(some 28), (some (22, true)), .mv (.t 5)⟩,
  ⟨(some 29), (some (22, true)), .bin .sub (.t 28) (.c (.int .i64 (1)))⟩,
  ⟨(some 30), (some (22, true)), .idx 1 (.t 27) (.t 29)⟩,
  ⟨(some 31), (some (22, true)), .load 1 false (.t 30)⟩,
  ⟨(some 32), (some (22, true)), .bin .leq (.t 26) (.t 31)⟩,
  ⟨(some 33), none, .pick (.t 22) (.t 32) (.c (.bool false))⟩], true, [(5, 10), (6, 10), (5, 11), (6, 11)]⟩
def Try.r_ref6_nodesCode_6 : LReg := ⟨[⟨(some 4), none, .mv (.c (.int .i64 (5)))⟩], false, []⟩
def Try.r_ref6_nodesCode_7 : LReg := ⟨[⟨(some 10), none, .mv (.t 5)⟩,
  ⟨(some 11), none, .bin .add (.t 10) (.c (.int .i64 (1)))⟩,
  ⟨(some 5), none, .mv (.t 11)⟩], false, []⟩
def Try.r_ref6_nodesCode_8 : LReg := ⟨[⟨(some 4), none, .mv (.c (.int .i64 (0)))⟩], false, []⟩
def Try.l_ref6_nodesCode : LCode := (.seq (.reg Try.r_ref6_nodesCode_0) (.seq (.seq (.reg Try.r_ref6_nodesCode_1) (.block 0 (.loop (.seq (.seq (.reg Try.r_ref6_nodesCode_2) (.cond (.t 9) .skip (.exit 0))) (.seq (.block 1 (.seq (.seq (.reg Try.r_ref6_nodesCode_3) (.cond (.t 19) (.seq (.reg Try.r_ref6_nodesCode_4) .ret) .skip)) (.seq (.reg Try.r_ref6_nodesCode_5) (.cond (.t 33) (.seq (.reg Try.r_ref6_nodesCode_6) .ret) .skip)))) (.reg Try.r_ref6_nodesCode_7)))))) (.seq (.reg Try.r_ref6_nodesCode_8) .ret)))
theorem Try.c_ref6_nodesCode : fnComp Try.prog 29 = some (34, Try.l_ref6_nodesCode, [.t 4]) := by kernel_rfl

/- 9 changeforge/changeforgeref6.GraphFault -/
def Try.r_ref6_GraphFault_0 : LReg := ⟨[⟨(some 2), none, .alloc 25 2 [.int .i64 (0), .int .i64 (0)]⟩], false, []⟩
def Try.r_ref6_GraphFault_1 : LReg := ⟨[⟨(some 5), none, .mv (.t 0)⟩,
  ⟨(some 6), none, .len (.t 5)⟩,
  ⟨(some 7), none, .bin .gtr (.t 6) (.c (.int .i64 (24)))⟩], false, []⟩
def Try.r_ref6_GraphFault_2 : LReg := ⟨[⟨(some 8), none, .call 28 [(.c (.int .i64 (2))), (.c (.int .i64 (-1)))]⟩,
  ⟨none, none, .store 2 (.t 2) (.t 8)⟩], false, []⟩
def Try.r_ref6_GraphFault_3 : LReg := ⟨[⟨(some 3), none, .mv (.c (.int .i64 (0)))⟩], false, []⟩
def Try.r_ref6_GraphFault_4 : LReg := ⟨[⟨(some 9), none, .mv (.t 3)⟩,
  ⟨(some 10), none, .mv (.t 0)⟩,
  ⟨(some 11), none, .len (.t 10)⟩,
  ⟨(some 12), none, .bin .lss (.t 9) (.t 11)⟩], false, []⟩
def Try.r_ref6_GraphFault_5 : LReg := ⟨[⟨(some 15), none, .mv (.t 0)⟩,
  ⟨(some 16), none, .len (.t 15)⟩,
  ⟨(some 17), none, .mv (.t 0)⟩,
  ⟨(some 18), none, .mv (.t 3)⟩,
  ⟨(some 19), none, .idx 1 (.t 17) (.t 18)⟩,
  ⟨(some 20), none, .load 1 false (.t 19)⟩,
  ⟨(some 21), none, .call 29 [(.t 16), (.t 20)]⟩,
  ⟨(some 4), none, .mv (.t 21)⟩], false, []⟩
def Try.r_ref6_GraphFault_6 : LReg := ⟨[⟨(some 22), none, .mv (.t 4)⟩,
  ⟨(some 23), none, .bin .neq (.t 22) (.c (.int .i64 (0)))⟩], false, []⟩
def Try.r_ref6_GraphFault_7 : LReg := ⟨[⟨(some 24), none, .mv (.t 4)⟩,
  ⟨(some 25), none, .mv (.t 3)⟩,
  ⟨(some 26), none, .call 28 [(.t 24), (.t 25)]⟩,
  ⟨none, none, .store 2 (.t 2) (.t 26)⟩], false, []⟩
def Try.r_ref6_GraphFault_8 : LReg := ⟨[⟨(some 13), none, .mv (.t 3)⟩,
  ⟨(some 14), none, .bin .add (.t 13) (.c (.int .i64 (1)))⟩,
  ⟨(some 3), none, .mv (.t 14)⟩], false, []⟩
def Try.r_ref6_GraphFault_9 : LReg := ⟨[⟨(some 27), none, .build [.int .i64 (0), .int .i64 (0)] []⟩,
  ⟨none, none, .store 2 (.t 2) (.t 27)⟩], false, []⟩
def Try.l_ref6_GraphFault : LCode := (.seq (.reg Try.r_ref6_GraphFault_0) (.seq (.seq (.reg Try.r_ref6_GraphFault_1) (.cond (.t 7) (.seq (.reg Try.r_ref6_GraphFault_2) .ret) .skip)) (.seq (.seq (.reg Try.r_ref6_GraphFault_3) (.block 0 (.loop (.seq (.seq (.reg Try.r_ref6_GraphFault_4) (.cond (.t 12) .skip (.exit 0))) (.seq (.block 1 (.seq (.reg Try.r_ref6_GraphFault_5) (.seq (.reg Try.r_ref6_GraphFault_6) (.cond (.t 23) (.seq (.reg Try.r_ref6_GraphFault_7) .ret) .skip)))) (.reg Try.r_ref6_GraphFault_8)))))) (.seq (.reg Try.r_ref6_GraphFault_9) .ret))))
theorem Try.c_ref6_GraphFault : fnComp Try.prog 9 = some (28, Try.l_ref6_GraphFault, [.cell 2 2 true]) := by kernel_rfl

/- 30 changeforge/depgraph.list -/
def Try.r_depgraph_list_0 : LReg := ⟨[⟨(some 4), none, .mv (.c (.int .i64 (0)))⟩], false, []⟩
def Try.r_depgraph_list_1 : LReg := ⟨[⟨(some 7), none, .mv (.t 0)⟩,
  ⟨(some 8), none, .len (.t 7)⟩,
  ⟨(some 9), none, .mv (.c (.int .i64 (0)))⟩], false, []⟩
def Try.r_depgraph_list_2 : LReg := ⟨[⟨(some 10), none, .bin .lss (.t 9) (.t 8)⟩], false, []⟩
def Try.r_depgraph_list_3 : LReg := ⟨[⟨(some 11), none, .mv (.t 9)⟩,
  ⟨(some 12), none, .idx 1 (.t 7) (.t 9)⟩,
  ⟨(some 13), none, .load 1 false (.t 12)⟩,
  ⟨(some 5), none, .mv (.t 11)⟩,
  ⟨(some 6), none, .mv (.t 13)⟩], false, []⟩
def Try.r_depgraph_list_4 : LReg := ⟨[⟨(some 14), none, .mv (.t 6)⟩,
  ⟨(some 15), none, .bin .lss (.t 14) (.c (.int .i64 (0)))⟩,
  ⟨(some 16), none, .mv (.t 15)⟩,
  ⟨(some 17), (some (16, false)), .mv (.t 6)⟩,
  ⟨(some 18), (some (16, false)), .mv (.t 1)⟩,
  ⟨(some 19), (some (16, false)), .bin .geq (.t 17) (.t 18)⟩,
  ⟨(some 20), none, .pick (.t 16) (.c (.bool true)) (.t 19)⟩], false, []⟩
def Try.r_depgraph_list_5 : LReg := ⟨[⟨(some 4), none, .mv (.c (.int .i64 (3)))⟩], false, []⟩
def Try.r_depgraph_list_6 : LReg := ⟨[⟨(some 21), none, .mv (.t 5)⟩,
  ⟨(some 22), none, .bin .gtr (.t 21) (.c (.int .i64 (0)))⟩,
  ⟨(some 23), none, .mv (.t 22)⟩,
  ⟨(some 24), (some (23, true)), .mv (.t 6)⟩,
  ⟨(some 25), (some (23, true)), .mv (.t 0)⟩,
  ⟨(some 26), (some (23, true)), .mv (.t 5)⟩,
  ⟨(some 27), (some (23, true)), .bin .sub (.t 26) (.c (.int .i64 (1)))⟩,
  ⟨(some 28), (some (23, true)), .idx 1 (.t 25) (.t 27)⟩,
  ⟨(some 29), (some (23, true)), .load 1 false (.t 28)⟩,
  ⟨(some 30), (some (23, true)), .bin .leq (.t 24) (.t 29)⟩,
  ⟨(some 31), none, .pick (.t 23) (.t 30) (.c (.bool false))⟩], false, []⟩
def Try.r_depgraph_list_7 : LReg := ⟨[⟨(some 4), none, .mv (.c (.int .i64 (5)))⟩], false, []⟩
def Try.r_depgraph_list_8 : LReg := ⟨[⟨(some 32), none, .bin .add (.t 9) (.c (.int .i64 (1)))⟩,
  ⟨(some 9), none, .mv (.t 32)⟩], false, []⟩
def Try.r_depgraph_list_9 : LReg := ⟨[⟨(some 4), none, .mv (.c (.int .i64 (0)))⟩], false, []⟩
def Try.l_depgraph_list : LCode := (.seq (.reg Try.r_depgraph_list_0) (.seq (.seq (.reg Try.r_depgraph_list_1) (.block 0 (.loop (.seq (.reg Try.r_depgraph_list_2) (.seq (.cond (.t 10) .skip (.exit 0)) (.seq (.block 1 (.seq (.reg Try.r_depgraph_list_3) (.seq (.seq (.reg Try.r_depgraph_list_4) (.cond (.t 20) (.seq (.reg Try.r_depgraph_list_5) .ret) .skip)) (.seq (.reg Try.r_depgraph_list_6) (.cond (.t 31) (.seq (.reg Try.r_depgraph_list_7) .ret) .skip))))) (.reg Try.r_depgraph_list_8))))))) (.seq (.reg Try.r_depgraph_list_9) .ret)))
theorem Try.c_depgraph_list : fnComp Try.prog 30 = some (33, Try.l_depgraph_list, [.t 4]) := by kernel_rfl

/- 11 changeforge/depgraph.Validate -/
def Try.r_depgraph_Validate_0 : LReg := ⟨[⟨(some 2), none, .alloc 25 2 [.int .i64 (0), .int .i64 (0)]⟩], false, []⟩
def Try.r_depgraph_Validate_1 : LReg := ⟨[⟨(some 6), none, .mv (.t 0)⟩,
  ⟨(some 7), none, .len (.t 6)⟩,
  ⟨(some 8), none, .bin .gtr (.t 7) (.c (.int .i64 (24)))⟩], false, []⟩
def Try.r_depgraph_Validate_2 : LReg := ⟨[⟨(some 9), none, .build [.int .i64 (0), .int .i64 (0)] [(0, 1, (.c (.int .i64 (2)))), (1, 1, (.c (.int .i64 (-1))))]⟩,
  ⟨none, none, .store 2 (.t 2) (.t 9)⟩], false, []⟩
def Try.r_depgraph_Validate_3 : LReg := ⟨[⟨(some 10), none, .mv (.t 0)⟩,
  ⟨(some 11), none, .len (.t 10)⟩,
  ⟨(some 12), none, .mv (.c (.int .i64 (0)))⟩], false, []⟩
def Try.r_depgraph_Validate_4 : LReg := ⟨[⟨(some 13), none, .bin .lss (.t 12) (.t 11)⟩], false, []⟩
def Try.r_depgraph_Validate_5 : LReg := ⟨[⟨(some 14), none, .mv (.t 12)⟩,
  ⟨(some 15), none, .idx 1 (.t 10) (.t 12)⟩,
  ⟨(some 16), none, .load 1 false (.t 15)⟩,
  ⟨(some 3), none, .mv (.t 14)⟩,
  ⟨(some 4), none, .mv (.t 16)⟩], false, []⟩
def Try.r_depgraph_Validate_6 : LReg := ⟨[⟨(some 17), none, .mv (.t 4)⟩,
  ⟨(some 18), none, .mv (.t 0)⟩,
  ⟨(some 19), none, .len (.t 18)⟩,
  ⟨(some 20), none, .call 30 [(.t 17), (.t 19)]⟩,
  ⟨(some 5), none, .mv (.t 20)⟩], false, []⟩
def Try.r_depgraph_Validate_7 : LReg := ⟨[⟨(some 21), none, .mv (.t 5)⟩,
  ⟨(some 22), none, .bin .neq (.t 21) (.c (.int .i64 (0)))⟩], false, []⟩
def Try.r_depgraph_Validate_8 : LReg := ⟨[⟨(some 23), none, .mv (.t 5)⟩,
  ⟨(some 24), none, .mv (.t 3)⟩,
  ⟨(some 25), none, .build [.int .i64 (0), .int .i64 (0)] [(0, 1, (.t 23)), (1, 1, (.t 24))]⟩,
  ⟨none, none, .store 2 (.t 2) (.t 25)⟩], false, []⟩
def Try.r_depgraph_Validate_9 : LReg := ⟨[⟨(some 26), none, .bin .add (.t 12) (.c (.int .i64 (1)))⟩,
  ⟨(some 12), none, .mv (.t 26)⟩], false, []⟩
def Try.r_depgraph_Validate_10 : LReg := ⟨[⟨(some 27), none, .build [.int .i64 (0), .int .i64 (0)] []⟩,
  ⟨none, none, .store 2 (.t 2) (.t 27)⟩], false, []⟩
def Try.l_depgraph_Validate : LCode := (.seq (.reg Try.r_depgraph_Validate_0) (.seq (.seq (.reg Try.r_depgraph_Validate_1) (.cond (.t 8) (.seq (.reg Try.r_depgraph_Validate_2) .ret) .skip)) (.seq (.seq (.reg Try.r_depgraph_Validate_3) (.block 0 (.loop (.seq (.reg Try.r_depgraph_Validate_4) (.seq (.cond (.t 13) .skip (.exit 0)) (.seq (.block 1 (.seq (.reg Try.r_depgraph_Validate_5) (.seq (.reg Try.r_depgraph_Validate_6) (.seq (.reg Try.r_depgraph_Validate_7) (.cond (.t 22) (.seq (.reg Try.r_depgraph_Validate_8) .ret) .skip))))) (.reg Try.r_depgraph_Validate_9))))))) (.seq (.reg Try.r_depgraph_Validate_10) .ret))))
theorem Try.c_depgraph_Validate : fnComp Try.prog 11 = some (28, Try.l_depgraph_Validate, [.cell 2 2 true]) := by kernel_rfl

/- 41 math/bits.Mul32 -/
def Try.r_math_bits_Mul32_0 : LReg := ⟨[⟨(some 4), none, .mv (.c (.int .u32 (0)))⟩,
  ⟨(some 5), none, .mv (.c (.int .u32 (0)))⟩], false, []⟩
def Try.r_math_bits_Mul32_1 : LReg := ⟨[⟨(some 7), none, .mv (.t 0)⟩,
  ⟨(some 8), none, .conv .u64 (.t 7)⟩,
  ⟨(some 9), none, .mv (.t 1)⟩,
  ⟨(some 10), none, .conv .u64 (.t 9)⟩,
  ⟨(some 11), none, .bin .mul (.t 8) (.t 10)⟩,
  ⟨(some 6), none, .mv (.t 11)⟩], false, []⟩
def Try.r_math_bits_Mul32_2 : LReg := ⟨[⟨(some 12), none, .mv (.t 6)⟩,
  ⟨(some 13), none, .bin .shr (.t 12) (.c (.int .u64 (32)))⟩,
  ⟨(some 14), none, .conv .u32 (.t 13)⟩,
  ⟨(some 15), none, .mv (.t 6)⟩,
  ⟨(some 16), none, .conv .u32 (.t 15)⟩,
  ⟨(some 4), none, .mv (.t 14)⟩,
  ⟨(some 5), none, .mv (.t 16)⟩], false, []⟩
def Try.l_math_bits_Mul32 : LCode := (.seq (.reg Try.r_math_bits_Mul32_0) (.seq (.reg Try.r_math_bits_Mul32_1) (.seq (.reg Try.r_math_bits_Mul32_2) .ret)))
theorem Try.c_math_bits_Mul32 : fnComp Try.prog 41 = some (17, Try.l_math_bits_Mul32, [.t 4, .t 5]) := by kernel_rfl

/- 42 math/bits.Mul64 -/
def Try.r_math_bits_Mul64_0 : LReg := ⟨[⟨(some 4), none, .mv (.c (.int .u64 (0)))⟩,
  ⟨(some 5), none, .mv (.c (.int .u64 (0)))⟩], false, []⟩
def Try.r_math_bits_Mul64_1 : LReg := ⟨[⟨(some 14), none, .mv (.t 0)⟩,
  ⟨(some 15), none, .bin .and (.t 14) (.c (.int .u64 (4294967295)))⟩,
  ⟨(some 6), none, .mv (.t 15)⟩], false, []⟩
def Try.r_math_bits_Mul64_2 : LReg := ⟨[⟨(some 16), none, .mv (.t 0)⟩,
  ⟨(some 17), none, .bin .shr (.t 16) (.c (.int .u64 (32)))⟩,
  ⟨(some 7), none, .mv (.t 17)⟩], false, []⟩
def Try.r_math_bits_Mul64_3 : LReg := ⟨[⟨(some 18), none, .mv (.t 1)⟩,
  ⟨(some 19), none, .bin .and (.t 18) (.c (.int .u64 (4294967295)))⟩,
  ⟨(some 8), none, .mv (.t 19)⟩], false, []⟩
def Try.r_math_bits_Mul64_4 : LReg := ⟨[⟨(some 20), none, .mv (.t 1)⟩,
  ⟨(some 21), none, .bin .shr (.t 20) (.c (.int .u64 (32)))⟩,
  ⟨(some 9), none, .mv (.t 21)⟩], false, []⟩
def Try.r_math_bits_Mul64_5 : LReg := ⟨[⟨(some 22), none, .mv (.t 6)⟩,
  ⟨(some 23), none, .mv (.t 8)⟩,
  ⟨(some 24), none, .bin .mul (.t 22) (.t 23)⟩,
  ⟨(some 10), none, .mv (.t 24)⟩], false, []⟩
def Try.r_math_bits_Mul64_6 : LReg := ⟨[⟨(some 25), none, .mv (.t 7)⟩,
  ⟨(some 26), none, .mv (.t 8)⟩,
  ⟨(some 27), none, .bin .mul (.t 25) (.t 26)⟩,
  ⟨(some 28), none, .mv (.t 10)⟩,
  ⟨(some 29), none, .bin .shr (.t 28) (.c (.int .u64 (32)))⟩,
  ⟨(some 30), none, .bin .add (.t 27) (.t 29)⟩,
  ⟨(some 11), none, .mv (.t 30)⟩], false, []⟩
def Try.r_math_bits_Mul64_7 : LReg := ⟨[⟨(some 31), none, .mv (.t 11)⟩,
  ⟨(some 32), none, .bin .and (.t 31) (.c (.int .u64 (4294967295)))⟩,
  ⟨(some 12), none, .mv (.t 32)⟩], false, []⟩
def Try.r_math_bits_Mul64_8 : LReg := ⟨[⟨(some 33), none, .mv (.t 11)⟩,
  ⟨(some 34), none, .bin .shr (.t 33) (.c (.int .u64 (32)))⟩,
  ⟨(some 13), none, .mv (.t 34)⟩], false, []⟩
def Try.r_math_bits_Mul64_9 : LReg := ⟨[⟨(some 35), none, .mv (.t 12)⟩,
  ⟨(some 36), none, .mv (.t 6)⟩,
  ⟨(some 37), none, .mv (.t 9)⟩,
  ⟨(some 38), none, .bin .mul (.t 36) (.t 37)⟩,
  ⟨(some 39), none, .bin .add (.t 35) (.t 38)⟩,
  ⟨(some 12), none, .mv (.t 39)⟩], false, []⟩
def Try.r_math_bits_Mul64_10 : LReg := ⟨[⟨(some 40), none, .mv (.t 7)⟩,
  ⟨(some 41), none, .mv (.t 9)⟩,
  ⟨(some 42), none, .bin .mul (.t 40) (.t 41)⟩,
  ⟨(some 43), none, .mv (.t 13)⟩,
  ⟨(some 44), none, .bin .add (.t 42) (.t 43)⟩,
  ⟨(some 45), none, .mv (.t 12)⟩,
  ⟨(some 46), none, .bin .shr (.t 45) (.c (.int .u64 (32)))⟩,
  ⟨(some 47), none, .bin .add (.t 44) (.t 46)⟩,
  ⟨(some 4), none, .mv (.t 47)⟩], false, []⟩
def Try.r_math_bits_Mul64_11 : LReg := ⟨[⟨(some 48), none, .mv (.t 0)⟩,
  ⟨(some 49), none, .mv (.t 1)⟩,
  ⟨(some 50), none, .bin .mul (.t 48) (.t 49)⟩,
  ⟨(some 5), none, .mv (.t 50)⟩], false, []⟩
def Try.l_math_bits_Mul64 : LCode := (.seq (.reg Try.r_math_bits_Mul64_0) (.seq (.reg Try.r_math_bits_Mul64_1) (.seq (.reg Try.r_math_bits_Mul64_2) (.seq (.reg Try.r_math_bits_Mul64_3) (.seq (.reg Try.r_math_bits_Mul64_4) (.seq (.reg Try.r_math_bits_Mul64_5) (.seq (.reg Try.r_math_bits_Mul64_6) (.seq (.reg Try.r_math_bits_Mul64_7) (.seq (.reg Try.r_math_bits_Mul64_8) (.seq (.reg Try.r_math_bits_Mul64_9) (.seq (.reg Try.r_math_bits_Mul64_10) (.seq (.reg Try.r_math_bits_Mul64_11) .ret))))))))))))
theorem Try.c_math_bits_Mul64 : fnComp Try.prog 42 = some (51, Try.l_math_bits_Mul64, [.t 4, .t 5]) := by kernel_rfl

/- 40 math/bits.Mul -/
def Try.r_math_bits_Mul_0 : LReg := ⟨[⟨(some 4), none, .mv (.c (.int .u64 (0)))⟩,
  ⟨(some 5), none, .mv (.c (.int .u64 (0)))⟩], false, []⟩
def Try.r_math_bits_Mul_1 : LReg := ⟨[⟨(some 11), none, .mv (.t 0)⟩,
  ⟨(some 12), none, .conv .u32 (.t 11)⟩,
  ⟨(some 13), none, .mv (.t 1)⟩,
  ⟨(some 14), none, .conv .u32 (.t 13)⟩,
  ⟨(some 15), none, .call 41 [(.t 12), (.t 14)]⟩,
  ⟨(some 10), none, .mv (.t 15)⟩,
  ⟨(some 16), none, .extract 0 (.t 10)⟩,
  ⟨(some 17), none, .extract 1 (.t 10)⟩,
  ⟨(some 6), none, .mv (.t 16)⟩,
  ⟨(some 7), none, .mv (.t 17)⟩], false, []⟩
def Try.r_math_bits_Mul_2 : LReg := ⟨[⟨(some 18), none, .mv (.t 6)⟩,
  ⟨(some 19), none, .conv .u64 (.t 18)⟩,
  ⟨(some 20), none, .mv (.t 7)⟩,
  ⟨(some 21), none, .conv .u64 (.t 20)⟩,
  ⟨(some 4), none, .mv (.t 19)⟩,
  ⟨(some 5), none, .mv (.t 21)⟩], false, []⟩
def Try.r_math_bits_Mul_3 : LReg := ⟨[⟨(some 23), none, .mv (.t 0)⟩,
  ⟨(some 24), none, .mv (.t 1)⟩,
  ⟨(some 25), none, .call 42 [(.t 23), (.t 24)]⟩,
  ⟨(some 22), none, .mv (.t 25)⟩,
  ⟨(some 26), none, .extract 0 (.t 22)⟩,
  ⟨(some 27), none, .extract 1 (.t 22)⟩,
  ⟨(some 8), none, .mv (.t 26)⟩,
  ⟨(some 9), none, .mv (.t 27)⟩], false, []⟩
def Try.r_math_bits_Mul_4 : LReg := ⟨[⟨(some 28), none, .mv (.t 8)⟩,
  ⟨(some 29), none, .mv (.t 9)⟩,
  ⟨(some 4), none, .mv (.t 28)⟩,
  ⟨(some 5), none, .mv (.t 29)⟩], false, []⟩
def Try.l_math_bits_Mul : LCode := (.seq (.reg Try.r_math_bits_Mul_0) (.seq (.cond (.c (.bool false)) (.seq (.reg Try.r_math_bits_Mul_1) (.seq (.reg Try.r_math_bits_Mul_2) .ret)) .skip) (.seq (.reg Try.r_math_bits_Mul_3) (.seq (.reg Try.r_math_bits_Mul_4) .ret))))
theorem Try.c_math_bits_Mul : fnComp Try.prog 40 = some (30, Try.l_math_bits_Mul, [.t 4, .t 5]) := by kernel_rfl

/- 38 slices.Repeat[[]int,int] -/
def Try.r_slices_Repeat_int_0 : LReg := ⟨[⟨(some 4), none, .mv (.c (.nils))⟩], false, []⟩
def Try.r_slices_Repeat_int_1 : LReg := ⟨[⟨(some 9), none, .mv (.t 1)⟩,
  ⟨(some 10), none, .bin .lss (.t 9) (.c (.int .i64 (0)))⟩], false, []⟩
def Try.r_slices_Repeat_int_2 : LReg := ⟨[⟨(some 11), none, .bad⟩,
  ⟨none, none, .bad⟩], false, []⟩
def Try.r_slices_Repeat_int_3 : LReg := ⟨[⟨(some 13), none, .mv (.t 0)⟩,
  ⟨(some 14), none, .len (.t 13)⟩,
  ⟨(some 15), none, .conv .u64 (.t 14)⟩,
  ⟨(some 16), none, .mv (.t 1)⟩,
  ⟨(some 17), none, .conv .u64 (.t 16)⟩,
  ⟨(some 18), none, .call 40 [(.t 15), (.t 17)]⟩,
  ⟨(some 12), none, .mv (.t 18)⟩,
  ⟨(some 19), none, .extract 0 (.t 12)⟩,
  ⟨(some 20), none, .extract 1 (.t 12)⟩,
  ⟨(some 5), none, .mv (.t 19)⟩,
  ⟨(some 6), none, .mv (.t 20)⟩], false, []⟩
def Try.r_slices_Repeat_int_4 : LReg := ⟨[⟨(some 21), none, .mv (.t 5)⟩,
  ⟨(some 22), none, .bin .gtr (.t 21) (.c (.int .u64 (0)))⟩,
  ⟨(some 23), none, .mv (.t 22)⟩,
  ⟨(some 24), (some (23, false)), .mv (.t 6)⟩,
  ⟨(some 25), (some (23, false)), .bin .gtr (.t 24) (.c (.int .u64 (9223372036854775807)))⟩,
  ⟨(some 26), none, .pick (.t 23) (.c (.bool true)) (.t 25)⟩], false, []⟩
def Try.r_slices_Repeat_int_5 : LReg := ⟨[⟨(some 27), none, .bad⟩,
  ⟨none, none, .bad⟩], false, []⟩
def Try.r_slices_Repeat_int_6 : LReg := ⟨[⟨(some 28), none, .mv (.t 6)⟩,
  ⟨(some 29), none, .conv .i64 (.t 28)⟩,
  ⟨(some 30), none, .make 3 1 8 [.int .i64 (0)] (.t 29)⟩,
  ⟨(some 7), none, .mv (.t 30)⟩], false, []⟩
def Try.r_slices_Repeat_int_7 : LReg := ⟨[⟨(some 31), none, .mv (.t 7)⟩,
  ⟨(some 32), none, .mv (.t 0)⟩,
  ⟨(some 33), none, .copy 1 (.t 31) (.t 32)⟩,
  ⟨(some 8), none, .mv (.t 33)⟩], false, []⟩
def Try.r_slices_Repeat_int_8 : LReg := ⟨[⟨(some 34), none, .mv (.t 8)⟩,
  ⟨(some 35), none, .mv (.t 7)⟩,
  ⟨(some 36), none, .len (.t 35)⟩,
  ⟨(some 37), none, .bin .lss (.t 34) (.t 36)⟩], false, []⟩
def Try.r_slices_Repeat_int_9 : LReg := ⟨[⟨(some 38), none, .mv (.t 8)⟩,
  ⟨(some 39), none, .mv (.t 7)⟩,
  ⟨(some 40), none, .mv (.t 8)⟩,
  ⟨(some 41), none, .slice 1 (.t 39) (some (.t 40)) none⟩,
  ⟨(some 42), none, .mv (.t 7)⟩,
  ⟨(some 43), none, .mv (.t 8)⟩,
  ⟨(some 44), none, .slice 1 (.t 42) none (some (.t 43))⟩,
  ⟨(some 45), none, .copy 1 (.t 41) (.t 44)⟩,
  ⟨(some 46), none, .bin .add (.t 38) (.t 45)⟩,
  ⟨(some 8), none, .mv (.t 46)⟩], true, [(3, 6)]⟩
def Try.r_slices_Repeat_int_10 : LReg := ⟨[⟨(some 47), none, .mv (.t 7)⟩,
  ⟨(some 4), none, .mv (.t 47)⟩], false, []⟩
def Try.l_slices_Repeat_int : LCode := (.seq (.reg Try.r_slices_Repeat_int_0) (.seq (.seq (.reg Try.r_slices_Repeat_int_1) (.cond (.t 10) (.reg Try.r_slices_Repeat_int_2) .skip)) (.seq (.reg Try.r_slices_Repeat_int_3) (.seq (.seq (.reg Try.r_slices_Repeat_int_4) (.cond (.t 26) (.reg Try.r_slices_Repeat_int_5) .skip)) (.seq (.reg Try.r_slices_Repeat_int_6) (.seq (.reg Try.r_slices_Repeat_int_7) (.seq (.block 0 (.loop (.seq (.seq (.reg Try.r_slices_Repeat_int_8) (.cond (.t 37) .skip (.exit 0))) (.block 1 (.reg Try.r_slices_Repeat_int_9))))) (.seq (.reg Try.r_slices_Repeat_int_10) .ret))))))))
theorem Try.c_slices_Repeat_int : fnComp Try.prog 38 = some (48, Try.l_slices_Repeat_int, [.t 4]) := by kernel_rfl

/- 32 changeforge/depgraph.distances -/
def Try.r_depgraph_distances_0 : LReg := ⟨[⟨(some 4), none, .mv (.c (.nils))⟩], false, []⟩
def Try.r_depgraph_distances_1 : LReg := ⟨[⟨(some 12), none, .mkSlice 3 1 1 [.int .i64 (0)] [(0, (.c (.int .i64 (1000))))]⟩,
  ⟨(some 13), none, .mv (.t 0)⟩,
  ⟨(some 14), none, .len (.t 13)⟩,
  ⟨(some 15), none, .call 38 [(.t 12), (.t 14)]⟩,
  ⟨(some 5), none, .mv (.t 15)⟩], false, []⟩
def Try.r_depgraph_distances_2 : LReg := ⟨[⟨(some 6), none, .mv (.c (.bool true))⟩], false, []⟩
def Try.r_depgraph_distances_3 : LReg := ⟨[⟨(some 16), none, .mv (.t 6)⟩], false, []⟩
def Try.r_depgraph_distances_4 : LReg := ⟨[⟨(some 6), none, .mv (.c (.bool false))⟩], false, []⟩
def Try.r_depgraph_distances_5 : LReg := ⟨[⟨(some 17), none, .mv (.t 0)⟩,
  ⟨(some 18), none, .len (.t 17)⟩,
  ⟨(some 19), none, .mv (.c (.int .i64 (0)))⟩], false, []⟩
def Try.r_depgraph_distances_6 : LReg := ⟨[⟨(some 20), none, .bin .lss (.t 19) (.t 18)⟩], false, []⟩
def Try.r_depgraph_distances_7 : LReg := ⟨[⟨(some 21), none, .mv (.t 19)⟩,
  ⟨(some 22), none, .idx 1 (.t 17) (.t 19)⟩,
  ⟨(some 23), none, .load 1 false (.t 22)⟩,
  ⟨(some 7), none, .mv (.t 21)⟩,
  ⟨(some 8), none, .mv (.t 23)⟩], false, []⟩
def Try.r_depgraph_distances_8 : LReg := ⟨[⟨(some 24), none, .mv (.t 8)⟩,
  ⟨(some 25), none, .len (.t 24)⟩,
  ⟨(some 26), none, .mv (.c (.int .i64 (0)))⟩], false, []⟩
def Try.r_depgraph_distances_9 : LReg := ⟨[⟨(some 27), none, .bin .lss (.t 26) (.t 25)⟩], false, []⟩
def Try.r_depgraph_distances_10 : LReg := ⟨[⟨(some 28), none, .idx 1 (.t 24) (.t 26)⟩,
  ⟨(some 29), none, .load 1 false (.t 28)⟩,
  ⟨(some 10), none, .mv (.t 29)⟩], false, []⟩
def Try.r_depgraph_distances_11 : LReg := ⟨[⟨(some 30), none, .mv (.t 5)⟩,
  ⟨(some 31), none, .mv (.t 10)⟩,
  ⟨(some 32), none, .idx 1 (.t 30) (.t 31)⟩,
  ⟨(some 33), none, .load 1 false (.t 32)⟩,
  ⟨(some 34), none, .bin .add (.t 33) (.c (.int .i64 (1)))⟩,
  ⟨(some 11), none, .mv (.t 34)⟩], false, []⟩
def Try.r_depgraph_distances_12 : LReg := ⟨[⟨(some 35), none, .mv (.t 10)⟩,
  ⟨(some 36), none, .mv (.t 1)⟩,
  ⟨(some 37), none, .bin .eql (.t 35) (.t 36)⟩], false, []⟩
def Try.r_depgraph_distances_13 : LReg := ⟨[⟨(some 11), none, .mv (.c (.int .i64 (1)))⟩], false, []⟩
def Try.r_depgraph_distances_14 : LReg := ⟨[⟨(some 38), none, .mv (.t 11)⟩,
  ⟨(some 39), none, .mv (.t 5)⟩,
  ⟨(some 40), none, .mv (.t 7)⟩,
  ⟨(some 41), none, .idx 1 (.t 39) (.t 40)⟩,
  ⟨(some 42), none, .load 1 false (.t 41)⟩,
  ⟨(some 43), none, .bin .lss (.t 38) (.t 42)⟩], false, []⟩
def Try.r_depgraph_distances_15 : LReg := ⟨[⟨(some 44), none, .mv (.t 5)⟩,
  ⟨(some 45), none, .mv (.t 7)⟩,
  ⟨(some 46), none, .mv (.t 11)⟩,
  ⟨(some 47), none, .idx 1 (.t 44) (.t 45)⟩,
  ⟨none, none, .store 1 (.t 47) (.t 46)⟩,
  ⟨(some 6), none, .mv (.c (.bool true))⟩], false, []⟩
def Try.r_depgraph_distances_16 : LReg := ⟨[⟨(some 48), none, .bin .add (.t 26) (.c (.int .i64 (1)))⟩,
  ⟨(some 26), none, .mv (.t 48)⟩], false, []⟩
def Try.r_depgraph_distances_17 : LReg := ⟨[⟨(some 49), none, .bin .add (.t 19) (.c (.int .i64 (1)))⟩,
  ⟨(some 19), none, .mv (.t 49)⟩], false, []⟩
def Try.r_depgraph_distances_18 : LReg := ⟨[⟨(some 50), none, .mv (.t 5)⟩,
  ⟨(some 4), none, .mv (.t 50)⟩], false, []⟩
def Try.l_depgraph_distances : LCode := (.seq (.reg Try.r_depgraph_distances_0) (.seq (.reg Try.r_depgraph_distances_1) (.seq (.seq (.reg Try.r_depgraph_distances_2) (.block 0 (.loop (.seq (.seq (.reg Try.r_depgraph_distances_3) (.cond (.t 16) .skip (.exit 0))) (.block 1 (.seq (.reg Try.r_depgraph_distances_4) (.seq (.reg Try.r_depgraph_distances_5) (.block 2 (.loop (.seq (.reg Try.r_depgraph_distances_6) (.seq (.cond (.t 20) .skip (.exit 2)) (.seq (.block 3 (.seq (.reg Try.r_depgraph_distances_7) (.seq (.reg Try.r_depgraph_distances_8) (.block 4 (.loop (.seq (.reg Try.r_depgraph_distances_9) (.seq (.cond (.t 27) .skip (.exit 4)) (.seq (.block 5 (.seq (.reg Try.r_depgraph_distances_10) (.seq (.reg Try.r_depgraph_distances_11) (.seq (.seq (.reg Try.r_depgraph_distances_12) (.cond (.t 37) (.reg Try.r_depgraph_distances_13) .skip)) (.seq (.reg Try.r_depgraph_distances_14) (.cond (.t 43) (.reg Try.r_depgraph_distances_15) .skip)))))) (.reg Try.r_depgraph_distances_16))))))))) (.reg Try.r_depgraph_distances_17))))))))))))) (.seq (.reg Try.r_depgraph_distances_18) .ret))))
theorem Try.c_depgraph_distances : fnComp Try.prog 32 = some (51, Try.l_depgraph_distances, [.t 4]) := by kernel_rfl

/- 31 changeforge/depgraph.cyclic -/
def Try.r_depgraph_cyclic_0 : LReg := ⟨[⟨(some 2), none, .mv (.c (.int .i64 (0)))⟩], false, []⟩
def Try.r_depgraph_cyclic_1 : LReg := ⟨[⟨(some 4), none, .mv (.t 0)⟩,
  ⟨(some 5), none, .len (.t 4)⟩,
  ⟨(some 6), none, .mv (.c (.int .i64 (0)))⟩], false, []⟩
def Try.r_depgraph_cyclic_2 : LReg := ⟨[⟨(some 7), none, .bin .lss (.t 6) (.t 5)⟩], false, []⟩
def Try.r_depgraph_cyclic_3 : LReg := ⟨[⟨(some 8), none, .mv (.t 6)⟩,
  ⟨(some 3), none, .mv (.t 8)⟩], false, []⟩
def Try.r_depgraph_cyclic_4 : LReg := ⟨[⟨(some 9), none, .mv (.t 0)⟩,
  ⟨(some 10), none, .mv (.t 3)⟩,
  ⟨(some 11), none, .call 32 [(.t 9), (.t 10)]⟩,
  ⟨(some 12), none, .mv (.t 3)⟩,
  ⟨(some 13), none, .idx 1 (.t 11) (.t 12)⟩,
  ⟨(some 14), none, .load 1 false (.t 13)⟩,
  ⟨(some 15), none, .bin .lss (.t 14) (.c (.int .i64 (1000)))⟩], false, []⟩
def Try.r_depgraph_cyclic_5 : LReg := ⟨[⟨(some 16), none, .mv (.t 3)⟩,
  ⟨(some 2), none, .mv (.t 16)⟩], false, []⟩
def Try.r_depgraph_cyclic_6 : LReg := ⟨[⟨(some 17), none, .bin .add (.t 6) (.c (.int .i64 (1)))⟩,
  ⟨(some 6), none, .mv (.t 17)⟩], false, []⟩
def Try.r_depgraph_cyclic_7 : LReg := ⟨[⟨(some 2), none, .mv (.c (.int .i64 (-1)))⟩], false, []⟩
def Try.l_depgraph_cyclic : LCode := (.seq (.reg Try.r_depgraph_cyclic_0) (.seq (.seq (.reg Try.r_depgraph_cyclic_1) (.block 0 (.loop (.seq (.reg Try.r_depgraph_cyclic_2) (.seq (.cond (.t 7) .skip (.exit 0)) (.seq (.block 1 (.seq (.reg Try.r_depgraph_cyclic_3) (.seq (.reg Try.r_depgraph_cyclic_4) (.cond (.t 15) (.seq (.reg Try.r_depgraph_cyclic_5) .ret) .skip)))) (.reg Try.r_depgraph_cyclic_6))))))) (.seq (.reg Try.r_depgraph_cyclic_7) .ret)))
theorem Try.c_depgraph_cyclic : fnComp Try.prog 31 = some (18, Try.l_depgraph_cyclic, [.t 2]) := by kernel_rfl

/- 12 changeforge/depgraph.Cycle -/
def Try.r_depgraph_Cycle_0 : LReg := ⟨[⟨(some 2), none, .mv (.c (.nils))⟩,
  ⟨(some 3), none, .mv (.c (.bool false))⟩,
  ⟨(some 4), none, .alloc 25 2 [.int .i64 (0), .int .i64 (0)]⟩], false, []⟩
def Try.r_depgraph_Cycle_1 : LReg := ⟨[⟨(some 12), none, .mv (.t 0)⟩,
  ⟨(some 13), none, .call 11 [(.t 12)]⟩,
  ⟨(some 5), none, .alloc 25 2 [.int .i64 (0), .int .i64 (0)]⟩,
  ⟨none, none, .store 2 (.t 5) (.t 13)⟩], false, []⟩
def Try.r_depgraph_Cycle_2 : LReg := ⟨[⟨(some 14), none, .load 2 true (.t 5)⟩,
  ⟨(some 15), none, .build [.int .i64 (0), .int .i64 (0)] []⟩,
  ⟨(some 16), none, .eqs true [0, 0] (.t 14) (.t 15)⟩], false, []⟩
def Try.r_depgraph_Cycle_3 : LReg := ⟨[⟨(some 17), none, .load 2 true (.t 5)⟩,
  ⟨(some 2), none, .mv (.c (.nils))⟩,
  ⟨(some 3), none, .mv (.c (.bool false))⟩,
  ⟨none, none, .store 2 (.t 4) (.t 17)⟩], true, []⟩
def Try.r_depgraph_Cycle_4 : LReg := ⟨[⟨(some 18), none, .mv (.t 0)⟩,
  ⟨(some 19), none, .call 31 [(.t 18)]⟩,
  ⟨(some 6), none, .mv (.t 19)⟩], false, []⟩
def Try.r_depgraph_Cycle_5 : LReg := ⟨[⟨(some 20), none, .mv (.t 6)⟩,
  ⟨(some 21), none, .bin .lss (.t 20) (.c (.int .i64 (0)))⟩], false, []⟩
def Try.r_depgraph_Cycle_6 : LReg := ⟨[⟨(some 22), none, .build [.int .i64 (0), .int .i64 (0)] []⟩,
  ⟨(some 2), none, .mv (.c (.nils))⟩,
  ⟨(some 3), none, .mv (.c (.bool false))⟩,
  ⟨none, none, .store 2 (.t 4) (.t 22)⟩], false, []⟩
def Try.r_depgraph_Cycle_7 : LReg := ⟨[⟨(some 23), none, .mv (.t 0)⟩,
  ⟨(some 24), none, .mv (.t 6)⟩,
  ⟨(some 25), none, .call 32 [(.t 23), (.t 24)]⟩,
  ⟨(some 7), none, .mv (.t 25)⟩], false, []⟩
def Try.r_depgraph_Cycle_8 : LReg := ⟨[⟨(some 26), none, .mv (.t 6)⟩,
  ⟨(some 27), none, .mkSlice 3 1 1 [.int .i64 (0)] [(0, (.t 26))]⟩,
  ⟨(some 8), none, .mv (.t 27)⟩], false, []⟩
def Try.r_depgraph_Cycle_9 : LReg := ⟨[⟨(some 28), none, .mv (.t 6)⟩,
  ⟨(some 9), none, .mv (.t 28)⟩], false, []⟩
def Try.r_depgraph_Cycle_10 : LReg := ⟨[⟨(some 29), none, .mv (.t 7)⟩,
  ⟨(some 30), none, .mv (.t 9)⟩,
  ⟨(some 31), none, .idx 1 (.t 29) (.t 30)⟩,
  ⟨(some 32), none, .load 1 false (.t 31)⟩,
  ⟨(some 33), none, .bin .gtr (.t 32) (.c (.int .i64 (1)))⟩], false, []⟩
def Try.r_depgraph_Cycle_11 : LReg := ⟨[⟨(some 34), none, .mv (.t 0)⟩,
  ⟨(some 35), none, .mv (.t 9)⟩,
  ⟨(some 36), none, .idx 1 (.t 34) (.t 35)⟩,
  ⟨(some 37), none, .load 1 false (.t 36)⟩,
  ⟨(some 38), none, .len (.t 37)⟩,
  ⟨(some 39), none, .mv (.c (.int .i64 (0)))⟩], false, []⟩
def Try.r_depgraph_Cycle_12 : LReg := ⟨[⟨(some 40), none, .bin .lss (.t 39) (.t 38)⟩], false, []⟩
def Try.r_depgraph_Cycle_13 : LReg := ⟨[⟨(some 41), none, .idx 1 (.t 37) (.t 39)⟩,
  ⟨(some 42), none, .load 1 false (.t 41)⟩,
  ⟨(some 11), none, .mv (.t 42)⟩], false, []⟩
def Try.r_depgraph_Cycle_14 : LReg := ⟨[⟨(some 43), none, .mv (.t 7)⟩,
  ⟨(some 44), none, .mv (.t 11)⟩,
  ⟨(some 45), none, .idx 1 (.t 43) (.t 44)⟩,
  ⟨(some 46), none, .load 1 false (.t 45)⟩,
  ⟨(some 47), none, .mv (.t 7)⟩,
  ⟨(some 48), none, .mv (.t 9)⟩,
  ⟨(some 49), none, .idx 1 (.t 47) (.t 48)⟩,
  ⟨(some 50), none, .load 1 false (.t 49)⟩,
  ⟨(some 51), none, .bin .sub (.t 50) (.c (.int .i64 (1)))⟩,
  ⟨(some 52), none, .bin .eql (.t 46) (.t 51)⟩], true, [(2, 6), (3, 6), (2, 7), (3, 7)]⟩
def Try.r_depgraph_Cycle_15 : LReg := ⟨[⟨(some 53), none, .mv (.t 11)⟩,
  ⟨(some 9), none, .mv (.t 53)⟩], false, []⟩
def Try.r_depgraph_Cycle_16 : LReg := ⟨[⟨(some 54), none, .bin .add (.t 39) (.c (.int .i64 (1)))⟩,
  ⟨(some 39), none, .mv (.t 54)⟩], false, []⟩
def Try.r_depgraph_Cycle_17 : LReg := ⟨[⟨(some 55), none, .mv (.t 8)⟩,
  ⟨(some 56), none, .mv (.t 9)⟩,
  ⟨(some 57), none, .mkSlice 3 1 1 [.int .i64 (0)] [(0, (.t 56))]⟩,
  ⟨(some 58), none, .append 3 1 8 (.t 55) (.t 57)⟩,
  ⟨(some 8), none, .mv (.t 58)⟩], false, []⟩
def Try.r_depgraph_Cycle_18 : LReg := ⟨[⟨(some 59), none, .mv (.t 8)⟩,
  ⟨(some 60), none, .build [.int .i64 (0), .int .i64 (0)] []⟩,
  ⟨(some 2), none, .mv (.t 59)⟩,
  ⟨(some 3), none, .mv (.c (.bool true))⟩,
  ⟨none, none, .store 2 (.t 4) (.t 60)⟩], false, []⟩
def Try.l_depgraph_Cycle : LCode := (.seq (.reg Try.r_depgraph_Cycle_0) (.seq (.seq (.reg Try.r_depgraph_Cycle_1) (.seq (.reg Try.r_depgraph_Cycle_2) (.cond (.t 16) (.seq (.reg Try.r_depgraph_Cycle_3) .ret) .skip))) (.seq (.reg Try.r_depgraph_Cycle_4) (.seq (.seq (.reg Try.r_depgraph_Cycle_5) (.cond (.t 21) (.seq (.reg Try.r_depgraph_Cycle_6) .ret) .skip)) (.seq (.reg Try.r_depgraph_Cycle_7) (.seq (.reg Try.r_depgraph_Cycle_8) (.seq (.seq (.reg Try.r_depgraph_Cycle_9) (.block 0 (.loop (.seq (.seq (.reg Try.r_depgraph_Cycle_10) (.cond (.t 33) .skip (.exit 0))) (.block 1 (.seq (.seq (.reg Try.r_depgraph_Cycle_11) (.block 2 (.loop (.seq (.reg Try.r_depgraph_Cycle_12) (.seq (.cond (.t 40) .skip (.exit 2)) (.seq (.block 3 (.seq (.reg Try.r_depgraph_Cycle_13) (.seq (.reg Try.r_depgraph_Cycle_14) (.cond (.t 52) (.seq (.reg Try.r_depgraph_Cycle_15) (.exit 2)) .skip)))) (.reg Try.r_depgraph_Cycle_16))))))) (.reg Try.r_depgraph_Cycle_17))))))) (.seq (.reg Try.r_depgraph_Cycle_18) .ret))))))))
theorem Try.c_depgraph_Cycle : fnComp Try.prog 12 = some (61, Try.l_depgraph_Cycle, [.t 2, .t 3, .cell 4 2 true]) := by kernel_rfl

/- 14 changeforge/changeforgeref5.Ints -/
def Try.r_ref5_Ints_0 : LReg := ⟨[⟨(some 4), none, .mv (.c (.bool false))⟩], false, []⟩
def Try.r_ref5_Ints_1 : LReg := ⟨[⟨(some 6), none, .mv (.t 0)⟩,
  ⟨(some 7), none, .len (.t 6)⟩,
  ⟨(some 8), none, .mv (.t 1)⟩,
  ⟨(some 9), none, .len (.t 8)⟩,
  ⟨(some 10), none, .bin .neq (.t 7) (.t 9)⟩], false, []⟩
def Try.r_ref5_Ints_2 : LReg := ⟨[⟨(some 4), none, .mv (.c (.bool false))⟩], false, []⟩
def Try.r_ref5_Ints_3 : LReg := ⟨[⟨(some 5), none, .mv (.c (.int .i64 (0)))⟩], false, []⟩
def Try.r_ref5_Ints_4 : LReg := ⟨[⟨(some 11), none, .mv (.t 5)⟩,
  ⟨(some 12), none, .mv (.t 0)⟩,
  ⟨(some 13), none, .len (.t 12)⟩,
  ⟨(some 14), none, .bin .lss (.t 11) (.t 13)⟩], false, []⟩
def Try.r_ref5_Ints_5 : LReg := ⟨[⟨(some 17), none, .mv (.t 0)⟩,
  ⟨(some 18), none, .mv (.t 5)⟩,
  ⟨(some 19), none, .idx 1 (.t 17) (.t 18)⟩,
  ⟨(some 20), none, .load 1 false (.t 19)⟩,
  ⟨(some 21), none, .mv (.t 1)⟩,
  ⟨(some 22), none, .mv (.t 5)⟩,
  ⟨(some 23), none, .idx 1 (.t 21) (.t 22)⟩,
  ⟨(some 24), none, .load 1 false (.t 23)⟩,
  ⟨(some 25), none, .bin .neq (.t 20) (.t 24)⟩], true, [(2, 6), (3, 6), (2, 7), (3, 7)]⟩
def Try.r_ref5_Ints_6 : LReg := ⟨[⟨(some 4), none, .mv (.c (.bool false))⟩], false, []⟩
def Try.r_ref5_Ints_7 : LReg := ⟨[⟨(some 15), none, .mv (.t 5)⟩,
  ⟨(some 16), none, .bin .add (.t 15) (.c (.int .i64 (1)))⟩,
  ⟨(some 5), none, .mv (.t 16)⟩], false, []⟩
def Try.r_ref5_Ints_8 : LReg := ⟨[⟨(some 4), none, .mv (.c (.bool true))⟩], false, []⟩
def Try.l_ref5_Ints : LCode := (.seq (.reg Try.r_ref5_Ints_0) (.seq (.seq (.reg Try.r_ref5_Ints_1) (.cond (.t 10) (.seq (.reg Try.r_ref5_Ints_2) .ret) .skip)) (.seq (.seq (.reg Try.r_ref5_Ints_3) (.block 0 (.loop (.seq (.seq (.reg Try.r_ref5_Ints_4) (.cond (.t 14) .skip (.exit 0))) (.seq (.block 1 (.seq (.reg Try.r_ref5_Ints_5) (.cond (.t 25) (.seq (.reg Try.r_ref5_Ints_6) .ret) .skip))) (.reg Try.r_ref5_Ints_7)))))) (.seq (.reg Try.r_ref5_Ints_8) .ret))))
theorem Try.c_ref5_Ints : fnComp Try.prog 14 = some (26, Try.l_ref5_Ints, [.t 4]) := by kernel_rfl

/- 17 changeforge/depgraph.Affected -/
def Try.r_depgraph_Affected_0 : LReg := ⟨[⟨(some 4), none, .mv (.c (.nils))⟩,
  ⟨(some 5), none, .alloc 25 2 [.int .i64 (0), .int .i64 (0)]⟩], false, []⟩
def Try.r_depgraph_Affected_1 : LReg := ⟨[⟨(some 16), none, .mv (.t 0)⟩,
  ⟨(some 17), none, .call 11 [(.t 16)]⟩,
  ⟨(some 6), none, .alloc 25 2 [.int .i64 (0), .int .i64 (0)]⟩,
  ⟨none, none, .store 2 (.t 6) (.t 17)⟩], false, []⟩
def Try.r_depgraph_Affected_2 : LReg := ⟨[⟨(some 18), none, .load 2 true (.t 6)⟩,
  ⟨(some 19), none, .build [.int .i64 (0), .int .i64 (0)] []⟩,
  ⟨(some 20), none, .eqs true [0, 0] (.t 18) (.t 19)⟩], false, []⟩
def Try.r_depgraph_Affected_3 : LReg := ⟨[⟨(some 21), none, .load 2 true (.t 6)⟩,
  ⟨(some 4), none, .mv (.c (.nils))⟩,
  ⟨none, none, .store 2 (.t 5) (.t 21)⟩], true, []⟩
def Try.r_depgraph_Affected_4 : LReg := ⟨[⟨(some 22), none, .mv (.t 1)⟩,
  ⟨(some 23), none, .mv (.t 0)⟩,
  ⟨(some 24), none, .len (.t 23)⟩,
  ⟨(some 25), none, .call 30 [(.t 22), (.t 24)]⟩,
  ⟨(some 7), none, .mv (.t 25)⟩], false, []⟩
def Try.r_depgraph_Affected_5 : LReg := ⟨[⟨(some 26), none, .mv (.t 7)⟩,
  ⟨(some 27), none, .bin .neq (.t 26) (.c (.int .i64 (0)))⟩], false, []⟩
def Try.r_depgraph_Affected_6 : LReg := ⟨[⟨(some 28), none, .mv (.t 7)⟩,
  ⟨(some 29), none, .build [.int .i64 (0), .int .i64 (0)] [(0, 1, (.t 28)), (1, 1, (.c (.int .i64 (-2))))]⟩,
  ⟨(some 4), none, .mv (.c (.nils))⟩,
  ⟨none, none, .store 2 (.t 5) (.t 29)⟩], false, []⟩
def Try.r_depgraph_Affected_7 : LReg := ⟨[⟨(some 30), none, .mv (.t 0)⟩,
  ⟨(some 31), none, .len (.t 30)⟩,
  ⟨(some 32), none, .make 4 1 1 [.bool false] (.t 31)⟩,
  ⟨(some 8), none, .mv (.t 32)⟩], false, []⟩
def Try.r_depgraph_Affected_8 : LReg := ⟨[⟨(some 33), none, .mv (.t 1)⟩,
  ⟨(some 34), none, .len (.t 33)⟩,
  ⟨(some 35), none, .mv (.c (.int .i64 (0)))⟩], false, []⟩
def Try.r_depgraph_Affected_9 : LReg := ⟨[⟨(some 36), none, .bin .lss (.t 35) (.t 34)⟩], false, []⟩
def Try.r_depgraph_Affected_10 : LReg := ⟨[⟨(some 37), none, .idx 1 (.t 33) (.t 35)⟩,
  ⟨(some 38), none, .load 1 false (.t 37)⟩,
  ⟨(some 10), none, .mv (.t 38)⟩], false, []⟩
def Try.r_depgraph_Affected_11 : LReg := ⟨[⟨(some 39), none, .mv (.t 0)⟩,
  ⟨(some 40), none, .mv (.t 10)⟩,
  ⟨(some 41), none, .call 32 [(.t 39), (.t 40)]⟩,
  ⟨(some 42), none, .len (.t 41)⟩,
  ⟨(some 43), none, .mv (.c (.int .i64 (0)))⟩], false, []⟩
def Try.r_depgraph_Affected_12 : LReg := ⟨[⟨(some 44), none, .bin .lss (.t 43) (.t 42)⟩], false, []⟩
def Try.r_depgraph_Affected_13 : LReg := ⟨[⟨(some 45), none, .mv (.t 43)⟩,
  ⟨(some 46), none, .idx 1 (.t 41) (.t 43)⟩,
  ⟨(some 47), none, .load 1 false (.t 46)⟩,
  ⟨(some 11), none, .mv (.t 45)⟩,
  ⟨(some 12), none, .mv (.t 47)⟩], false, []⟩
def Try.r_depgraph_Affected_14 : LReg := ⟨[⟨(some 48), none, .mv (.t 8)⟩,
  ⟨(some 49), none, .mv (.t 11)⟩,
  ⟨(some 50), none, .mv (.t 8)⟩,
  ⟨(some 51), none, .mv (.t 11)⟩,
  ⟨(some 52), none, .idx 1 (.t 50) (.t 51)⟩,
  ⟨(some 53), none, .load 1 false (.t 52)⟩,
  ⟨(some 54), none, .mv (.t 53)⟩,
  ⟨(some 55), (some (54, false)), .mv (.t 11)⟩,
  ⟨(some 56), (some (54, false)), .mv (.t 10)⟩,
  ⟨(some 57), (some (54, false)), .bin .eql (.t 55) (.t 56)⟩,
  ⟨(some 58), none, .pick (.t 54) (.c (.bool true)) (.t 57)⟩,
  ⟨(some 59), none, .mv (.t 58)⟩,
  ⟨(some 60), (some (59, false)), .mv (.t 12)⟩,
  ⟨(some 61), (some (59, false)), .bin .lss (.t 60) (.c (.int .i64 (1000)))⟩,
  ⟨(some 62), none, .pick (.t 59) (.c (.bool true)) (.t 61)⟩,
  ⟨(some 63), none, .idx 1 (.t 48) (.t 49)⟩,
  ⟨none, none, .store 1 (.t 63) (.t 62)⟩], false, []⟩
def Try.r_depgraph_Affected_15 : LReg := ⟨[⟨(some 64), none, .bin .add (.t 43) (.c (.int .i64 (1)))⟩,
  ⟨(some 43), none, .mv (.t 64)⟩], false, []⟩
def Try.r_depgraph_Affected_16 : LReg := ⟨[⟨(some 65), none, .bin .add (.t 35) (.c (.int .i64 (1)))⟩,
  ⟨(some 35), none, .mv (.t 65)⟩], false, []⟩
def Try.r_depgraph_Affected_17 : LReg := ⟨[⟨(some 13), none, .mv (.c (.nils))⟩], false, []⟩
def Try.r_depgraph_Affected_18 : LReg := ⟨[⟨(some 66), none, .mv (.t 8)⟩,
  ⟨(some 67), none, .len (.t 66)⟩,
  ⟨(some 68), none, .mv (.c (.int .i64 (0)))⟩], false, []⟩
def Try.r_depgraph_Affected_19 : LReg := ⟨[⟨(some 69), none, .bin .lss (.t 68) (.t 67)⟩], false, []⟩
def Try.r_depgraph_Affected_20 : LReg := ⟨[⟨(some 70), none, .mv (.t 68)⟩,
  ⟨(some 71), none, .idx 1 (.t 66) (.t 68)⟩,
  ⟨(some 72), none, .load 1 false (.t 71)⟩,
  ⟨(some 14), none, .mv (.t 70)⟩,
  ⟨(some 15), none, .mv (.t 72)⟩], false, []⟩
def Try.r_depgraph_Affected_21 : LReg := ⟨[⟨(some 73), none, .mv (.t 15)⟩], false, []⟩
def Try.r_depgraph_Affected_22 : LReg := ⟨[⟨(some 74), none, .mv (.t 13)⟩,
  ⟨(some 75), none, .mv (.t 14)⟩,
  ⟨(some 76), none, .mkSlice 3 1 1 [.int .i64 (0)] [(0, (.t 75))]⟩,
  ⟨(some 77), none, .append 3 1 8 (.t 74) (.t 76)⟩,
  ⟨(some 13), none, .mv (.t 77)⟩], false, []⟩
def Try.r_depgraph_Affected_23 : LReg := ⟨[⟨(some 78), none, .bin .add (.t 68) (.c (.int .i64 (1)))⟩,
  ⟨(some 68), none, .mv (.t 78)⟩], false, []⟩
def Try.r_depgraph_Affected_24 : LReg := ⟨[⟨(some 79), none, .mv (.t 13)⟩,
  ⟨(some 80), none, .build [.int .i64 (0), .int .i64 (0)] []⟩,
  ⟨(some 4), none, .mv (.t 79)⟩,
  ⟨none, none, .store 2 (.t 5) (.t 80)⟩], false, []⟩
def Try.l_depgraph_Affected : LCode := (.seq (.reg Try.r_depgraph_Affected_0) (.seq (.seq (.reg Try.r_depgraph_Affected_1) (.seq (.reg Try.r_depgraph_Affected_2) (.cond (.t 20) (.seq (.reg Try.r_depgraph_Affected_3) .ret) .skip))) (.seq (.seq (.reg Try.r_depgraph_Affected_4) (.seq (.reg Try.r_depgraph_Affected_5) (.cond (.t 27) (.seq (.reg Try.r_depgraph_Affected_6) .ret) .skip))) (.seq (.reg Try.r_depgraph_Affected_7) (.seq (.seq (.reg Try.r_depgraph_Affected_8) (.block 0 (.loop (.seq (.reg Try.r_depgraph_Affected_9) (.seq (.cond (.t 36) .skip (.exit 0)) (.seq (.block 1 (.seq (.reg Try.r_depgraph_Affected_10) (.seq (.reg Try.r_depgraph_Affected_11) (.block 2 (.loop (.seq (.reg Try.r_depgraph_Affected_12) (.seq (.cond (.t 44) .skip (.exit 2)) (.seq (.block 3 (.seq (.reg Try.r_depgraph_Affected_13) (.reg Try.r_depgraph_Affected_14))) (.reg Try.r_depgraph_Affected_15))))))))) (.reg Try.r_depgraph_Affected_16))))))) (.seq (.reg Try.r_depgraph_Affected_17) (.seq (.seq (.reg Try.r_depgraph_Affected_18) (.block 4 (.loop (.seq (.reg Try.r_depgraph_Affected_19) (.seq (.cond (.t 69) .skip (.exit 4)) (.seq (.block 5 (.seq (.reg Try.r_depgraph_Affected_20) (.seq (.reg Try.r_depgraph_Affected_21) (.cond (.t 73) (.reg Try.r_depgraph_Affected_22) .skip)))) (.reg Try.r_depgraph_Affected_23))))))) (.seq (.reg Try.r_depgraph_Affected_24) .ret))))))))
theorem Try.c_depgraph_Affected : fnComp Try.prog 17 = some (81, Try.l_depgraph_Affected, [.t 4, .cell 5 2 true]) := by kernel_rfl

/- 19 changeforge/changeforgelaw6.fault -/
def Try.r_law6_fault_0 : LReg := ⟨[⟨(some 4), none, .alloc 25 2 [.int .i64 (0), .int .i64 (0)]⟩], false, []⟩
def Try.r_law6_fault_1 : LReg := ⟨[⟨(some 5), none, .mv (.t 0)⟩,
  ⟨(some 6), none, .mv (.t 1)⟩,
  ⟨(some 7), none, .build [.int .i64 (0), .int .i64 (0)] [(0, 1, (.t 5)), (1, 1, (.t 6))]⟩,
  ⟨none, none, .store 2 (.t 4) (.t 7)⟩], false, []⟩
def Try.l_law6_fault : LCode := (.seq (.reg Try.r_law6_fault_0) (.seq (.reg Try.r_law6_fault_1) .ret))
theorem Try.c_law6_fault : fnComp Try.prog 19 = some (8, Try.l_law6_fault, [.cell 4 2 true]) := by kernel_rfl

/- 34 changeforge/depgraph.checkOrder -/
def Try.r_depgraph_checkOrder_0 : LReg := ⟨[⟨(some 2), none, .alloc 25 2 [.int .i64 (0), .int .i64 (0)]⟩], false, []⟩
def Try.r_depgraph_checkOrder_1 : LReg := ⟨[⟨(some 5), none, .mv (.t 0)⟩,
  ⟨(some 6), none, .call 11 [(.t 5)]⟩,
  ⟨(some 3), none, .alloc 25 2 [.int .i64 (0), .int .i64 (0)]⟩,
  ⟨none, none, .store 2 (.t 3) (.t 6)⟩], false, []⟩
def Try.r_depgraph_checkOrder_2 : LReg := ⟨[⟨(some 7), none, .load 2 true (.t 3)⟩,
  ⟨(some 8), none, .build [.int .i64 (0), .int .i64 (0)] []⟩,
  ⟨(some 9), none, .eqs true [0, 0] (.t 7) (.t 8)⟩], false, []⟩
def Try.r_depgraph_checkOrder_3 : LReg := ⟨[⟨(some 10), none, .load 2 true (.t 3)⟩,
  ⟨none, none, .store 2 (.t 2) (.t 10)⟩], false, []⟩
def Try.r_depgraph_checkOrder_4 : LReg := ⟨[⟨(some 11), none, .mv (.t 0)⟩,
  ⟨(some 12), none, .call 31 [(.t 11)]⟩,
  ⟨(some 4), none, .mv (.t 12)⟩], false, []⟩
def Try.r_depgraph_checkOrder_5 : LReg := ⟨[⟨(some 13), none, .mv (.t 4)⟩,
  ⟨(some 14), none, .bin .geq (.t 13) (.c (.int .i64 (0)))⟩], false, []⟩
def Try.r_depgraph_checkOrder_6 : LReg := ⟨[⟨(some 15), none, .mv (.t 4)⟩,
  ⟨(some 16), none, .build [.int .i64 (0), .int .i64 (0)] [(0, 1, (.c (.int .i64 (20)))), (1, 1, (.t 15))]⟩,
  ⟨none, none, .store 2 (.t 2) (.t 16)⟩], false, []⟩
def Try.r_depgraph_checkOrder_7 : LReg := ⟨[⟨(some 17), none, .build [.int .i64 (0), .int .i64 (0)] []⟩,
  ⟨none, none, .store 2 (.t 2) (.t 17)⟩], false, []⟩
def Try.l_depgraph_checkOrder : LCode := (.seq (.reg Try.r_depgraph_checkOrder_0) (.seq (.seq (.reg Try.r_depgraph_checkOrder_1) (.seq (.reg Try.r_depgraph_checkOrder_2) (.cond (.t 9) (.seq (.reg Try.r_depgraph_checkOrder_3) .ret) .skip))) (.seq (.seq (.reg Try.r_depgraph_checkOrder_4) (.seq (.reg Try.r_depgraph_checkOrder_5) (.cond (.t 14) (.seq (.reg Try.r_depgraph_checkOrder_6) .ret) .skip))) (.seq (.reg Try.r_depgraph_checkOrder_7) .ret))))
theorem Try.c_depgraph_checkOrder : fnComp Try.prog 34 = some (18, Try.l_depgraph_checkOrder, [.cell 2 2 true]) := by kernel_rfl

/- 39 slices.IndexFunc[[]int,int] -/
def Try.r_slices_IndexFunc_int_0 : LReg := ⟨[⟨(some 4), none, .mv (.c (.int .i64 (0)))⟩], false, []⟩
def Try.r_slices_IndexFunc_int_1 : LReg := ⟨[⟨(some 6), none, .mv (.t 0)⟩,
  ⟨(some 7), none, .len (.t 6)⟩,
  ⟨(some 8), none, .mv (.c (.int .i64 (0)))⟩], false, []⟩
def Try.r_slices_IndexFunc_int_2 : LReg := ⟨[⟨(some 9), none, .bin .lss (.t 8) (.t 7)⟩], false, []⟩
def Try.r_slices_IndexFunc_int_3 : LReg := ⟨[⟨(some 10), none, .mv (.t 8)⟩,
  ⟨(some 5), none, .mv (.t 10)⟩], false, []⟩
def Try.r_slices_IndexFunc_int_4 : LReg := ⟨[⟨(some 11), none, .mv (.t 1)⟩,
  ⟨(some 12), none, .mv (.t 0)⟩,
  ⟨(some 13), none, .mv (.t 5)⟩,
  ⟨(some 14), none, .idx 1 (.t 12) (.t 13)⟩,
  ⟨(some 15), none, .load 1 false (.t 14)⟩,
  ⟨(some 16), none, .callv (.t 11) [(.t 15)]⟩], false, []⟩
def Try.r_slices_IndexFunc_int_5 : LReg := ⟨[⟨(some 17), none, .mv (.t 5)⟩,
  ⟨(some 4), none, .mv (.t 17)⟩], false, []⟩
def Try.r_slices_IndexFunc_int_6 : LReg := ⟨[⟨(some 18), none, .bin .add (.t 8) (.c (.int .i64 (1)))⟩,
  ⟨(some 8), none, .mv (.t 18)⟩], false, []⟩
def Try.r_slices_IndexFunc_int_7 : LReg := ⟨[⟨(some 4), none, .mv (.c (.int .i64 (-1)))⟩], false, []⟩
def Try.l_slices_IndexFunc_int : LCode := (.seq (.reg Try.r_slices_IndexFunc_int_0) (.seq (.seq (.reg Try.r_slices_IndexFunc_int_1) (.block 0 (.loop (.seq (.reg Try.r_slices_IndexFunc_int_2) (.seq (.cond (.t 9) .skip (.exit 0)) (.seq (.block 1 (.seq (.reg Try.r_slices_IndexFunc_int_3) (.seq (.reg Try.r_slices_IndexFunc_int_4) (.cond (.t 16) (.seq (.reg Try.r_slices_IndexFunc_int_5) .ret) .skip)))) (.reg Try.r_slices_IndexFunc_int_6))))))) (.seq (.reg Try.r_slices_IndexFunc_int_7) .ret)))
theorem Try.c_slices_IndexFunc_int : fnComp Try.prog 39 = some (19, Try.l_slices_IndexFunc_int, [.t 4]) := by kernel_rfl

/- 35 slices.ContainsFunc[[]int,int] -/
def Try.r_slices_ContainsFunc_int_0 : LReg := ⟨[⟨(some 4), none, .mv (.c (.bool false))⟩], false, []⟩
def Try.r_slices_ContainsFunc_int_1 : LReg := ⟨[⟨(some 5), none, .mv (.t 0)⟩,
  ⟨(some 6), none, .mv (.t 1)⟩,
  ⟨(some 7), none, .call 39 [(.t 5), (.t 6)]⟩,
  ⟨(some 8), none, .bin .geq (.t 7) (.c (.int .i64 (0)))⟩,
  ⟨(some 4), none, .mv (.t 8)⟩], false, []⟩
def Try.l_slices_ContainsFunc_int : LCode := (.seq (.reg Try.r_slices_ContainsFunc_int_0) (.seq (.reg Try.r_slices_ContainsFunc_int_1) .ret))
theorem Try.c_slices_ContainsFunc_int : fnComp Try.prog 35 = some (9, Try.l_slices_ContainsFunc_int, [.t 4]) := by kernel_rfl

/- 36 changeforge/depgraph.Order$1 -/
theorem Try.b_depgraph_Order_1 : bodied Try.prog 36 = true := by kernel_rfl
def Try.r_depgraph_Order_1_0 : LReg := ⟨[⟨(some 3), none, .mv (.c (.bool false))⟩], false, []⟩
def Try.r_depgraph_Order_1_1 : LReg := ⟨[⟨(some 4), none, .load 1 false (.t 1)⟩,
  ⟨(some 5), none, .mv (.t 0)⟩,
  ⟨(some 6), none, .idx 1 (.t 4) (.t 5)⟩,
  ⟨(some 7), none, .load 1 false (.t 6)⟩,
  ⟨(some 8), none, .un .not (.t 7)⟩,
  ⟨(some 3), none, .mv (.t 8)⟩], false, []⟩
def Try.l_depgraph_Order_1 : LCode := (.seq (.reg Try.r_depgraph_Order_1_0) (.seq (.reg Try.r_depgraph_Order_1_1) .ret))
theorem Try.c_depgraph_Order_1 : fnComp Try.prog 36 = some (9, Try.l_depgraph_Order_1, [.t 3]) := by kernel_rfl

/- 20 changeforge/depgraph.Order -/
def Try.r_depgraph_Order_0 : LReg := ⟨[⟨(some 2), none, .mv (.c (.nils))⟩,
  ⟨(some 3), none, .alloc 25 2 [.int .i64 (0), .int .i64 (0)]⟩], false, []⟩
def Try.r_depgraph_Order_1 : LReg := ⟨[⟨(some 10), none, .mv (.t 0)⟩,
  ⟨(some 11), none, .call 34 [(.t 10)]⟩,
  ⟨(some 4), none, .alloc 25 2 [.int .i64 (0), .int .i64 (0)]⟩,
  ⟨none, none, .store 2 (.t 4) (.t 11)⟩], false, []⟩
def Try.r_depgraph_Order_2 : LReg := ⟨[⟨(some 12), none, .load 2 true (.t 4)⟩,
  ⟨(some 13), none, .build [.int .i64 (0), .int .i64 (0)] []⟩,
  ⟨(some 14), none, .eqs true [0, 0] (.t 12) (.t 13)⟩], false, []⟩
def Try.r_depgraph_Order_3 : LReg := ⟨[⟨(some 15), none, .load 2 true (.t 4)⟩,
  ⟨(some 2), none, .mv (.c (.nils))⟩,
  ⟨none, none, .store 2 (.t 3) (.t 15)⟩], true, []⟩
def Try.r_depgraph_Order_4 : LReg := ⟨[⟨(some 16), none, .mv (.t 0)⟩,
  ⟨(some 17), none, .len (.t 16)⟩,
  ⟨(some 18), none, .make 4 1 1 [.bool false] (.t 17)⟩,
  ⟨(some 5), none, .alloc 49 1 [.nils]⟩,
  ⟨none, none, .store 1 (.t 5) (.t 18)⟩], false, []⟩
def Try.r_depgraph_Order_5 : LReg := ⟨[⟨(some 6), none, .mv (.c (.nils))⟩], false, []⟩
def Try.r_depgraph_Order_6 : LReg := ⟨[⟨(some 19), none, .mv (.t 0)⟩,
  ⟨(some 20), none, .len (.t 19)⟩,
  ⟨(some 21), none, .mv (.c (.int .i64 (0)))⟩], false, []⟩
def Try.r_depgraph_Order_7 : LReg := ⟨[⟨(some 22), none, .bin .lss (.t 21) (.t 20)⟩], false, []⟩
def Try.r_depgraph_Order_8 : LReg := ⟨[⟨(some 7), none, .mv (.c (.int .i64 (-1)))⟩], false, []⟩
def Try.r_depgraph_Order_9 : LReg := ⟨[⟨(some 23), none, .mv (.t 0)⟩,
  ⟨(some 24), none, .len (.t 23)⟩,
  ⟨(some 25), none, .mv (.c (.int .i64 (0)))⟩], false, []⟩
def Try.r_depgraph_Order_10 : LReg := ⟨[⟨(some 26), none, .bin .lss (.t 25) (.t 24)⟩], false, []⟩
def Try.r_depgraph_Order_11 : LReg := ⟨[⟨(some 27), none, .mv (.t 25)⟩,
  ⟨(some 28), none, .idx 1 (.t 23) (.t 25)⟩,
  ⟨(some 29), none, .load 1 false (.t 28)⟩,
  ⟨(some 8), none, .mv (.t 27)⟩,
  ⟨(some 9), none, .mv (.t 29)⟩], false, []⟩
def Try.r_depgraph_Order_12 : LReg := ⟨[⟨(some 30), none, .mv (.t 7)⟩,
  ⟨(some 31), none, .bin .lss (.t 30) (.c (.int .i64 (0)))⟩,
  ⟨(some 32), none, .mv (.t 31)⟩,
  ⟨(some 33), (some (32, true)), .load 1 false (.t 5)⟩,
  ⟨(some 34), (some (32, true)), .mv (.t 8)⟩,
  ⟨(some 35), (some (32, true)), .idx 1 (.t 33) (.t 34)⟩,
  ⟨(some 36), (some (32, true)), .load 1 false (.t 35)⟩,
  ⟨(some 37), (some (32, true)), .un .not (.t 36)⟩,
  ⟨(some 38), none, .pick (.t 32) (.t 37) (.c (.bool false))⟩,
  ⟨(some 39), none, .mv (.t 38)⟩,
  ⟨(some 40), (some (39, true)), .mv (.t 9)⟩,
  ⟨(some 41), (some (39, true)), .mkfn 36 [] [(.t 5)]⟩,
  ⟨(some 42), (some (39, true)), .call 35 [(.t 40), (.t 41)]⟩,
  ⟨(some 43), (some (39, true)), .un .not (.t 42)⟩,
  ⟨(some 44), none, .pick (.t 39) (.t 43) (.c (.bool false))⟩], false, []⟩
def Try.r_depgraph_Order_13 : LReg := ⟨[⟨(some 45), none, .mv (.t 8)⟩,
  ⟨(some 7), none, .mv (.t 45)⟩], false, []⟩
def Try.r_depgraph_Order_14 : LReg := ⟨[⟨(some 46), none, .bin .add (.t 25) (.c (.int .i64 (1)))⟩,
  ⟨(some 25), none, .mv (.t 46)⟩], false, []⟩
def Try.r_depgraph_Order_15 : LReg := ⟨[⟨(some 47), none, .load 1 false (.t 5)⟩,
  ⟨(some 48), none, .mv (.t 7)⟩,
  ⟨(some 49), none, .idx 1 (.t 47) (.t 48)⟩,
  ⟨none, none, .store 1 (.t 49) (.c (.bool true))⟩], false, []⟩
def Try.r_depgraph_Order_16 : LReg := ⟨[⟨(some 50), none, .mv (.t 6)⟩,
  ⟨(some 51), none, .mv (.t 7)⟩,
  ⟨(some 52), none, .mkSlice 3 1 1 [.int .i64 (0)] [(0, (.t 51))]⟩,
  ⟨(some 53), none, .append 3 1 8 (.t 50) (.t 52)⟩,
  ⟨(some 6), none, .mv (.t 53)⟩], false, []⟩
def Try.r_depgraph_Order_17 : LReg := ⟨[⟨(some 54), none, .bin .add (.t 21) (.c (.int .i64 (1)))⟩,
  ⟨(some 21), none, .mv (.t 54)⟩], false, []⟩
def Try.r_depgraph_Order_18 : LReg := ⟨[⟨(some 55), none, .mv (.t 6)⟩,
  ⟨(some 56), none, .build [.int .i64 (0), .int .i64 (0)] []⟩,
  ⟨(some 2), none, .mv (.t 55)⟩,
  ⟨none, none, .store 2 (.t 3) (.t 56)⟩], false, []⟩
def Try.l_depgraph_Order : LCode := (.seq (.reg Try.r_depgraph_Order_0) (.seq (.seq (.reg Try.r_depgraph_Order_1) (.seq (.reg Try.r_depgraph_Order_2) (.cond (.t 14) (.seq (.reg Try.r_depgraph_Order_3) .ret) .skip))) (.seq (.reg Try.r_depgraph_Order_4) (.seq (.reg Try.r_depgraph_Order_5) (.seq (.seq (.reg Try.r_depgraph_Order_6) (.block 0 (.loop (.seq (.reg Try.r_depgraph_Order_7) (.seq (.cond (.t 22) .skip (.exit 0)) (.seq (.block 1 (.seq (.reg Try.r_depgraph_Order_8) (.seq (.seq (.reg Try.r_depgraph_Order_9) (.block 2 (.loop (.seq (.reg Try.r_depgraph_Order_10) (.seq (.cond (.t 26) .skip (.exit 2)) (.seq (.block 3 (.seq (.reg Try.r_depgraph_Order_11) (.seq (.reg Try.r_depgraph_Order_12) (.cond (.t 44) (.reg Try.r_depgraph_Order_13) .skip)))) (.reg Try.r_depgraph_Order_14))))))) (.seq (.reg Try.r_depgraph_Order_15) (.reg Try.r_depgraph_Order_16))))) (.reg Try.r_depgraph_Order_17))))))) (.seq (.reg Try.r_depgraph_Order_18) .ret))))))
theorem Try.c_depgraph_Order : fnComp Try.prog 20 = some (57, Try.l_depgraph_Order, [.t 2, .cell 3 2 true]) := by kernel_rfl

/- 21 changeforge/depgraph.Levels -/
def Try.r_depgraph_Levels_0 : LReg := ⟨[⟨(some 2), none, .mv (.c (.nils))⟩,
  ⟨(some 3), none, .alloc 25 2 [.int .i64 (0), .int .i64 (0)]⟩], false, []⟩
def Try.r_depgraph_Levels_1 : LReg := ⟨[⟨(some 12), none, .mv (.t 0)⟩,
  ⟨(some 13), none, .call 20 [(.t 12)]⟩,
  ⟨(some 11), none, .mv (.t 13)⟩,
  ⟨(some 14), none, .extract 0 (.t 11)⟩,
  ⟨(some 15), none, .extract 1 (.t 11)⟩,
  ⟨(some 5), none, .alloc 25 2 [.int .i64 (0), .int .i64 (0)]⟩,
  ⟨(some 4), none, .mv (.t 14)⟩,
  ⟨none, none, .store 2 (.t 5) (.t 15)⟩], false, []⟩
def Try.r_depgraph_Levels_2 : LReg := ⟨[⟨(some 16), none, .load 2 true (.t 5)⟩,
  ⟨(some 17), none, .build [.int .i64 (0), .int .i64 (0)] []⟩,
  ⟨(some 18), none, .eqs true [0, 0] (.t 16) (.t 17)⟩], false, []⟩
def Try.r_depgraph_Levels_3 : LReg := ⟨[⟨(some 19), none, .load 2 true (.t 5)⟩,
  ⟨(some 2), none, .mv (.c (.nils))⟩,
  ⟨none, none, .store 2 (.t 3) (.t 19)⟩], true, []⟩
def Try.r_depgraph_Levels_4 : LReg := ⟨[⟨(some 20), none, .mv (.t 0)⟩,
  ⟨(some 21), none, .len (.t 20)⟩,
  ⟨(some 22), none, .make 3 1 8 [.int .i64 (0)] (.t 21)⟩,
  ⟨(some 6), none, .mv (.t 22)⟩], false, []⟩
def Try.r_depgraph_Levels_5 : LReg := ⟨[⟨(some 23), none, .mv (.t 4)⟩,
  ⟨(some 24), none, .len (.t 23)⟩,
  ⟨(some 25), none, .mv (.c (.int .i64 (0)))⟩], false, []⟩
def Try.r_depgraph_Levels_6 : LReg := ⟨[⟨(some 26), none, .bin .lss (.t 25) (.t 24)⟩], false, []⟩
def Try.r_depgraph_Levels_7 : LReg := ⟨[⟨(some 27), none, .idx 1 (.t 23) (.t 25)⟩,
  ⟨(some 28), none, .load 1 false (.t 27)⟩,
  ⟨(some 8), none, .mv (.t 28)⟩], false, []⟩
def Try.r_depgraph_Levels_8 : LReg := ⟨[⟨(some 29), none, .mv (.t 0)⟩,
  ⟨(some 30), none, .mv (.t 8)⟩,
  ⟨(some 31), none, .idx 1 (.t 29) (.t 30)⟩,
  ⟨(some 32), none, .load 1 false (.t 31)⟩,
  ⟨(some 33), none, .len (.t 32)⟩,
  ⟨(some 34), none, .mv (.c (.int .i64 (0)))⟩], false, []⟩
def Try.r_depgraph_Levels_9 : LReg := ⟨[⟨(some 35), none, .bin .lss (.t 34) (.t 33)⟩], false, []⟩
def Try.r_depgraph_Levels_10 : LReg := ⟨[⟨(some 36), none, .idx 1 (.t 32) (.t 34)⟩,
  ⟨(some 37), none, .load 1 false (.t 36)⟩,
  ⟨(some 10), none, .mv (.t 37)⟩], false, []⟩
def Try.r_depgraph_Levels_11 : LReg := ⟨[⟨(some 38), none, .mv (.t 6)⟩,
  ⟨(some 39), none, .mv (.t 8)⟩,
  ⟨(some 40), none, .mv (.t 6)⟩,
  ⟨(some 41), none, .mv (.t 8)⟩,
  ⟨(some 42), none, .idx 1 (.t 40) (.t 41)⟩,
  ⟨(some 43), none, .load 1 false (.t 42)⟩,
  ⟨(some 44), none, .mv (.t 6)⟩,
  ⟨(some 45), none, .mv (.t 10)⟩,
  ⟨(some 46), none, .idx 1 (.t 44) (.t 45)⟩,
  ⟨(some 47), none, .load 1 false (.t 46)⟩,
  ⟨(some 48), none, .bin .add (.t 47) (.c (.int .i64 (1)))⟩,
  ⟨(some 49), none, .mx (.t 43) (.t 48)⟩,
  ⟨(some 50), none, .idx 1 (.t 38) (.t 39)⟩,
  ⟨none, none, .store 1 (.t 50) (.t 49)⟩], true, [(4, 8), (5, 8), (4, 9), (5, 9)]⟩
def Try.r_depgraph_Levels_12 : LReg := ⟨[⟨(some 51), none, .bin .add (.t 34) (.c (.int .i64 (1)))⟩,
  ⟨(some 34), none, .mv (.t 51)⟩], false, []⟩
def Try.r_depgraph_Levels_13 : LReg := ⟨[⟨(some 52), none, .bin .add (.t 25) (.c (.int .i64 (1)))⟩,
  ⟨(some 25), none, .mv (.t 52)⟩], false, []⟩
def Try.r_depgraph_Levels_14 : LReg := ⟨[⟨(some 53), none, .mv (.t 6)⟩,
  ⟨(some 54), none, .build [.int .i64 (0), .int .i64 (0)] []⟩,
  ⟨(some 2), none, .mv (.t 53)⟩,
  ⟨none, none, .store 2 (.t 3) (.t 54)⟩], false, []⟩
def Try.l_depgraph_Levels : LCode := (.seq (.reg Try.r_depgraph_Levels_0) (.seq (.reg Try.r_depgraph_Levels_1) (.seq (.seq (.reg Try.r_depgraph_Levels_2) (.cond (.t 18) (.seq (.reg Try.r_depgraph_Levels_3) .ret) .skip)) (.seq (.reg Try.r_depgraph_Levels_4) (.seq (.seq (.reg Try.r_depgraph_Levels_5) (.block 0 (.loop (.seq (.reg Try.r_depgraph_Levels_6) (.seq (.cond (.t 26) .skip (.exit 0)) (.seq (.block 1 (.seq (.reg Try.r_depgraph_Levels_7) (.seq (.reg Try.r_depgraph_Levels_8) (.block 2 (.loop (.seq (.reg Try.r_depgraph_Levels_9) (.seq (.cond (.t 35) .skip (.exit 2)) (.seq (.block 3 (.seq (.reg Try.r_depgraph_Levels_10) (.reg Try.r_depgraph_Levels_11))) (.reg Try.r_depgraph_Levels_12))))))))) (.reg Try.r_depgraph_Levels_13))))))) (.seq (.reg Try.r_depgraph_Levels_14) .ret))))))
theorem Try.c_depgraph_Levels : fnComp Try.prog 21 = some (55, Try.l_depgraph_Levels, [.t 2, .cell 3 2 true]) := by kernel_rfl

/- 10 changeforge/changeforgelaw6.graphs -/
def Try.r_law6_graphs_0 : LReg := ⟨[⟨(some 0), none, .mv (.c (.bool false))⟩], false, []⟩
def Try.r_law6_graphs_1 : LReg := ⟨[⟨(some 14), none, .mkSlice 3 1 1 [.int .i64 (0)] [(0, (.c (.int .i64 (1))))]⟩,
  ⟨(some 15), none, .mkSlice 23 1 2 [.nils] [(0, (.t 14)), (1, (.c (.nils)))]⟩,
  ⟨(some 1), none, .mv (.t 15)⟩], false, []⟩
def Try.r_law6_graphs_2 : LReg := ⟨[⟨(some 17), none, .mv (.t 1)⟩,
  ⟨(some 18), none, .call 20 [(.t 17)]⟩,
  ⟨(some 16), none, .mv (.t 18)⟩,
  ⟨(some 19), none, .extract 0 (.t 16)⟩,
  ⟨(some 20), none, .extract 1 (.t 16)⟩,
  ⟨(some 3), none, .alloc 25 2 [.int .i64 (0), .int .i64 (0)]⟩,
  ⟨(some 2), none, .mv (.t 19)⟩,
  ⟨none, none, .store 2 (.t 3) (.t 20)⟩], false, []⟩
def Try.r_law6_graphs_3 : LReg := ⟨[⟨(some 22), none, .mv (.t 1)⟩,
  ⟨(some 23), none, .call 21 [(.t 22)]⟩,
  ⟨(some 21), none, .mv (.t 23)⟩,
  ⟨(some 24), none, .extract 0 (.t 21)⟩,
  ⟨(some 25), none, .extract 1 (.t 21)⟩,
  ⟨(some 5), none, .alloc 25 2 [.int .i64 (0), .int .i64 (0)]⟩,
  ⟨(some 4), none, .mv (.t 24)⟩,
  ⟨none, none, .store 2 (.t 5) (.t 25)⟩], false, []⟩
def Try.r_law6_graphs_4 : LReg := ⟨[⟨(some 27), none, .mv (.t 1)⟩,
  ⟨(some 28), none, .mkSlice 3 1 1 [.int .i64 (0)] [(0, (.c (.int .i64 (1))))]⟩,
  ⟨(some 29), none, .call 17 [(.t 27), (.t 28)]⟩,
  ⟨(some 26), none, .mv (.t 29)⟩,
  ⟨(some 30), none, .extract 0 (.t 26)⟩,
  ⟨(some 31), none, .extract 1 (.t 26)⟩,
  ⟨(some 7), none, .alloc 25 2 [.int .i64 (0), .int .i64 (0)]⟩,
  ⟨(some 6), none, .mv (.t 30)⟩,
  ⟨none, none, .store 2 (.t 7) (.t 31)⟩], false, []⟩
def Try.r_law6_graphs_5 : LReg := ⟨[⟨(some 33), none, .mkSlice 3 1 1 [.int .i64 (0)] [(0, (.c (.int .i64 (0))))]⟩,
  ⟨(some 34), none, .mkSlice 23 1 1 [.nils] [(0, (.t 33))]⟩,
  ⟨(some 35), none, .call 12 [(.t 34)]⟩,
  ⟨(some 32), none, .mv (.t 35)⟩,
  ⟨(some 36), none, .extract 0 (.t 32)⟩,
  ⟨(some 37), none, .extract 1 (.t 32)⟩,
  ⟨(some 38), none, .extract 2 (.t 32)⟩,
  ⟨(some 10), none, .alloc 25 2 [.int .i64 (0), .int .i64 (0)]⟩,
  ⟨(some 8), none, .mv (.t 36)⟩,
  ⟨(some 9), none, .mv (.t 37)⟩,
  ⟨none, none, .store 2 (.t 10) (.t 38)⟩], false, []⟩
def Try.r_law6_graphs_6 : LReg := ⟨[⟨(some 40), none, .mkSlice 3 1 1 [.int .i64 (0)] [(0, (.c (.int .i64 (1))))]⟩,
  ⟨(some 41), none, .mkSlice 23 1 2 [.nils] [(0, (.c (.nils))), (1, (.t 40))]⟩,
  ⟨(some 42), none, .call 20 [(.t 41)]⟩,
  ⟨(some 39), none, .mv (.t 42)⟩,
  ⟨(some 43), none, .extract 0 (.t 39)⟩,
  ⟨(some 44), none, .extract 1 (.t 39)⟩,
  ⟨(some 12), none, .alloc 25 2 [.int .i64 (0), .int .i64 (0)]⟩,
  ⟨(some 11), none, .mv (.t 43)⟩,
  ⟨none, none, .store 2 (.t 12) (.t 44)⟩], false, []⟩
def Try.r_law6_graphs_7 : LReg := ⟨[⟨(some 45), none, .fieldAddr 0 (.t 3)⟩,
  ⟨(some 46), none, .load 1 false (.t 45)⟩,
  ⟨(some 47), none, .bin .eql (.t 46) (.c (.int .i64 (0)))⟩,
  ⟨(some 48), none, .mv (.t 47)⟩,
  ⟨(some 49), (some (48, true)), .fieldAddr 0 (.t 5)⟩,
  ⟨(some 50), (some (48, true)), .load 1 false (.t 49)⟩,
  ⟨(some 51), (some (48, true)), .bin .eql (.t 50) (.c (.int .i64 (0)))⟩,
  ⟨(some 52), none, .pick (.t 48) (.t 51) (.c (.bool false))⟩,
  ⟨(some 53), none, .mv (.t 52)⟩,
  ⟨(some 54), (some (53, true)), .fieldAddr 0 (.t 7)⟩,
  ⟨(some 55), (some (53, true)), .load 1 false (.t 54)⟩,
  ⟨(some 56), (some (53, true)), .bin .eql (.t 55) (.c (.int .i64 (0)))⟩,
  ⟨(some 57), none, .pick (.t 53) (.t 56) (.c (.bool false))⟩,
  ⟨(some 58), none, .mv (.t 57)⟩,
  ⟨(some 59), (some (58, true)), .fieldAddr 0 (.t 10)⟩,
  ⟨(some 60), (some (58, true)), .load 1 false (.t 59)⟩,
  ⟨(some 61), (some (58, true)), .bin .eql (.t 60) (.c (.int .i64 (0)))⟩,
  ⟨(some 62), none, .pick (.t 58) (.t 61) (.c (.bool false))⟩,
  ⟨(some 63), none, .mv (.t 62)⟩,
  ⟨(some 64), (some (63, true)), .load 2 true (.t 12)⟩,
  ⟨(some 65), (some (63, true)), .call 19 [(.c (.int .i64 (20))), (.c (.int .i64 (1)))]⟩,
  ⟨(some 66), (some (63, true)), .eqs false [0, 0] (.t 64) (.t 65)⟩,
  ⟨(some 67), none, .pick (.t 63) (.t 66) (.c (.bool false))⟩,
  ⟨(some 13), none, .mv (.t 67)⟩], true, [(19, 20)]⟩
def Try.r_law6_graphs_8 : LReg := ⟨[⟨(some 68), none, .mv (.t 13)⟩,
  ⟨(some 69), none, .mv (.t 68)⟩,
  ⟨(some 70), (some (69, true)), .mv (.t 2)⟩,
  ⟨(some 71), (some (69, true)), .mkSlice 3 1 2 [.int .i64 (0)] [(0, (.c (.int .i64 (1)))), (1, (.c (.int .i64 (0))))]⟩,
  ⟨(some 72), (some (69, true)), .call 14 [(.t 70), (.t 71)]⟩,
  ⟨(some 73), none, .pick (.t 69) (.t 72) (.c (.bool false))⟩,
  ⟨(some 74), none, .mv (.t 73)⟩,
  ⟨(some 75), (some (74, true)), .mv (.t 4)⟩,
  ⟨(some 76), (some (74, true)), .mkSlice 3 1 2 [.int .i64 (0)] [(0, (.c (.int .i64 (1)))), (1, (.c (.int .i64 (0))))]⟩,
  ⟨(some 77), (some (74, true)), .call 14 [(.t 75), (.t 76)]⟩,
  ⟨(some 78), none, .pick (.t 74) (.t 77) (.c (.bool false))⟩,
  ⟨(some 79), none, .mv (.t 78)⟩,
  ⟨(some 80), (some (79, true)), .mv (.t 6)⟩,
  ⟨(some 81), (some (79, true)), .mkSlice 3 1 2 [.int .i64 (0)] [(0, (.c (.int .i64 (0)))), (1, (.c (.int .i64 (1))))]⟩,
  ⟨(some 82), (some (79, true)), .call 14 [(.t 80), (.t 81)]⟩,
  ⟨(some 83), none, .pick (.t 79) (.t 82) (.c (.bool false))⟩,
  ⟨(some 84), none, .mv (.t 83)⟩,
  ⟨(some 85), (some (84, true)), .mv (.t 9)⟩,
  ⟨(some 86), none, .pick (.t 84) (.t 85) (.c (.bool false))⟩,
  ⟨(some 87), none, .mv (.t 86)⟩,
  ⟨(some 88), (some (87, true)), .mv (.t 8)⟩,
  ⟨(some 89), (some (87, true)), .mkSlice 3 1 1 [.int .i64 (0)] [(0, (.c (.int .i64 (0))))]⟩,
  ⟨(some 90), (some (87, true)), .call 14 [(.t 88), (.t 89)]⟩,
  ⟨(some 91), none, .pick (.t 87) (.t 90) (.c (.bool false))⟩,
  ⟨(some 92), none, .mv (.t 91)⟩,
  ⟨(some 93), (some (92, true)), .mkSlice 3 1 1 [.int .i64 (0)] [(0, (.c (.int .i64 (1))))]⟩,
  ⟨(some 94), (some (92, true)), .mkSlice 23 1 1 [.nils] [(0, (.t 93))]⟩,
  ⟨(some 95), (some (92, true)), .call 11 [(.t 94)]⟩,
  ⟨(some 96), (some (92, true)), .call 19 [(.c (.int .i64 (3))), (.c (.int .i64 (0)))]⟩,
  ⟨(some 97), (some (92, true)), .eqs false [0, 0] (.t 95) (.t 96)⟩,
  ⟨(some 98), none, .pick (.t 92) (.t 97) (.c (.bool false))⟩,
  ⟨(some 0), none, .mv (.t 98)⟩], false, []⟩
def Try.l_law6_graphs : LCode := (.seq (.reg Try.r_law6_graphs_0) (.seq (.reg Try.r_law6_graphs_1) (.seq (.reg Try.r_law6_graphs_2) (.seq (.reg Try.r_law6_graphs_3) (.seq (.reg Try.r_law6_graphs_4) (.seq (.reg Try.r_law6_graphs_5) (.seq (.reg Try.r_law6_graphs_6) (.seq (.reg Try.r_law6_graphs_7) (.seq (.reg Try.r_law6_graphs_8) .ret)))))))))
theorem Try.c_law6_graphs : fnComp Try.prog 10 = some (99, Try.l_law6_graphs, [.t 0]) := by kernel_rfl

/- 26 changeforge/changeforgeref5.Has -/
def Try.r_ref5_Has_0 : LReg := ⟨[⟨(some 4), none, .mv (.c (.bool false))⟩], false, []⟩
def Try.r_ref5_Has_1 : LReg := ⟨[⟨(some 5), none, .mv (.c (.int .i64 (0)))⟩], false, []⟩
def Try.r_ref5_Has_2 : LReg := ⟨[⟨(some 6), none, .mv (.t 5)⟩,
  ⟨(some 7), none, .mv (.t 0)⟩,
  ⟨(some 8), none, .len (.t 7)⟩,
  ⟨(some 9), none, .bin .lss (.t 6) (.t 8)⟩], false, []⟩
def Try.r_ref5_Has_3 : LReg := ⟨[⟨(some 12), none, .mv (.t 0)⟩,
  ⟨(some 13), none, .mv (.t 5)⟩,
  ⟨(some 14), none, .idx 1 (.t 12) (.t 13)⟩,
  ⟨(some 15), none, .load 1 false (.t 14)⟩,
  ⟨(some 16), none, .mv (.t 1)⟩,
  ⟨(some 17), none, .bin .eql (.t 15) (.t 16)⟩], false, []⟩
def Try.r_ref5_Has_4 : LReg := ⟨[⟨(some 4), none, .mv (.c (.bool true))⟩], false, []⟩
def Try.r_ref5_Has_5 : LReg := ⟨[⟨(some 10), none, .mv (.t 5)⟩,
  ⟨(some 11), none, .bin .add (.t 10) (.c (.int .i64 (1)))⟩,
  ⟨(some 5), none, .mv (.t 11)⟩], false, []⟩
def Try.r_ref5_Has_6 : LReg := ⟨[⟨(some 4), none, .mv (.c (.bool false))⟩], false, []⟩
def Try.l_ref5_Has : LCode := (.seq (.reg Try.r_ref5_Has_0) (.seq (.seq (.reg Try.r_ref5_Has_1) (.block 0 (.loop (.seq (.seq (.reg Try.r_ref5_Has_2) (.cond (.t 9) .skip (.exit 0))) (.seq (.block 1 (.seq (.reg Try.r_ref5_Has_3) (.cond (.t 17) (.seq (.reg Try.r_ref5_Has_4) .ret) .skip))) (.reg Try.r_ref5_Has_5)))))) (.seq (.reg Try.r_ref5_Has_6) .ret)))
theorem Try.c_ref5_Has : fnComp Try.prog 26 = some (18, Try.l_ref5_Has, [.t 4]) := by kernel_rfl

/- 33 changeforge/changeforgeref6.Distance -/
def Try.r_ref6_Distance_0 : LReg := ⟨[⟨(some 2), none, .mv (.c (.nils))⟩], false, []⟩
def Try.r_ref6_Distance_1 : LReg := ⟨[⟨(some 3), none, .mv (.c (.nils))⟩], false, []⟩
def Try.r_ref6_Distance_2 : LReg := ⟨[⟨(some 4), none, .mv (.c (.int .i64 (0)))⟩], false, []⟩
def Try.r_ref6_Distance_3 : LReg := ⟨[⟨(some 10), none, .mv (.t 4)⟩,
  ⟨(some 11), none, .mv (.t 0)⟩,
  ⟨(some 12), none, .len (.t 11)⟩,
  ⟨(some 13), none, .bin .lss (.t 10) (.t 12)⟩], false, []⟩
def Try.r_ref6_Distance_4 : LReg := ⟨[⟨(some 5), none, .mv (.c (.nils))⟩], false, []⟩
def Try.r_ref6_Distance_5 : LReg := ⟨[⟨(some 6), none, .mv (.c (.int .i64 (0)))⟩], false, []⟩
def Try.r_ref6_Distance_6 : LReg := ⟨[⟨(some 16), none, .mv (.t 6)⟩,
  ⟨(some 17), none, .mv (.t 0)⟩,
  ⟨(some 18), none, .len (.t 17)⟩,
  ⟨(some 19), none, .bin .lss (.t 16) (.t 18)⟩], false, []⟩
def Try.r_ref6_Distance_7 : LReg := ⟨[⟨(some 22), none, .mv (.t 0)⟩,
  ⟨(some 23), none, .mv (.t 4)⟩,
  ⟨(some 24), none, .idx 1 (.t 22) (.t 23)⟩,
  ⟨(some 25), none, .load 1 false (.t 24)⟩,
  ⟨(some 26), none, .mv (.t 6)⟩,
  ⟨(some 27), none, .call 26 [(.t 25), (.t 26)]⟩], false, []⟩
def Try.r_ref6_Distance_8 : LReg := ⟨[⟨(some 28), none, .mv (.t 5)⟩,
  ⟨(some 29), none, .mkSlice 3 1 1 [.int .i64 (0)] [(0, (.c (.int .i64 (1))))]⟩,
  ⟨(some 30), none, .append 3 1 8 (.t 28) (.t 29)⟩,
  ⟨(some 5), none, .mv (.t 30)⟩], false, []⟩
def Try.r_ref6_Distance_9 : LReg := ⟨[⟨(some 31), none, .mv (.t 5)⟩,
  ⟨(some 32), none, .mkSlice 3 1 1 [.int .i64 (0)] [(0, (.c (.int .i64 (1000))))]⟩,
  ⟨(some 33), none, .append 3 1 8 (.t 31) (.t 32)⟩,
  ⟨(some 5), none, .mv (.t 33)⟩], false, []⟩
def Try.r_ref6_Distance_10 : LReg := ⟨[⟨(some 20), none, .mv (.t 6)⟩,
  ⟨(some 21), none, .bin .add (.t 20) (.c (.int .i64 (1)))⟩,
  ⟨(some 6), none, .mv (.t 21)⟩], false, []⟩
def Try.r_ref6_Distance_11 : LReg := ⟨[⟨(some 34), none, .mv (.t 3)⟩,
  ⟨(some 35), none, .mv (.t 5)⟩,
  ⟨(some 36), none, .mkSlice 23 1 1 [.nils] [(0, (.t 35))]⟩,
  ⟨(some 37), none, .append 23 1 24 (.t 34) (.t 36)⟩,
  ⟨(some 3), none, .mv (.t 37)⟩], false, []⟩
def Try.r_ref6_Distance_12 : LReg := ⟨[⟨(some 14), none, .mv (.t 4)⟩,
  ⟨(some 15), none, .bin .add (.t 14) (.c (.int .i64 (1)))⟩,
  ⟨(some 4), none, .mv (.t 15)⟩], false, []⟩
def Try.r_ref6_Distance_13 : LReg := ⟨[⟨(some 7), none, .mv (.c (.int .i64 (0)))⟩], false, []⟩
def Try.r_ref6_Distance_14 : LReg := ⟨[⟨(some 38), none, .mv (.t 7)⟩,
  ⟨(some 39), none, .mv (.t 0)⟩,
  ⟨(some 40), none, .len (.t 39)⟩,
  ⟨(some 41), none, .bin .lss (.t 38) (.t 40)⟩], false, []⟩
def Try.r_ref6_Distance_15 : LReg := ⟨[⟨(some 8), none, .mv (.c (.int .i64 (0)))⟩], false, []⟩
def Try.r_ref6_Distance_16 : LReg := ⟨[⟨(some 44), none, .mv (.t 8)⟩,
  ⟨(some 45), none, .mv (.t 0)⟩,
  ⟨(some 46), none, .len (.t 45)⟩,
  ⟨(some 47), none, .bin .lss (.t 44) (.t 46)⟩], false, []⟩
def Try.r_ref6_Distance_17 : LReg := ⟨[⟨(some 9), none, .mv (.c (.int .i64 (0)))⟩], false, []⟩
def Try.r_ref6_Distance_18 : LReg := ⟨[⟨(some 50), none, .mv (.t 9)⟩,
  ⟨(some 51), none, .mv (.t 0)⟩,
  ⟨(some 52), none, .len (.t 51)⟩,
  ⟨(some 53), none, .bin .lss (.t 50) (.t 52)⟩], false, []⟩
def Try.r_ref6_Distance_19 : LReg := ⟨[⟨(some 56), none, .mv (.t 3)⟩,
  ⟨(some 57), none, .mv (.t 8)⟩,
  ⟨(some 58), none, .idx 1 (.t 56) (.t 57)⟩,
  ⟨(some 59), none, .load 1 false (.t 58)⟩,
  ⟨(some 60), none, .mv (.t 7)⟩,
  ⟨(some 61), none, .idx 1 (.t 59) (.t 60)⟩,
  ⟨(some 62), none, .load 1 false (.t 61)⟩,
  ⟨(some 63), none, .mv (.t 3)⟩,
  ⟨(some 64), none, .mv (.t 7)⟩,
  ⟨(some 65), none, .idx 1 (.t 63) (.t 64)⟩,
  ⟨(some 66), none, .load 1 false (.t 65)⟩,
  ⟨(some 67), none, .mv (.t 9)⟩,
  ⟨(some 68), none, .idx 1 (.t 66) (.t 67)⟩,
  ⟨(some 69), none, .load 1 false (.t 68)⟩,
  ⟨(some 70), none, .bin .add (.t 62) (.t 69)⟩,
  ⟨(some 71), none, .mv (.t 3)⟩,
  ⟨(some 72), none, .mv (.t 8)⟩,
  ⟨(some 73), none, .idx 1 (.t 71) (.t 72)⟩,
  ⟨(some 74), none, .load 1 false (.t 73)⟩,
  ⟨(some 75), none, .mv (.t 9)⟩,
  ⟨(some 76), none, .idx 1 (.t 74) (.t 75)⟩,
  ⟨(some 77), none, .load 1 false (.t 76)⟩,
  ⟨(some 78), none, .bin .lss (.t 70) (.t 77)⟩], true, [(2, 9), (3, 9), (5, 9), (6, 9), (2, 10), (3, 10), (5, 10), (6, 10), (2, 12), (3, 12), (5, 12), (6, 12), (2, 13), (3, 13), (5, 13), (6, 13), (2, 17), (3, 17), (5, 17), (6, 17), (9, 17), (10, 17), (12, 17), (13, 17), (2, 18), (3, 18), (5, 18), (6, 18), (9, 18), (10, 18), (12, 18), (13, 18), (2, 20), (3, 20), (5, 20), (6, 20), (9, 20), (10, 20), (12, 20), (13, 20), (2, 21), (3, 21), (5, 21), (6, 21), (9, 21), (10, 21), (12, 21), (13, 21)]⟩
def Try.r_ref6_Distance_20 : LReg := ⟨[⟨(some 79), none, .mv (.t 3)⟩,
  ⟨(some 80), none, .mv (.t 8)⟩,
  ⟨(some 81), none, .idx 1 (.t 79) (.t 80)⟩,
  ⟨(some 82), none, .load 1 false (.t 81)⟩,
  ⟨(some 83), none, .mv (.t 9)⟩,
  ⟨(some 84), none, .mv (.t 3)⟩,
  ⟨(some 85), none, .mv (.t 8)⟩,
  ⟨(some 86), none, .idx 1 (.t 84) (.t 85)⟩,
  ⟨(some 87), none, .load 1 false (.t 86)⟩,
  ⟨(some 88), none, .mv (.t 7)⟩,
  ⟨(some 89), none, .idx 1 (.t 87) (.t 88)⟩,
  ⟨(some 90), none, .load 1 false (.t 89)⟩,
  ⟨(some 91), none, .mv (.t 3)⟩,
  ⟨(some 92), none, .mv (.t 7)⟩,
  ⟨(some 93), none, .idx 1 (.t 91) (.t 92)⟩,
  ⟨(some 94), none, .load 1 false (.t 93)⟩,
  ⟨(some 95), none, .mv (.t 9)⟩,
  ⟨(some 96), none, .idx 1 (.t 94) (.t 95)⟩,
  ⟨(some 97), none, .load 1 false (.t 96)⟩,
  ⟨(some 98), none, .bin .add (.t 90) (.t 97)⟩,
  ⟨(some 99), none, .idx 1 (.t 82) (.t 83)⟩,
  ⟨none, none, .store 1 (.t 99) (.t 98)⟩], true, [(2, 7), (3, 7), (2, 8), (3, 8), (2, 10), (3, 10), (2, 11), (3, 11), (2, 14), (3, 14), (7, 14), (8, 14), (10, 14), (11, 14), (2, 15), (3, 15), (7, 15), (8, 15), (10, 15), (11, 15), (2, 17), (3, 17), (7, 17), (8, 17), (10, 17), (11, 17), (2, 18), (3, 18), (7, 18), (8, 18), (10, 18), (11, 18)]⟩
def Try.r_ref6_Distance_21 : LReg := ⟨[⟨(some 54), none, .mv (.t 9)⟩,
  ⟨(some 55), none, .bin .add (.t 54) (.c (.int .i64 (1)))⟩,
  ⟨(some 9), none, .mv (.t 55)⟩], false, []⟩
def Try.r_ref6_Distance_22 : LReg := ⟨[⟨(some 48), none, .mv (.t 8)⟩,
  ⟨(some 49), none, .bin .add (.t 48) (.c (.int .i64 (1)))⟩,
  ⟨(some 8), none, .mv (.t 49)⟩], false, []⟩
def Try.r_ref6_Distance_23 : LReg := ⟨[⟨(some 42), none, .mv (.t 7)⟩,
  ⟨(some 43), none, .bin .add (.t 42) (.c (.int .i64 (1)))⟩,
  ⟨(some 7), none, .mv (.t 43)⟩], false, []⟩
def Try.r_ref6_Distance_24 : LReg := ⟨[⟨(some 100), none, .mv (.t 3)⟩,
  ⟨(some 2), none, .mv (.t 100)⟩], false, []⟩
def Try.l_ref6_Distance : LCode := (.seq (.reg Try.r_ref6_Distance_0) (.seq (.reg Try.r_ref6_Distance_1) (.seq (.seq (.reg Try.r_ref6_Distance_2) (.block 0 (.loop (.seq (.seq (.reg Try.r_ref6_Distance_3) (.cond (.t 13) .skip (.exit 0))) (.seq (.block 1 (.seq (.reg Try.r_ref6_Distance_4) (.seq (.seq (.reg Try.r_ref6_Distance_5) (.block 2 (.loop (.seq (.seq (.reg Try.r_ref6_Distance_6) (.cond (.t 19) .skip (.exit 2))) (.seq (.block 3 (.seq (.reg Try.r_ref6_Distance_7) (.cond (.t 27) (.reg Try.r_ref6_Distance_8) (.reg Try.r_ref6_Distance_9)))) (.reg Try.r_ref6_Distance_10)))))) (.reg Try.r_ref6_Distance_11)))) (.reg Try.r_ref6_Distance_12)))))) (.seq (.seq (.reg Try.r_ref6_Distance_13) (.block 4 (.loop (.seq (.seq (.reg Try.r_ref6_Distance_14) (.cond (.t 41) .skip (.exit 4))) (.seq (.block 5 (.seq (.reg Try.r_ref6_Distance_15) (.block 6 (.loop (.seq (.seq (.reg Try.r_ref6_Distance_16) (.cond (.t 47) .skip (.exit 6))) (.seq (.block 7 (.seq (.reg Try.r_ref6_Distance_17) (.block 8 (.loop (.seq (.seq (.reg Try.r_ref6_Distance_18) (.cond (.t 53) .skip (.exit 8))) (.seq (.block 9 (.seq (.reg Try.r_ref6_Distance_19) (.cond (.t 78) (.reg Try.r_ref6_Distance_20) .skip))) (.reg Try.r_ref6_Distance_21))))))) (.reg Try.r_ref6_Distance_22))))))) (.reg Try.r_ref6_Distance_23)))))) (.seq (.reg Try.r_ref6_Distance_24) .ret)))))
theorem Try.c_ref6_Distance : fnComp Try.prog 33 = some (101, Try.l_ref6_Distance, [.t 2]) := by kernel_rfl

/- 13 changeforge/changeforgeref6.FirstOnCycle -/
def Try.r_ref6_FirstOnCycle_0 : LReg := ⟨[⟨(some 2), none, .mv (.c (.int .i64 (0)))⟩], false, []⟩
def Try.r_ref6_FirstOnCycle_1 : LReg := ⟨[⟨(some 5), none, .mv (.t 0)⟩,
  ⟨(some 6), none, .call 33 [(.t 5)]⟩,
  ⟨(some 3), none, .mv (.t 6)⟩], false, []⟩
def Try.r_ref6_FirstOnCycle_2 : LReg := ⟨[⟨(some 4), none, .mv (.c (.int .i64 (0)))⟩], false, []⟩
def Try.r_ref6_FirstOnCycle_3 : LReg := ⟨[⟨(some 7), none, .mv (.t 4)⟩,
  ⟨(some 8), none, .mv (.t 0)⟩,
  ⟨(some 9), none, .len (.t 8)⟩,
  ⟨(some 10), none, .bin .lss (.t 7) (.t 9)⟩], false, []⟩
def Try.r_ref6_FirstOnCycle_4 : LReg := ⟨[⟨(some 13), none, .mv (.t 3)⟩,
  ⟨(some 14), none, .mv (.t 4)⟩,
  ⟨(some 15), none, .idx 1 (.t 13) (.t 14)⟩,
  ⟨(some 16), none, .load 1 false (.t 15)⟩,
  ⟨(some 17), none, .mv (.t 4)⟩,
  ⟨(some 18), none, .idx 1 (.t 16) (.t 17)⟩,
  ⟨(some 19), none, .load 1 false (.t 18)⟩,
  ⟨(some 20), none, .bin .lss (.t 19) (.c (.int .i64 (1000)))⟩], false, []⟩
def Try.r_ref6_FirstOnCycle_5 : LReg := ⟨[⟨(some 21), none, .mv (.t 4)⟩,
  ⟨(some 2), none, .mv (.t 21)⟩], false, []⟩
def Try.r_ref6_FirstOnCycle_6 : LReg := ⟨[⟨(some 11), none, .mv (.t 4)⟩,
  ⟨(some 12), none, .bin .add (.t 11) (.c (.int .i64 (1)))⟩,
  ⟨(some 4), none, .mv (.t 12)⟩], false, []⟩
def Try.r_ref6_FirstOnCycle_7 : LReg := ⟨[⟨(some 2), none, .mv (.c (.int .i64 (-1)))⟩], false, []⟩
def Try.l_ref6_FirstOnCycle : LCode := (.seq (.reg Try.r_ref6_FirstOnCycle_0) (.seq (.reg Try.r_ref6_FirstOnCycle_1) (.seq (.seq (.reg Try.r_ref6_FirstOnCycle_2) (.block 0 (.loop (.seq (.seq (.reg Try.r_ref6_FirstOnCycle_3) (.cond (.t 10) .skip (.exit 0))) (.seq (.block 1 (.seq (.reg Try.r_ref6_FirstOnCycle_4) (.cond (.t 20) (.seq (.reg Try.r_ref6_FirstOnCycle_5) .ret) .skip))) (.reg Try.r_ref6_FirstOnCycle_6)))))) (.seq (.reg Try.r_ref6_FirstOnCycle_7) .ret))))
theorem Try.c_ref6_FirstOnCycle : fnComp Try.prog 13 = some (22, Try.l_ref6_FirstOnCycle, [.t 2]) := by kernel_rfl

/- 15 changeforge/changeforgeref6.ShortestCycle -/
def Try.r_ref6_ShortestCycle_0 : LReg := ⟨[⟨(some 4), none, .mv (.c (.nils))⟩], false, []⟩
def Try.r_ref6_ShortestCycle_1 : LReg := ⟨[⟨(some 11), none, .mv (.t 0)⟩,
  ⟨(some 12), none, .call 33 [(.t 11)]⟩,
  ⟨(some 5), none, .mv (.t 12)⟩], false, []⟩
def Try.r_ref6_ShortestCycle_2 : LReg := ⟨[⟨(some 13), none, .mv (.t 1)⟩,
  ⟨(some 14), none, .mkSlice 3 1 1 [.int .i64 (0)] [(0, (.t 13))]⟩,
  ⟨(some 6), none, .mv (.t 14)⟩], false, []⟩
def Try.r_ref6_ShortestCycle_3 : LReg := ⟨[⟨(some 15), none, .mv (.t 1)⟩,
  ⟨(some 7), none, .mv (.t 15)⟩], false, []⟩
def Try.r_ref6_ShortestCycle_4 : LReg := ⟨[⟨(some 16), none, .mv (.t 5)⟩,
  ⟨(some 17), none, .mv (.t 1)⟩,
  ⟨(some 18), none, .idx 1 (.t 16) (.t 17)⟩,
  ⟨(some 19), none, .load 1 false (.t 18)⟩,
  ⟨(some 20), none, .mv (.t 1)⟩,
  ⟨(some 21), none, .idx 1 (.t 19) (.t 20)⟩,
  ⟨(some 22), none, .load 1 false (.t 21)⟩,
  ⟨(some 23), none, .bin .sub (.t 22) (.c (.int .i64 (1)))⟩,
  ⟨(some 8), none, .mv (.t 23)⟩], false, []⟩
def Try.r_ref6_ShortestCycle_5 : LReg := ⟨[⟨(some 24), none, .mv (.t 8)⟩,
  ⟨(some 25), none, .bin .gtr (.t 24) (.c (.int .i64 (0)))⟩], false, []⟩
def Try.r_ref6_ShortestCycle_6 : LReg := ⟨[⟨(some 9), none, .mv (.c (.int .i64 (-1)))⟩], false, []⟩
def Try.r_ref6_ShortestCycle_7 : LReg := ⟨[⟨(some 28), none, .mv (.t 0)⟩,
  ⟨(some 29), none, .len (.t 28)⟩,
  ⟨(some 30), none, .bin .sub (.t 29) (.c (.int .i64 (1)))⟩,
  ⟨(some 10), none, .mv (.t 30)⟩], false, []⟩
def Try.r_ref6_ShortestCycle_8 : LReg := ⟨[⟨(some 31), none, .mv (.t 10)⟩,
  ⟨(some 32), none, .bin .geq (.t 31) (.c (.int .i64 (0)))⟩], false, []⟩
def Try.r_ref6_ShortestCycle_9 : LReg := ⟨[⟨(some 35), none, .mv (.t 0)⟩,
  ⟨(some 36), none, .mv (.t 7)⟩,
  ⟨(some 37), none, .idx 1 (.t 35) (.t 36)⟩,
  ⟨(some 38), none, .load 1 false (.t 37)⟩,
  ⟨(some 39), none, .mv (.t 10)⟩,
  ⟨(some 40), none, .call 26 [(.t 38), (.t 39)]⟩,
  ⟨(some 41), none, .mv (.t 40)⟩,
  ⟨(some 42), (some (41, true)), .mv (.t 10)⟩,
  ⟨(some 43), (some (41, true)), .mv (.t 1)⟩,
  ⟨(some 44), (some (41, true)), .bin .neq (.t 42) (.t 43)⟩,
  ⟨(some 45), none, .pick (.t 41) (.t 44) (.c (.bool false))⟩,
  ⟨(some 46), none, .mv (.t 45)⟩,
  ⟨(some 47), (some (46, true)), .mv (.t 5)⟩,
  ⟨(some 48), (some (46, true)), .mv (.t 10)⟩,
  ⟨(some 49), (some (46, true)), .idx 1 (.t 47) (.t 48)⟩,
  ⟨(some 50), (some (46, true)), .load 1 false (.t 49)⟩,
  ⟨(some 51), (some (46, true)), .mv (.t 1)⟩,
  ⟨(some 52), (some (46, true)), .idx 1 (.t 50) (.t 51)⟩,
  ⟨(some 53), (some (46, true)), .load 1 false (.t 52)⟩,
  ⟨(some 54), (some (46, true)), .mv (.t 8)⟩,
  ⟨(some 55), (some (46, true)), .bin .eql (.t 53) (.t 54)⟩,
  ⟨(some 56), none, .pick (.t 46) (.t 55) (.c (.bool false))⟩], false, []⟩
def Try.r_ref6_ShortestCycle_10 : LReg := ⟨[⟨(some 57), none, .mv (.t 10)⟩,
  ⟨(some 9), none, .mv (.t 57)⟩], false, []⟩
def Try.r_ref6_ShortestCycle_11 : LReg := ⟨[⟨(some 33), none, .mv (.t 10)⟩,
  ⟨(some 34), none, .bin .sub (.t 33) (.c (.int .i64 (1)))⟩,
  ⟨(some 10), none, .mv (.t 34)⟩], false, []⟩
def Try.r_ref6_ShortestCycle_12 : LReg := ⟨[⟨(some 58), none, .mv (.t 6)⟩,
  ⟨(some 59), none, .mv (.t 9)⟩,
  ⟨(some 60), none, .mkSlice 3 1 1 [.int .i64 (0)] [(0, (.t 59))]⟩,
  ⟨(some 61), none, .append 3 1 8 (.t 58) (.t 60)⟩,
  ⟨(some 6), none, .mv (.t 61)⟩], false, []⟩
def Try.r_ref6_ShortestCycle_13 : LReg := ⟨[⟨(some 62), none, .mv (.t 9)⟩,
  ⟨(some 7), none, .mv (.t 62)⟩], false, []⟩
def Try.r_ref6_ShortestCycle_14 : LReg := ⟨[⟨(some 26), none, .mv (.t 8)⟩,
  ⟨(some 27), none, .bin .sub (.t 26) (.c (.int .i64 (1)))⟩,
  ⟨(some 8), none, .mv (.t 27)⟩], false, []⟩
def Try.r_ref6_ShortestCycle_15 : LReg := ⟨[⟨(some 63), none, .mv (.t 6)⟩,
  ⟨(some 4), none, .mv (.t 63)⟩], false, []⟩
def Try.l_ref6_ShortestCycle : LCode := (.seq (.reg Try.r_ref6_ShortestCycle_0) (.seq (.reg Try.r_ref6_ShortestCycle_1) (.seq (.reg Try.r_ref6_ShortestCycle_2) (.seq (.reg Try.r_ref6_ShortestCycle_3) (.seq (.seq (.reg Try.r_ref6_ShortestCycle_4) (.block 0 (.loop (.seq (.seq (.reg Try.r_ref6_ShortestCycle_5) (.cond (.t 25) .skip (.exit 0))) (.seq (.block 1 (.seq (.reg Try.r_ref6_ShortestCycle_6) (.seq (.seq (.reg Try.r_ref6_ShortestCycle_7) (.block 2 (.loop (.seq (.seq (.reg Try.r_ref6_ShortestCycle_8) (.cond (.t 32) .skip (.exit 2))) (.seq (.block 3 (.seq (.reg Try.r_ref6_ShortestCycle_9) (.cond (.t 56) (.reg Try.r_ref6_ShortestCycle_10) .skip))) (.reg Try.r_ref6_ShortestCycle_11)))))) (.seq (.reg Try.r_ref6_ShortestCycle_12) (.reg Try.r_ref6_ShortestCycle_13))))) (.reg Try.r_ref6_ShortestCycle_14)))))) (.seq (.reg Try.r_ref6_ShortestCycle_15) .ret))))))
theorem Try.c_ref6_ShortestCycle : fnComp Try.prog 15 = some (64, Try.l_ref6_ShortestCycle, [.t 4]) := by kernel_rfl

/- 16 changeforge/changeforgeref6.ChangedFault -/
def Try.r_ref6_ChangedFault_0 : LReg := ⟨[⟨(some 4), none, .alloc 25 2 [.int .i64 (0), .int .i64 (0)]⟩], false, []⟩
def Try.r_ref6_ChangedFault_1 : LReg := ⟨[⟨(some 7), none, .mv (.t 0)⟩,
  ⟨(some 8), none, .call 9 [(.t 7)]⟩,
  ⟨(some 5), none, .alloc 25 2 [.int .i64 (0), .int .i64 (0)]⟩,
  ⟨none, none, .store 2 (.t 5) (.t 8)⟩], false, []⟩
def Try.r_ref6_ChangedFault_2 : LReg := ⟨[⟨(some 9), none, .fieldAddr 0 (.t 5)⟩,
  ⟨(some 10), none, .load 1 false (.t 9)⟩,
  ⟨(some 11), none, .bin .eql (.t 10) (.c (.int .i64 (0)))⟩], false, []⟩
def Try.r_ref6_ChangedFault_3 : LReg := ⟨[⟨(some 12), none, .mv (.t 0)⟩,
  ⟨(some 13), none, .len (.t 12)⟩,
  ⟨(some 14), none, .mv (.t 1)⟩,
  ⟨(some 15), none, .call 29 [(.t 13), (.t 14)]⟩,
  ⟨(some 6), none, .mv (.t 15)⟩], false, []⟩
def Try.r_ref6_ChangedFault_4 : LReg := ⟨[⟨(some 16), none, .mv (.t 6)⟩,
  ⟨(some 17), none, .bin .neq (.t 16) (.c (.int .i64 (0)))⟩], false, []⟩
def Try.r_ref6_ChangedFault_5 : LReg := ⟨[⟨(some 18), none, .mv (.t 6)⟩,
  ⟨(some 19), none, .call 28 [(.t 18), (.c (.int .i64 (-2)))]⟩,
  ⟨none, none, .store 2 (.t 5) (.t 19)⟩], false, []⟩
def Try.r_ref6_ChangedFault_6 : LReg := ⟨[⟨(some 20), none, .load 2 true (.t 5)⟩,
  ⟨none, none, .store 2 (.t 4) (.t 20)⟩], false, []⟩
def Try.l_ref6_ChangedFault : LCode := (.seq (.reg Try.r_ref6_ChangedFault_0) (.seq (.reg Try.r_ref6_ChangedFault_1) (.seq (.seq (.reg Try.r_ref6_ChangedFault_2) (.cond (.t 11) (.seq (.reg Try.r_ref6_ChangedFault_3) (.seq (.reg Try.r_ref6_ChangedFault_4) (.cond (.t 17) (.reg Try.r_ref6_ChangedFault_5) .skip))) .skip)) (.seq (.reg Try.r_ref6_ChangedFault_6) .ret))))
theorem Try.c_ref6_ChangedFault : fnComp Try.prog 16 = some (21, Try.l_ref6_ChangedFault, [.cell 4 2 true]) := by kernel_rfl

/- 18 changeforge/changeforgeref6.Affected -/
def Try.r_ref6_Affected_0 : LReg := ⟨[⟨(some 4), none, .mv (.c (.nils))⟩], false, []⟩
def Try.r_ref6_Affected_1 : LReg := ⟨[⟨(some 10), none, .mv (.t 0)⟩,
  ⟨(some 11), none, .call 33 [(.t 10)]⟩,
  ⟨(some 5), none, .mv (.t 11)⟩], false, []⟩
def Try.r_ref6_Affected_2 : LReg := ⟨[⟨(some 6), none, .mv (.c (.nils))⟩], false, []⟩
def Try.r_ref6_Affected_3 : LReg := ⟨[⟨(some 7), none, .mv (.c (.int .i64 (0)))⟩], false, []⟩
def Try.r_ref6_Affected_4 : LReg := ⟨[⟨(some 12), none, .mv (.t 7)⟩,
  ⟨(some 13), none, .mv (.t 0)⟩,
  ⟨(some 14), none, .len (.t 13)⟩,
  ⟨(some 15), none, .bin .lss (.t 12) (.t 14)⟩], false, []⟩
def Try.r_ref6_Affected_5 : LReg := ⟨[⟨(some 18), none, .mv (.t 1)⟩,
  ⟨(some 19), none, .mv (.t 7)⟩,
  ⟨(some 20), none, .call 26 [(.t 18), (.t 19)]⟩,
  ⟨(some 8), none, .mv (.t 20)⟩], false, []⟩
def Try.r_ref6_Affected_6 : LReg := ⟨[⟨(some 9), none, .mv (.c (.int .i64 (0)))⟩], false, []⟩
def Try.r_ref6_Affected_7 : LReg := ⟨[⟨(some 21), none, .mv (.t 9)⟩,
  ⟨(some 22), none, .mv (.t 1)⟩,
  ⟨(some 23), none, .len (.t 22)⟩,
  ⟨(some 24), none, .bin .lss (.t 21) (.t 23)⟩], false, []⟩
def Try.r_ref6_Affected_8 : LReg := ⟨[⟨(some 27), none, .mv (.t 8)⟩,
  ⟨(some 28), none, .mv (.t 27)⟩,
  ⟨(some 29), (some (28, false)), .mv (.t 5)⟩,
  ⟨(some 30), (some (28, false)), .mv (.t 7)⟩,
  ⟨(some 31), (some (28, false)), .idx 1 (.t 29) (.t 30)⟩,
  ⟨(some 32), (some (28, false)), .load 1 false (.t 31)⟩,
  ⟨(some 33), (some (28, false)), .mv (.t 1)⟩,
  ⟨(some 34), (some (28, false)), .mv (.t 9)⟩,
  ⟨(some 35), (some (28, false)), .idx 1 (.t 33) (.t 34)⟩,
  ⟨(some 36), (some (28, false)), .load 1 false (.t 35)⟩,
  ⟨(some 37), (some (28, false)), .idx 1 (.t 32) (.t 36)⟩,
  ⟨(some 38), (some (28, false)), .load 1 false (.t 37)⟩,
  ⟨(some 39), (some (28, false)), .bin .lss (.t 38) (.c (.int .i64 (1000)))⟩,
  ⟨(some 40), none, .pick (.t 28) (.c (.bool true)) (.t 39)⟩,
  ⟨(some 8), none, .mv (.t 40)⟩], true, [(4, 8), (5, 8), (4, 9), (5, 9)]⟩
def Try.r_ref6_Affected_9 : LReg := ⟨[⟨(some 25), none, .mv (.t 9)⟩,
  ⟨(some 26), none, .bin .add (.t 25) (.c (.int .i64 (1)))⟩,
  ⟨(some 9), none, .mv (.t 26)⟩], false, []⟩
def Try.r_ref6_Affected_10 : LReg := ⟨[⟨(some 41), none, .mv (.t 8)⟩], false, []⟩
def Try.r_ref6_Affected_11 : LReg := ⟨[⟨(some 42), none, .mv (.t 6)⟩,
  ⟨(some 43), none, .mv (.t 7)⟩,
  ⟨(some 44), none, .mkSlice 3 1 1 [.int .i64 (0)] [(0, (.t 43))]⟩,
  ⟨(some 45), none, .append 3 1 8 (.t 42) (.t 44)⟩,
  ⟨(some 6), none, .mv (.t 45)⟩], false, []⟩
def Try.r_ref6_Affected_12 : LReg := ⟨[⟨(some 16), none, .mv (.t 7)⟩,
  ⟨(some 17), none, .bin .add (.t 16) (.c (.int .i64 (1)))⟩,
  ⟨(some 7), none, .mv (.t 17)⟩], false, []⟩
def Try.r_ref6_Affected_13 : LReg := ⟨[⟨(some 46), none, .mv (.t 6)⟩,
  ⟨(some 4), none, .mv (.t 46)⟩], false, []⟩
def Try.l_ref6_Affected : LCode := (.seq (.reg Try.r_ref6_Affected_0) (.seq (.reg Try.r_ref6_Affected_1) (.seq (.reg Try.r_ref6_Affected_2) (.seq (.seq (.reg Try.r_ref6_Affected_3) (.block 0 (.loop (.seq (.seq (.reg Try.r_ref6_Affected_4) (.cond (.t 15) .skip (.exit 0))) (.seq (.block 1 (.seq (.reg Try.r_ref6_Affected_5) (.seq (.seq (.reg Try.r_ref6_Affected_6) (.block 2 (.loop (.seq (.seq (.reg Try.r_ref6_Affected_7) (.cond (.t 24) .skip (.exit 2))) (.seq (.block 3 (.reg Try.r_ref6_Affected_8)) (.reg Try.r_ref6_Affected_9)))))) (.seq (.reg Try.r_ref6_Affected_10) (.cond (.t 41) (.reg Try.r_ref6_Affected_11) .skip))))) (.reg Try.r_ref6_Affected_12)))))) (.seq (.reg Try.r_ref6_Affected_13) .ret)))))
theorem Try.c_ref6_Affected : fnComp Try.prog 18 = some (47, Try.l_ref6_Affected, [.t 4]) := by kernel_rfl

/- 3 changeforge/changeforgelaw6.DepgraphMatchesSpec -/
def Try.r_law6_DepgraphMatchesSpec_0 : LReg := ⟨[⟨(some 4), none, .mv (.c (.bool false))⟩], false, []⟩
def Try.r_law6_DepgraphMatchesSpec_1 : LReg := ⟨[⟨(some 11), none, .mv (.t 0)⟩,
  ⟨(some 12), none, .call 9 [(.t 11)]⟩,
  ⟨(some 5), none, .alloc 25 2 [.int .i64 (0), .int .i64 (0)]⟩,
  ⟨none, none, .store 2 (.t 5) (.t 12)⟩], false, []⟩
def Try.r_law6_DepgraphMatchesSpec_2 : LReg := ⟨[⟨(some 13), none, .call 10 []⟩,
  ⟨(some 14), none, .un .not (.t 13)⟩,
  ⟨(some 15), none, .mv (.t 14)⟩,
  ⟨(some 16), (some (15, false)), .mv (.t 0)⟩,
  ⟨(some 17), (some (15, false)), .call 11 [(.t 16)]⟩,
  ⟨(some 18), (some (15, false)), .load 2 true (.t 5)⟩,
  ⟨(some 19), (some (15, false)), .eqs true [0, 0] (.t 17) (.t 18)⟩,
  ⟨(some 20), none, .pick (.t 15) (.c (.bool true)) (.t 19)⟩], true, [(4, 5)]⟩
def Try.r_law6_DepgraphMatchesSpec_3 : LReg := ⟨[⟨(some 4), none, .mv (.c (.bool false))⟩], false, []⟩
def Try.r_law6_DepgraphMatchesSpec_4 : LReg := ⟨[⟨(some 22), none, .mv (.t 0)⟩,
  ⟨(some 23), none, .call 12 [(.t 22)]⟩,
  ⟨(some 21), none, .mv (.t 23)⟩,
  ⟨(some 24), none, .extract 0 (.t 21)⟩,
  ⟨(some 25), none, .extract 1 (.t 21)⟩,
  ⟨(some 26), none, .extract 2 (.t 21)⟩,
  ⟨(some 8), none, .alloc 25 2 [.int .i64 (0), .int .i64 (0)]⟩,
  ⟨(some 6), none, .mv (.t 24)⟩,
  ⟨(some 7), none, .mv (.t 25)⟩,
  ⟨none, none, .store 2 (.t 8) (.t 26)⟩], false, []⟩
def Try.r_law6_DepgraphMatchesSpec_5 : LReg := ⟨[⟨(some 27), none, .load 2 true (.t 8)⟩,
  ⟨(some 28), none, .load 2 true (.t 5)⟩,
  ⟨(some 29), none, .eqs true [0, 0] (.t 27) (.t 28)⟩,
  ⟨(some 30), none, .mv (.t 29)⟩,
  ⟨(some 31), (some (30, false)), .fieldAddr 0 (.t 5)⟩,
  ⟨(some 32), (some (30, false)), .load 1 false (.t 31)⟩,
  ⟨(some 33), (some (30, false)), .bin .neq (.t 32) (.c (.int .i64 (0)))⟩,
  ⟨(some 34), (some (30, false)), .mv (.t 33)⟩,
  ⟨(some 35), (some (34, true)), .mv (.t 7)⟩,
  ⟨(some 36), (some (34, true)), .mv (.t 35)⟩,
  ⟨(some 37), (some (36, false)), .mv (.t 6)⟩,
  ⟨(some 38), (some (36, false)), .len (.t 37)⟩,
  ⟨(some 39), (some (36, false)), .bin .gtr (.t 38) (.c (.int .i64 (0)))⟩,
  ⟨(some 40), (some (34, true)), .pick (.t 36) (.c (.bool true)) (.t 39)⟩,
  ⟨(some 41), (some (30, false)), .pick (.t 34) (.t 40) (.c (.bool false))⟩,
  ⟨(some 42), none, .pick (.t 30) (.c (.bool true)) (.t 41)⟩], false, []⟩
def Try.r_law6_DepgraphMatchesSpec_6 : LReg := ⟨[⟨(some 4), none, .mv (.c (.bool false))⟩], false, []⟩
def Try.r_law6_DepgraphMatchesSpec_7 : LReg := ⟨[⟨(some 43), none, .fieldAddr 0 (.t 5)⟩,
  ⟨(some 44), none, .load 1 false (.t 43)⟩,
  ⟨(some 45), none, .bin .eql (.t 44) (.c (.int .i64 (0)))⟩], false, []⟩
def Try.r_law6_DepgraphMatchesSpec_8 : LReg := ⟨[⟨(some 46), none, .mv (.t 0)⟩,
  ⟨(some 47), none, .call 13 [(.t 46)]⟩,
  ⟨(some 9), none, .mv (.t 47)⟩], false, []⟩
def Try.r_law6_DepgraphMatchesSpec_9 : LReg := ⟨[⟨(some 48), none, .mv (.t 7)⟩,
  ⟨(some 49), none, .mv (.t 9)⟩,
  ⟨(some 50), none, .bin .geq (.t 49) (.c (.int .i64 (0)))⟩,
  ⟨(some 51), none, .eqb true (.t 48) (.t 50)⟩,
  ⟨(some 52), none, .mv (.t 51)⟩,
  ⟨(some 53), (some (52, false)), .mv (.t 7)⟩,
  ⟨(some 54), (some (52, false)), .un .not (.t 53)⟩,
  ⟨(some 55), (some (52, false)), .mv (.t 54)⟩,
  ⟨(some 56), (some (55, true)), .mv (.t 6)⟩,
  ⟨(some 57), (some (55, true)), .len (.t 56)⟩,
  ⟨(some 58), (some (55, true)), .bin .gtr (.t 57) (.c (.int .i64 (0)))⟩,
  ⟨(some 59), (some (52, false)), .pick (.t 55) (.t 58) (.c (.bool false))⟩,
  ⟨(some 60), none, .pick (.t 52) (.c (.bool true)) (.t 59)⟩,
  ⟨(some 61), none, .mv (.t 60)⟩,
  ⟨(some 62), (some (61, false)), .mv (.t 7)⟩,
  ⟨(some 63), (some (61, false)), .mv (.t 62)⟩,
  ⟨(some 64), (some (63, true)), .mv (.t 6)⟩,
  ⟨(some 65), (some (63, true)), .mv (.t 0)⟩,
  ⟨(some 66), (some (63, true)), .mv (.t 9)⟩,
  ⟨(some 67), (some (63, true)), .call 15 [(.t 65), (.t 66)]⟩,
  ⟨(some 68), (some (63, true)), .call 14 [(.t 64), (.t 67)]⟩,
  ⟨(some 69), (some (63, true)), .un .not (.t 68)⟩,
  ⟨(some 70), (some (61, false)), .pick (.t 63) (.t 69) (.c (.bool false))⟩,
  ⟨(some 71), none, .pick (.t 61) (.c (.bool true)) (.t 70)⟩], false, []⟩
def Try.r_law6_DepgraphMatchesSpec_10 : LReg := ⟨[⟨(some 4), none, .mv (.c (.bool false))⟩], false, []⟩
def Try.r_law6_DepgraphMatchesSpec_11 : LReg := ⟨[⟨(some 72), none, .mv (.t 0)⟩,
  ⟨(some 73), none, .mv (.t 1)⟩,
  ⟨(some 74), none, .call 16 [(.t 72), (.t 73)]⟩,
  ⟨none, none, .store 2 (.t 5) (.t 74)⟩], false, []⟩
def Try.r_law6_DepgraphMatchesSpec_12 : LReg := ⟨[⟨(some 76), none, .mv (.t 0)⟩,
  ⟨(some 77), none, .mv (.t 1)⟩,
  ⟨(some 78), none, .call 17 [(.t 76), (.t 77)]⟩,
  ⟨(some 75), none, .mv (.t 78)⟩,
  ⟨(some 79), none, .extract 0 (.t 75)⟩,
  ⟨(some 80), none, .extract 1 (.t 75)⟩,
  ⟨(some 10), none, .mv (.t 79)⟩,
  ⟨none, none, .store 2 (.t 8) (.t 80)⟩], false, []⟩
def Try.r_law6_DepgraphMatchesSpec_13 : LReg := ⟨[⟨(some 81), none, .load 2 true (.t 8)⟩,
  ⟨(some 82), none, .load 2 true (.t 5)⟩,
  ⟨(some 83), none, .eqs false [0, 0] (.t 81) (.t 82)⟩,
  ⟨(some 84), none, .mv (.t 83)⟩,
  ⟨(some 85), (some (84, true)), .fieldAddr 0 (.t 5)⟩,
  ⟨(some 86), (some (84, true)), .load 1 false (.t 85)⟩,
  ⟨(some 87), (some (84, true)), .bin .neq (.t 86) (.c (.int .i64 (0)))⟩,
  ⟨(some 88), (some (84, true)), .mv (.t 87)⟩,
  ⟨(some 89), (some (88, true)), .mv (.t 10)⟩,
  ⟨(some 90), (some (88, true)), .len (.t 89)⟩,
  ⟨(some 91), (some (88, true)), .bin .eql (.t 90) (.c (.int .i64 (0)))⟩,
  ⟨(some 92), (some (84, true)), .pick (.t 88) (.t 91) (.c (.bool false))⟩,
  ⟨(some 93), (some (84, true)), .mv (.t 92)⟩,
  ⟨(some 94), (some (93, false)), .fieldAddr 0 (.t 5)⟩,
  ⟨(some 95), (some (93, false)), .load 1 false (.t 94)⟩,
  ⟨(some 96), (some (93, false)), .bin .eql (.t 95) (.c (.int .i64 (0)))⟩,
  ⟨(some 97), (some (93, false)), .mv (.t 96)⟩,
  ⟨(some 98), (some (97, true)), .mv (.t 10)⟩,
  ⟨(some 99), (some (97, true)), .mv (.t 0)⟩,
  ⟨(some 100), (some (97, true)), .mv (.t 1)⟩,
  ⟨(some 101), (some (97, true)), .call 18 [(.t 99), (.t 100)]⟩,
  ⟨(some 102), (some (97, true)), .call 14 [(.t 98), (.t 101)]⟩,
  ⟨(some 103), (some (93, false)), .pick (.t 97) (.t 102) (.c (.bool false))⟩,
  ⟨(some 104), (some (84, true)), .pick (.t 93) (.c (.bool true)) (.t 103)⟩,
  ⟨(some 105), none, .pick (.t 84) (.t 104) (.c (.bool false))⟩,
  ⟨(some 4), none, .mv (.t 105)⟩], false, []⟩
def Try.l_law6_DepgraphMatchesSpec : LCode := (.seq (.reg Try.r_law6_DepgraphMatchesSpec_0) (.seq (.reg Try.r_law6_DepgraphMatchesSpec_1) (.seq (.seq (.reg Try.r_law6_DepgraphMatchesSpec_2) (.cond (.t 20) (.seq (.reg Try.r_law6_DepgraphMatchesSpec_3) .ret) .skip)) (.seq (.reg Try.r_law6_DepgraphMatchesSpec_4) (.seq (.seq (.reg Try.r_law6_DepgraphMatchesSpec_5) (.cond (.t 42) (.seq (.reg Try.r_law6_DepgraphMatchesSpec_6) .ret) .skip)) (.seq (.seq (.reg Try.r_law6_DepgraphMatchesSpec_7) (.cond (.t 45) (.seq (.reg Try.r_law6_DepgraphMatchesSpec_8) (.seq (.reg Try.r_law6_DepgraphMatchesSpec_9) (.cond (.t 71) (.seq (.reg Try.r_law6_DepgraphMatchesSpec_10) .ret) .skip))) .skip)) (.seq (.reg Try.r_law6_DepgraphMatchesSpec_11) (.seq (.reg Try.r_law6_DepgraphMatchesSpec_12) (.seq (.reg Try.r_law6_DepgraphMatchesSpec_13) .ret)))))))))
theorem Try.c_law6_DepgraphMatchesSpec : fnComp Try.prog 3 = some (106, Try.l_law6_DepgraphMatchesSpec, [.t 4]) := by kernel_rfl

/- 22 changeforge/changeforgeref6.Topological -/
def Try.r_ref6_Topological_0 : LReg := ⟨[⟨(some 2), none, .mv (.c (.nils))⟩], false, []⟩
def Try.r_ref6_Topological_1 : LReg := ⟨[⟨(some 3), none, .mv (.c (.nils))⟩], false, []⟩
def Try.r_ref6_Topological_2 : LReg := ⟨[⟨(some 8), none, .mv (.t 3)⟩,
  ⟨(some 9), none, .len (.t 8)⟩,
  ⟨(some 10), none, .mv (.t 0)⟩,
  ⟨(some 11), none, .len (.t 10)⟩,
  ⟨(some 12), none, .bin .lss (.t 9) (.t 11)⟩], false, []⟩
def Try.r_ref6_Topological_3 : LReg := ⟨[⟨(some 4), none, .mv (.c (.int .i64 (-1)))⟩], false, []⟩
def Try.r_ref6_Topological_4 : LReg := ⟨[⟨(some 13), none, .mv (.t 0)⟩,
  ⟨(some 14), none, .len (.t 13)⟩,
  ⟨(some 15), none, .bin .sub (.t 14) (.c (.int .i64 (1)))⟩,
  ⟨(some 5), none, .mv (.t 15)⟩], false, []⟩
def Try.r_ref6_Topological_5 : LReg := ⟨[⟨(some 16), none, .mv (.t 5)⟩,
  ⟨(some 17), none, .bin .geq (.t 16) (.c (.int .i64 (0)))⟩], false, []⟩
def Try.r_ref6_Topological_6 : LReg := ⟨[⟨(some 20), none, .mv (.t 3)⟩,
  ⟨(some 21), none, .mv (.t 5)⟩,
  ⟨(some 22), none, .call 26 [(.t 20), (.t 21)]⟩,
  ⟨(some 23), none, .un .not (.t 22)⟩,
  ⟨(some 6), none, .mv (.t 23)⟩], false, []⟩
def Try.r_ref6_Topological_7 : LReg := ⟨[⟨(some 7), none, .mv (.c (.int .i64 (0)))⟩], false, []⟩
def Try.r_ref6_Topological_8 : LReg := ⟨[⟨(some 24), none, .mv (.t 7)⟩,
  ⟨(some 25), none, .mv (.t 0)⟩,
  ⟨(some 26), none, .mv (.t 5)⟩,
  ⟨(some 27), none, .idx 1 (.t 25) (.t 26)⟩,
  ⟨(some 28), none, .load 1 false (.t 27)⟩,
  ⟨(some 29), none, .len (.t 28)⟩,
  ⟨(some 30), none, .bin .lss (.t 24) (.t 29)⟩], false, []⟩
def Try.r_ref6_Topological_9 : LReg := ⟨[⟨(some 33), none, .mv (.t 6)⟩,
  ⟨(some 34), none, .mv (.t 33)⟩,
  ⟨(some 35), (some (34, true)), .mv (.t 3)⟩,
  ⟨(some 36), (some (34, true)), .mv (.t 0)⟩,
  ⟨(some 37), (some (34, true)), .mv (.t 5)⟩,
  ⟨(some 38), (some (34, true)), .idx 1 (.t 36) (.t 37)⟩,
  ⟨(some 39), (some (34, true)), .load 1 false (.t 38)⟩,
  ⟨(some 40), (some (34, true)), .mv (.t 7)⟩,
  ⟨(some 41), (some (34, true)), .idx 1 (.t 39) (.t 40)⟩,
  ⟨(some 42), (some (34, true)), .load 1 false (.t 41)⟩,
  ⟨(some 43), (some (34, true)), .call 26 [(.t 35), (.t 42)]⟩,
  ⟨(some 44), none, .pick (.t 34) (.t 43) (.c (.bool false))⟩,
  ⟨(some 6), none, .mv (.t 44)⟩], false, []⟩
def Try.r_ref6_Topological_10 : LReg := ⟨[⟨(some 31), none, .mv (.t 7)⟩,
  ⟨(some 32), none, .bin .add (.t 31) (.c (.int .i64 (1)))⟩,
  ⟨(some 7), none, .mv (.t 32)⟩], false, []⟩
def Try.r_ref6_Topological_11 : LReg := ⟨[⟨(some 45), none, .mv (.t 6)⟩], false, []⟩
def Try.r_ref6_Topological_12 : LReg := ⟨[⟨(some 46), none, .mv (.t 5)⟩,
  ⟨(some 4), none, .mv (.t 46)⟩], false, []⟩
def Try.r_ref6_Topological_13 : LReg := ⟨[⟨(some 18), none, .mv (.t 5)⟩,
  ⟨(some 19), none, .bin .sub (.t 18) (.c (.int .i64 (1)))⟩,
  ⟨(some 5), none, .mv (.t 19)⟩], false, []⟩
def Try.r_ref6_Topological_14 : LReg := ⟨[⟨(some 47), none, .mv (.t 3)⟩,
  ⟨(some 48), none, .mv (.t 4)⟩,
  ⟨(some 49), none, .mkSlice 3 1 1 [.int .i64 (0)] [(0, (.t 48))]⟩,
  ⟨(some 50), none, .append 3 1 8 (.t 47) (.t 49)⟩,
  ⟨(some 3), none, .mv (.t 50)⟩], false, []⟩
def Try.r_ref6_Topological_15 : LReg := ⟨[⟨(some 51), none, .mv (.t 3)⟩,
  ⟨(some 2), none, .mv (.t 51)⟩], false, []⟩
def Try.l_ref6_Topological : LCode := (.seq (.reg Try.r_ref6_Topological_0) (.seq (.reg Try.r_ref6_Topological_1) (.seq (.block 0 (.loop (.seq (.seq (.reg Try.r_ref6_Topological_2) (.cond (.t 12) .skip (.exit 0))) (.block 1 (.seq (.reg Try.r_ref6_Topological_3) (.seq (.seq (.reg Try.r_ref6_Topological_4) (.block 2 (.loop (.seq (.seq (.reg Try.r_ref6_Topological_5) (.cond (.t 17) .skip (.exit 2))) (.seq (.block 3 (.seq (.reg Try.r_ref6_Topological_6) (.seq (.seq (.reg Try.r_ref6_Topological_7) (.block 4 (.loop (.seq (.seq (.reg Try.r_ref6_Topological_8) (.cond (.t 30) .skip (.exit 4))) (.seq (.block 5 (.reg Try.r_ref6_Topological_9)) (.reg Try.r_ref6_Topological_10)))))) (.seq (.reg Try.r_ref6_Topological_11) (.cond (.t 45) (.reg Try.r_ref6_Topological_12) .skip))))) (.reg Try.r_ref6_Topological_13)))))) (.reg Try.r_ref6_Topological_14))))))) (.seq (.reg Try.r_ref6_Topological_15) .ret))))
theorem Try.c_ref6_Topological : fnComp Try.prog 22 = some (52, Try.l_ref6_Topological, [.t 2]) := by kernel_rfl

/- 23 changeforge/changeforgeref6.Levels -/
def Try.r_ref6_Levels_0 : LReg := ⟨[⟨(some 2), none, .mv (.c (.nils))⟩], false, []⟩
def Try.r_ref6_Levels_1 : LReg := ⟨[⟨(some 7), none, .mv (.t 0)⟩,
  ⟨(some 8), none, .len (.t 7)⟩,
  ⟨(some 9), none, .make 3 1 8 [.int .i64 (0)] (.t 8)⟩,
  ⟨(some 3), none, .mv (.t 9)⟩], false, []⟩
def Try.r_ref6_Levels_2 : LReg := ⟨[⟨(some 4), none, .mv (.c (.int .i64 (0)))⟩], false, []⟩
def Try.r_ref6_Levels_3 : LReg := ⟨[⟨(some 10), none, .mv (.t 4)⟩,
  ⟨(some 11), none, .mv (.t 0)⟩,
  ⟨(some 12), none, .len (.t 11)⟩,
  ⟨(some 13), none, .bin .lss (.t 10) (.t 12)⟩], false, []⟩
def Try.r_ref6_Levels_4 : LReg := ⟨[⟨(some 5), none, .mv (.c (.int .i64 (0)))⟩], false, []⟩
def Try.r_ref6_Levels_5 : LReg := ⟨[⟨(some 16), none, .mv (.t 5)⟩,
  ⟨(some 17), none, .mv (.t 0)⟩,
  ⟨(some 18), none, .len (.t 17)⟩,
  ⟨(some 19), none, .bin .lss (.t 16) (.t 18)⟩], false, []⟩
def Try.r_ref6_Levels_6 : LReg := ⟨[⟨(some 6), none, .mv (.c (.int .i64 (0)))⟩], false, []⟩
def Try.r_ref6_Levels_7 : LReg := ⟨[⟨(some 22), none, .mv (.t 6)⟩,
  ⟨(some 23), none, .mv (.t 0)⟩,
  ⟨(some 24), none, .mv (.t 5)⟩,
  ⟨(some 25), none, .idx 1 (.t 23) (.t 24)⟩,
  ⟨(some 26), none, .load 1 false (.t 25)⟩,
  ⟨(some 27), none, .len (.t 26)⟩,
  ⟨(some 28), none, .bin .lss (.t 22) (.t 27)⟩], false, []⟩
def Try.r_ref6_Levels_8 : LReg := ⟨[⟨(some 31), none, .mv (.t 3)⟩,
  ⟨(some 32), none, .mv (.t 5)⟩,
  ⟨(some 33), none, .idx 1 (.t 31) (.t 32)⟩,
  ⟨(some 34), none, .load 1 false (.t 33)⟩,
  ⟨(some 35), none, .mv (.t 3)⟩,
  ⟨(some 36), none, .mv (.t 0)⟩,
  ⟨(some 37), none, .mv (.t 5)⟩,
  ⟨(some 38), none, .idx 1 (.t 36) (.t 37)⟩,
  ⟨(some 39), none, .load 1 false (.t 38)⟩,
  ⟨(some 40), none, .mv (.t 6)⟩,
  ⟨(some 41), none, .idx 1 (.t 39) (.t 40)⟩,
  ⟨(some 42), none, .load 1 false (.t 41)⟩,
  ⟨(some 43), none, .idx 1 (.t 35) (.t 42)⟩,
  ⟨(some 44), none, .load 1 false (.t 43)⟩,
  ⟨(some 45), none, .bin .add (.t 44) (.c (.int .i64 (1)))⟩,
  ⟨(some 46), none, .bin .lss (.t 34) (.t 45)⟩], true, [(2, 7), (3, 7), (2, 8), (3, 8), (2, 10), (3, 10), (2, 11), (3, 11), (2, 12), (3, 12), (2, 13), (3, 13)]⟩
def Try.r_ref6_Levels_9 : LReg := ⟨[⟨(some 47), none, .mv (.t 3)⟩,
  ⟨(some 48), none, .mv (.t 5)⟩,
  ⟨(some 49), none, .mv (.t 3)⟩,
  ⟨(some 50), none, .mv (.t 0)⟩,
  ⟨(some 51), none, .mv (.t 5)⟩,
  ⟨(some 52), none, .idx 1 (.t 50) (.t 51)⟩,
  ⟨(some 53), none, .load 1 false (.t 52)⟩,
  ⟨(some 54), none, .mv (.t 6)⟩,
  ⟨(some 55), none, .idx 1 (.t 53) (.t 54)⟩,
  ⟨(some 56), none, .load 1 false (.t 55)⟩,
  ⟨(some 57), none, .idx 1 (.t 49) (.t 56)⟩,
  ⟨(some 58), none, .load 1 false (.t 57)⟩,
  ⟨(some 59), none, .bin .add (.t 58) (.c (.int .i64 (1)))⟩,
  ⟨(some 60), none, .idx 1 (.t 47) (.t 48)⟩,
  ⟨none, none, .store 1 (.t 60) (.t 59)⟩], false, []⟩
def Try.r_ref6_Levels_10 : LReg := ⟨[⟨(some 29), none, .mv (.t 6)⟩,
  ⟨(some 30), none, .bin .add (.t 29) (.c (.int .i64 (1)))⟩,
  ⟨(some 6), none, .mv (.t 30)⟩], false, []⟩
def Try.r_ref6_Levels_11 : LReg := ⟨[⟨(some 20), none, .mv (.t 5)⟩,
  ⟨(some 21), none, .bin .add (.t 20) (.c (.int .i64 (1)))⟩,
  ⟨(some 5), none, .mv (.t 21)⟩], false, []⟩
def Try.r_ref6_Levels_12 : LReg := ⟨[⟨(some 14), none, .mv (.t 4)⟩,
  ⟨(some 15), none, .bin .add (.t 14) (.c (.int .i64 (1)))⟩,
  ⟨(some 4), none, .mv (.t 15)⟩], false, []⟩
def Try.r_ref6_Levels_13 : LReg := ⟨[⟨(some 61), none, .mv (.t 3)⟩,
  ⟨(some 2), none, .mv (.t 61)⟩], false, []⟩
def Try.l_ref6_Levels : LCode := (.seq (.reg Try.r_ref6_Levels_0) (.seq (.reg Try.r_ref6_Levels_1) (.seq (.seq (.reg Try.r_ref6_Levels_2) (.block 0 (.loop (.seq (.seq (.reg Try.r_ref6_Levels_3) (.cond (.t 13) .skip (.exit 0))) (.seq (.block 1 (.seq (.reg Try.r_ref6_Levels_4) (.block 2 (.loop (.seq (.seq (.reg Try.r_ref6_Levels_5) (.cond (.t 19) .skip (.exit 2))) (.seq (.block 3 (.seq (.reg Try.r_ref6_Levels_6) (.block 4 (.loop (.seq (.seq (.reg Try.r_ref6_Levels_7) (.cond (.t 28) .skip (.exit 4))) (.seq (.block 5 (.seq (.reg Try.r_ref6_Levels_8) (.cond (.t 46) (.reg Try.r_ref6_Levels_9) .skip))) (.reg Try.r_ref6_Levels_10))))))) (.reg Try.r_ref6_Levels_11))))))) (.reg Try.r_ref6_Levels_12)))))) (.seq (.reg Try.r_ref6_Levels_13) .ret))))
theorem Try.c_ref6_Levels : fnComp Try.prog 23 = some (62, Try.l_ref6_Levels, [.t 2]) := by kernel_rfl

/- 4 changeforge/changeforgelaw6.DepgraphOrderMatchesSpec -/
def Try.r_law6_DepgraphOrderMatchesSpec_0 : LReg := ⟨[⟨(some 2), none, .mv (.c (.bool false))⟩], false, []⟩
def Try.r_law6_DepgraphOrderMatchesSpec_1 : LReg := ⟨[⟨(some 8), none, .mv (.t 0)⟩,
  ⟨(some 9), none, .call 9 [(.t 8)]⟩,
  ⟨(some 3), none, .alloc 25 2 [.int .i64 (0), .int .i64 (0)]⟩,
  ⟨none, none, .store 2 (.t 3) (.t 9)⟩], false, []⟩
def Try.r_law6_DepgraphOrderMatchesSpec_2 : LReg := ⟨[⟨(some 10), none, .fieldAddr 0 (.t 3)⟩,
  ⟨(some 11), none, .load 1 false (.t 10)⟩,
  ⟨(some 12), none, .bin .eql (.t 11) (.c (.int .i64 (0)))⟩,
  ⟨(some 13), none, .mv (.t 12)⟩,
  ⟨(some 14), (some (13, true)), .mv (.t 0)⟩,
  ⟨(some 15), (some (13, true)), .call 13 [(.t 14)]⟩,
  ⟨(some 16), (some (13, true)), .bin .geq (.t 15) (.c (.int .i64 (0)))⟩,
  ⟨(some 17), none, .pick (.t 13) (.t 16) (.c (.bool false))⟩], false, []⟩
def Try.r_law6_DepgraphOrderMatchesSpec_3 : LReg := ⟨[⟨(some 18), none, .mv (.t 0)⟩,
  ⟨(some 19), none, .call 13 [(.t 18)]⟩,
  ⟨(some 20), none, .call 19 [(.c (.int .i64 (20))), (.t 19)]⟩,
  ⟨none, none, .store 2 (.t 3) (.t 20)⟩], false, []⟩
def Try.r_law6_DepgraphOrderMatchesSpec_4 : LReg := ⟨[⟨(some 22), none, .mv (.t 0)⟩,
  ⟨(some 23), none, .call 20 [(.t 22)]⟩,
  ⟨(some 21), none, .mv (.t 23)⟩,
  ⟨(some 24), none, .extract 0 (.t 21)⟩,
  ⟨(some 25), none, .extract 1 (.t 21)⟩,
  ⟨(some 5), none, .alloc 25 2 [.int .i64 (0), .int .i64 (0)]⟩,
  ⟨(some 4), none, .mv (.t 24)⟩,
  ⟨none, none, .store 2 (.t 5) (.t 25)⟩], false, []⟩
def Try.r_law6_DepgraphOrderMatchesSpec_5 : LReg := ⟨[⟨(some 27), none, .mv (.t 0)⟩,
  ⟨(some 28), none, .call 21 [(.t 27)]⟩,
  ⟨(some 26), none, .mv (.t 28)⟩,
  ⟨(some 29), none, .extract 0 (.t 26)⟩,
  ⟨(some 30), none, .extract 1 (.t 26)⟩,
  ⟨(some 7), none, .alloc 25 2 [.int .i64 (0), .int .i64 (0)]⟩,
  ⟨(some 6), none, .mv (.t 29)⟩,
  ⟨none, none, .store 2 (.t 7) (.t 30)⟩], false, []⟩
def Try.r_law6_DepgraphOrderMatchesSpec_6 : LReg := ⟨[⟨(some 31), none, .call 10 []⟩,
  ⟨(some 32), none, .un .not (.t 31)⟩,
  ⟨(some 33), none, .mv (.t 32)⟩,
  ⟨(some 34), (some (33, false)), .load 2 true (.t 5)⟩,
  ⟨(some 35), (some (33, false)), .load 2 true (.t 3)⟩,
  ⟨(some 36), (some (33, false)), .eqs true [0, 0] (.t 34) (.t 35)⟩,
  ⟨(some 37), none, .pick (.t 33) (.c (.bool true)) (.t 36)⟩,
  ⟨(some 38), none, .mv (.t 37)⟩,
  ⟨(some 39), (some (38, false)), .load 2 true (.t 7)⟩,
  ⟨(some 40), (some (38, false)), .load 2 true (.t 3)⟩,
  ⟨(some 41), (some (38, false)), .eqs true [0, 0] (.t 39) (.t 40)⟩,
  ⟨(some 42), none, .pick (.t 38) (.c (.bool true)) (.t 41)⟩,
  ⟨(some 43), none, .mv (.t 42)⟩,
  ⟨(some 44), (some (43, false)), .fieldAddr 0 (.t 3)⟩,
  ⟨(some 45), (some (43, false)), .load 1 false (.t 44)⟩,
  ⟨(some 46), (some (43, false)), .bin .neq (.t 45) (.c (.int .i64 (0)))⟩,
  ⟨(some 47), none, .pick (.t 43) (.c (.bool true)) (.t 46)⟩], false, []⟩
def Try.r_law6_DepgraphOrderMatchesSpec_7 : LReg := ⟨[⟨(some 48), none, .call 10 []⟩,
  ⟨(some 49), none, .mv (.t 48)⟩,
  ⟨(some 50), (some (49, true)), .load 2 true (.t 5)⟩,
  ⟨(some 51), (some (49, true)), .load 2 true (.t 3)⟩,
  ⟨(some 52), (some (49, true)), .eqs false [0, 0] (.t 50) (.t 51)⟩,
  ⟨(some 53), none, .pick (.t 49) (.t 52) (.c (.bool false))⟩,
  ⟨(some 54), none, .mv (.t 53)⟩,
  ⟨(some 55), (some (54, true)), .load 2 true (.t 7)⟩,
  ⟨(some 56), (some (54, true)), .load 2 true (.t 3)⟩,
  ⟨(some 57), (some (54, true)), .eqs false [0, 0] (.t 55) (.t 56)⟩,
  ⟨(some 58), none, .pick (.t 54) (.t 57) (.c (.bool false))⟩,
  ⟨(some 59), none, .mv (.t 58)⟩,
  ⟨(some 60), (some (59, true)), .mv (.t 4)⟩,
  ⟨(some 61), (some (59, true)), .len (.t 60)⟩,
  ⟨(some 62), (some (59, true)), .bin .eql (.t 61) (.c (.int .i64 (0)))⟩,
  ⟨(some 63), none, .pick (.t 59) (.t 62) (.c (.bool false))⟩,
  ⟨(some 64), none, .mv (.t 63)⟩,
  ⟨(some 65), (some (64, true)), .mv (.t 6)⟩,
  ⟨(some 66), (some (64, true)), .len (.t 65)⟩,
  ⟨(some 67), (some (64, true)), .bin .eql (.t 66) (.c (.int .i64 (0)))⟩,
  ⟨(some 68), none, .pick (.t 64) (.t 67) (.c (.bool false))⟩,
  ⟨(some 2), none, .mv (.t 68)⟩], false, []⟩
def Try.r_law6_DepgraphOrderMatchesSpec_8 : LReg := ⟨[⟨(some 69), none, .mv (.t 4)⟩,
  ⟨(some 70), none, .mv (.t 0)⟩,
  ⟨(some 71), none, .call 22 [(.t 70)]⟩,
  ⟨(some 72), none, .call 14 [(.t 69), (.t 71)]⟩,
  ⟨(some 73), none, .mv (.t 72)⟩,
  ⟨(some 74), (some (73, true)), .mv (.t 6)⟩,
  ⟨(some 75), (some (73, true)), .mv (.t 0)⟩,
  ⟨(some 76), (some (73, true)), .call 23 [(.t 75)]⟩,
  ⟨(some 77), (some (73, true)), .call 14 [(.t 74), (.t 76)]⟩,
  ⟨(some 78), none, .pick (.t 73) (.t 77) (.c (.bool false))⟩,
  ⟨(some 2), none, .mv (.t 78)⟩], false, []⟩
def Try.l_law6_DepgraphOrderMatchesSpec : LCode := (.seq (.reg Try.r_law6_DepgraphOrderMatchesSpec_0) (.seq (.reg Try.r_law6_DepgraphOrderMatchesSpec_1) (.seq (.seq (.reg Try.r_law6_DepgraphOrderMatchesSpec_2) (.cond (.t 17) (.reg Try.r_law6_DepgraphOrderMatchesSpec_3) .skip)) (.seq (.reg Try.r_law6_DepgraphOrderMatchesSpec_4) (.seq (.reg Try.r_law6_DepgraphOrderMatchesSpec_5) (.seq (.seq (.reg Try.r_law6_DepgraphOrderMatchesSpec_6) (.cond (.t 47) (.seq (.reg Try.r_law6_DepgraphOrderMatchesSpec_7) .ret) .skip)) (.seq (.reg Try.r_law6_DepgraphOrderMatchesSpec_8) .ret)))))))
theorem Try.c_law6_DepgraphOrderMatchesSpec : fnComp Try.prog 4 = some (79, Try.l_law6_DepgraphOrderMatchesSpec, [.t 2]) := by kernel_rfl

/- 24 changeforge/changeforgelaw6.position -/
def Try.r_law6_position_0 : LReg := ⟨[⟨(some 4), none, .mv (.c (.int .i64 (0)))⟩], false, []⟩
def Try.r_law6_position_1 : LReg := ⟨[⟨(some 5), none, .mv (.c (.int .i64 (0)))⟩], false, []⟩
def Try.r_law6_position_2 : LReg := ⟨[⟨(some 6), none, .mv (.t 5)⟩,
  ⟨(some 7), none, .mv (.t 0)⟩,
  ⟨(some 8), none, .len (.t 7)⟩,
  ⟨(some 9), none, .bin .lss (.t 6) (.t 8)⟩], false, []⟩
def Try.r_law6_position_3 : LReg := ⟨[⟨(some 12), none, .mv (.t 0)⟩,
  ⟨(some 13), none, .mv (.t 5)⟩,
  ⟨(some 14), none, .idx 1 (.t 12) (.t 13)⟩,
  ⟨(some 15), none, .load 1 false (.t 14)⟩,
  ⟨(some 16), none, .mv (.t 1)⟩,
  ⟨(some 17), none, .bin .eql (.t 15) (.t 16)⟩], false, []⟩
def Try.r_law6_position_4 : LReg := ⟨[⟨(some 18), none, .mv (.t 5)⟩,
  ⟨(some 4), none, .mv (.t 18)⟩], false, []⟩
def Try.r_law6_position_5 : LReg := ⟨[⟨(some 10), none, .mv (.t 5)⟩,
  ⟨(some 11), none, .bin .add (.t 10) (.c (.int .i64 (1)))⟩,
  ⟨(some 5), none, .mv (.t 11)⟩], false, []⟩
def Try.r_law6_position_6 : LReg := ⟨[⟨(some 4), none, .mv (.c (.int .i64 (-1)))⟩], false, []⟩
def Try.l_law6_position : LCode := (.seq (.reg Try.r_law6_position_0) (.seq (.seq (.reg Try.r_law6_position_1) (.block 0 (.loop (.seq (.seq (.reg Try.r_law6_position_2) (.cond (.t 9) .skip (.exit 0))) (.seq (.block 1 (.seq (.reg Try.r_law6_position_3) (.cond (.t 17) (.seq (.reg Try.r_law6_position_4) .ret) .skip))) (.reg Try.r_law6_position_5)))))) (.seq (.reg Try.r_law6_position_6) .ret)))
theorem Try.c_law6_position : fnComp Try.prog 24 = some (19, Try.l_law6_position, [.t 4]) := by kernel_rfl

/- 25 changeforge/changeforgelaw6.in -/
def Try.r_law6_in_0 : LReg := ⟨[⟨(some 6), none, .mv (.c (.bool false))⟩], false, []⟩
def Try.r_law6_in_1 : LReg := ⟨[⟨(some 7), none, .mv (.t 0)⟩,
  ⟨(some 8), none, .mv (.t 1)⟩,
  ⟨(some 9), none, .bin .geq (.t 7) (.t 8)⟩,
  ⟨(some 10), none, .mv (.t 9)⟩,
  ⟨(some 11), (some (10, true)), .mv (.t 0)⟩,
  ⟨(some 12), (some (10, true)), .mv (.t 2)⟩,
  ⟨(some 13), (some (10, true)), .bin .leq (.t 11) (.t 12)⟩,
  ⟨(some 14), none, .pick (.t 10) (.t 13) (.c (.bool false))⟩,
  ⟨(some 6), none, .mv (.t 14)⟩], false, []⟩
def Try.l_law6_in : LCode := (.seq (.reg Try.r_law6_in_0) (.seq (.reg Try.r_law6_in_1) .ret))
theorem Try.c_law6_in : fnComp Try.prog 25 = some (15, Try.l_law6_in, [.t 6]) := by kernel_rfl

/- 5 changeforge/changeforgelaw6.DepgraphOrdersRespectDependencies -/
def Try.r_law6_DepgraphOrdersRespectDependencies_0 : LReg := ⟨[⟨(some 2), none, .mv (.c (.bool false))⟩], false, []⟩
def Try.r_law6_DepgraphOrdersRespectDependencies_1 : LReg := ⟨[⟨(some 12), none, .mv (.t 0)⟩,
  ⟨(some 13), none, .call 20 [(.t 12)]⟩,
  ⟨(some 11), none, .mv (.t 13)⟩,
  ⟨(some 14), none, .extract 0 (.t 11)⟩,
  ⟨(some 15), none, .extract 1 (.t 11)⟩,
  ⟨(some 4), none, .alloc 25 2 [.int .i64 (0), .int .i64 (0)]⟩,
  ⟨(some 3), none, .mv (.t 14)⟩,
  ⟨none, none, .store 2 (.t 4) (.t 15)⟩], false, []⟩
def Try.r_law6_DepgraphOrdersRespectDependencies_2 : LReg := ⟨[⟨(some 17), none, .mv (.t 0)⟩,
  ⟨(some 18), none, .call 21 [(.t 17)]⟩,
  ⟨(some 16), none, .mv (.t 18)⟩,
  ⟨(some 19), none, .extract 0 (.t 16)⟩,
  ⟨(some 20), none, .extract 1 (.t 16)⟩,
  ⟨(some 6), none, .alloc 25 2 [.int .i64 (0), .int .i64 (0)]⟩,
  ⟨(some 5), none, .mv (.t 19)⟩,
  ⟨none, none, .store 2 (.t 6) (.t 20)⟩], false, []⟩
def Try.r_law6_DepgraphOrdersRespectDependencies_3 : LReg := ⟨[⟨(some 21), none, .call 10 []⟩,
  ⟨(some 22), none, .un .not (.t 21)⟩,
  ⟨(some 23), none, .mv (.t 22)⟩,
  ⟨(some 24), (some (23, false)), .load 2 true (.t 4)⟩,
  ⟨(some 25), (some (23, false)), .load 2 true (.t 6)⟩,
  ⟨(some 26), (some (23, false)), .eqs true [0, 0] (.t 24) (.t 25)⟩,
  ⟨(some 27), none, .pick (.t 23) (.c (.bool true)) (.t 26)⟩], false, []⟩
def Try.r_law6_DepgraphOrdersRespectDependencies_4 : LReg := ⟨[⟨(some 2), none, .mv (.c (.bool false))⟩], false, []⟩
def Try.r_law6_DepgraphOrdersRespectDependencies_5 : LReg := ⟨[⟨(some 28), none, .fieldAddr 0 (.t 4)⟩,
  ⟨(some 29), none, .load 1 false (.t 28)⟩,
  ⟨(some 30), none, .bin .neq (.t 29) (.c (.int .i64 (0)))⟩], false, []⟩
def Try.r_law6_DepgraphOrdersRespectDependencies_6 : LReg := ⟨[⟨(some 31), none, .mv (.t 3)⟩,
  ⟨(some 32), none, .len (.t 31)⟩,
  ⟨(some 33), none, .bin .eql (.t 32) (.c (.int .i64 (0)))⟩,
  ⟨(some 34), none, .mv (.t 33)⟩,
  ⟨(some 35), (some (34, true)), .mv (.t 5)⟩,
  ⟨(some 36), (some (34, true)), .len (.t 35)⟩,
  ⟨(some 37), (some (34, true)), .bin .eql (.t 36) (.c (.int .i64 (0)))⟩,
  ⟨(some 38), none, .pick (.t 34) (.t 37) (.c (.bool false))⟩,
  ⟨(some 2), none, .mv (.t 38)⟩], false, []⟩
def Try.r_law6_DepgraphOrdersRespectDependencies_7 : LReg := ⟨[⟨(some 39), none, .mv (.t 3)⟩,
  ⟨(some 40), none, .len (.t 39)⟩,
  ⟨(some 41), none, .mv (.t 0)⟩,
  ⟨(some 42), none, .len (.t 41)⟩,
  ⟨(some 43), none, .bin .neq (.t 40) (.t 42)⟩,
  ⟨(some 44), none, .mv (.t 43)⟩,
  ⟨(some 45), (some (44, false)), .mv (.t 5)⟩,
  ⟨(some 46), (some (44, false)), .len (.t 45)⟩,
  ⟨(some 47), (some (44, false)), .mv (.t 0)⟩,
  ⟨(some 48), (some (44, false)), .len (.t 47)⟩,
  ⟨(some 49), (some (44, false)), .bin .neq (.t 46) (.t 48)⟩,
  ⟨(some 50), none, .pick (.t 44) (.c (.bool true)) (.t 49)⟩], false, []⟩
def Try.r_law6_DepgraphOrdersRespectDependencies_8 : LReg := ⟨[⟨(some 2), none, .mv (.c (.bool false))⟩], false, []⟩
def Try.r_law6_DepgraphOrdersRespectDependencies_9 : LReg := ⟨[⟨(some 7), none, .mv (.c (.int .i64 (0)))⟩], false, []⟩
def Try.r_law6_DepgraphOrdersRespectDependencies_10 : LReg := ⟨[⟨(some 51), none, .mv (.t 7)⟩,
  ⟨(some 52), none, .mv (.t 0)⟩,
  ⟨(some 53), none, .len (.t 52)⟩,
  ⟨(some 54), none, .bin .lss (.t 51) (.t 53)⟩], false, []⟩
def Try.r_law6_DepgraphOrdersRespectDependencies_11 : LReg := ⟨[⟨(some 57), none, .mv (.t 3)⟩,
  ⟨(some 58), none, .mv (.t 7)⟩,
  ⟨(some 59), none, .call 24 [(.t 57), (.t 58)]⟩,
  ⟨(some 60), none, .bin .lss (.t 59) (.c (.int .i64 (0)))⟩,
  ⟨(some 61), none, .mv (.t 60)⟩,
  ⟨(some 62), (some (61, false)), .mv (.t 0)⟩,
  ⟨(some 63), (some (61, false)), .mv (.t 7)⟩,
  ⟨(some 64), (some (61, false)), .idx 1 (.t 62) (.t 63)⟩,
  ⟨(some 65), (some (61, false)), .load 1 false (.t 64)⟩,
  ⟨(some 66), (some (61, false)), .len (.t 65)⟩,
  ⟨(some 67), (some (61, false)), .bin .eql (.t 66) (.c (.int .i64 (0)))⟩,
  ⟨(some 68), (some (61, false)), .mv (.t 67)⟩,
  ⟨(some 69), (some (68, true)), .mv (.t 5)⟩,
  ⟨(some 70), (some (68, true)), .mv (.t 7)⟩,
  ⟨(some 71), (some (68, true)), .idx 1 (.t 69) (.t 70)⟩,
  ⟨(some 72), (some (68, true)), .load 1 false (.t 71)⟩,
  ⟨(some 73), (some (68, true)), .bin .neq (.t 72) (.c (.int .i64 (0)))⟩,
  ⟨(some 74), (some (61, false)), .pick (.t 68) (.t 73) (.c (.bool false))⟩,
  ⟨(some 75), none, .pick (.t 61) (.c (.bool true)) (.t 74)⟩], false, []⟩
def Try.r_law6_DepgraphOrdersRespectDependencies_12 : LReg := ⟨[⟨(some 2), none, .mv (.c (.bool false))⟩], false, []⟩
def Try.r_law6_DepgraphOrdersRespectDependencies_13 : LReg := ⟨[⟨(some 8), none, .mv (.c (.bool false))⟩], false, []⟩
def Try.r_law6_DepgraphOrdersRespectDependencies_14 : LReg := ⟨[⟨(some 9), none, .mv (.c (.int .i64 (0)))⟩], false, []⟩
def Try.r_law6_DepgraphOrdersRespectDependencies_15 : LReg := ⟨[⟨(some 76), none, .mv (.t 9)⟩,
  ⟨(some 77), none, .mv (.t 0)⟩,
  ⟨(some 78), none, .mv (.t 7)⟩,
  ⟨(some 79), none, .idx 1 (.t 77) (.t 78)⟩,
  ⟨(some 80), none, .load 1 false (.t 79)⟩,
  ⟨(some 81), none, .len (.t 80)⟩,
  ⟨(some 82), none, .bin .lss (.t 76) (.t 81)⟩], false, []⟩
def Try.r_law6_DepgraphOrdersRespectDependencies_16 : LReg := ⟨[⟨(some 85), none, .mv (.t 0)⟩,
  ⟨(some 86), none, .mv (.t 7)⟩,
  ⟨(some 87), none, .idx 1 (.t 85) (.t 86)⟩,
  ⟨(some 88), none, .load 1 false (.t 87)⟩,
  ⟨(some 89), none, .mv (.t 9)⟩,
  ⟨(some 90), none, .idx 1 (.t 88) (.t 89)⟩,
  ⟨(some 91), none, .load 1 false (.t 90)⟩,
  ⟨(some 10), none, .mv (.t 91)⟩], false, []⟩
def Try.r_law6_DepgraphOrdersRespectDependencies_17 : LReg := ⟨[⟨(some 92), none, .mv (.t 10)⟩,
  ⟨(some 93), none, .mv (.t 5)⟩,
  ⟨(some 94), none, .len (.t 93)⟩,
  ⟨(some 95), none, .bin .sub (.t 94) (.c (.int .i64 (1)))⟩,
  ⟨(some 96), none, .call 25 [(.t 92), (.c (.int .i64 (0))), (.t 95)]⟩,
  ⟨(some 97), none, .un .not (.t 96)⟩,
  ⟨(some 98), none, .mv (.t 97)⟩,
  ⟨(some 99), (some (98, false)), .mv (.t 3)⟩,
  ⟨(some 100), (some (98, false)), .mv (.t 10)⟩,
  ⟨(some 101), (some (98, false)), .call 24 [(.t 99), (.t 100)]⟩,
  ⟨(some 102), (some (98, false)), .mv (.t 3)⟩,
  ⟨(some 103), (some (98, false)), .mv (.t 7)⟩,
  ⟨(some 104), (some (98, false)), .call 24 [(.t 102), (.t 103)]⟩,
  ⟨(some 105), (some (98, false)), .bin .geq (.t 101) (.t 104)⟩,
  ⟨(some 106), none, .pick (.t 98) (.c (.bool true)) (.t 105)⟩,
  ⟨(some 107), none, .mv (.t 106)⟩,
  ⟨(some 108), (some (107, false)), .mv (.t 5)⟩,
  ⟨(some 109), (some (107, false)), .mv (.t 10)⟩,
  ⟨(some 110), (some (107, false)), .idx 1 (.t 108) (.t 109)⟩,
  ⟨(some 111), (some (107, false)), .load 1 false (.t 110)⟩,
  ⟨(some 112), (some (107, false)), .mv (.t 5)⟩,
  ⟨(some 113), (some (107, false)), .mv (.t 7)⟩,
  ⟨(some 114), (some (107, false)), .idx 1 (.t 112) (.t 113)⟩,
  ⟨(some 115), (some (107, false)), .load 1 false (.t 114)⟩,
  ⟨(some 116), (some (107, false)), .bin .geq (.t 111) (.t 115)⟩,
  ⟨(some 117), none, .pick (.t 107) (.c (.bool true)) (.t 116)⟩], true, [(18, 22), (19, 22), (18, 23), (19, 23)]⟩
def Try.r_law6_DepgraphOrdersRespectDependencies_18 : LReg := ⟨[⟨(some 2), none, .mv (.c (.bool false))⟩], false, []⟩
def Try.r_law6_DepgraphOrdersRespectDependencies_19 : LReg := ⟨[⟨(some 118), none, .mv (.t 8)⟩,
  ⟨(some 119), none, .mv (.t 118)⟩,
  ⟨(some 120), (some (119, false)), .mv (.t 5)⟩,
  ⟨(some 121), (some (119, false)), .mv (.t 10)⟩,
  ⟨(some 122), (some (119, false)), .idx 1 (.t 120) (.t 121)⟩,
  ⟨(some 123), (some (119, false)), .load 1 false (.t 122)⟩,
  ⟨(some 124), (some (119, false)), .mv (.t 5)⟩,
  ⟨(some 125), (some (119, false)), .mv (.t 7)⟩,
  ⟨(some 126), (some (119, false)), .idx 1 (.t 124) (.t 125)⟩,
  ⟨(some 127), (some (119, false)), .load 1 false (.t 126)⟩,
  ⟨(some 128), (some (119, false)), .bin .sub (.t 127) (.c (.int .i64 (1)))⟩,
  ⟨(some 129), (some (119, false)), .bin .eql (.t 123) (.t 128)⟩,
  ⟨(some 130), none, .pick (.t 119) (.c (.bool true)) (.t 129)⟩,
  ⟨(some 8), none, .mv (.t 130)⟩], true, [(4, 8), (5, 8), (4, 9), (5, 9)]⟩
def Try.r_law6_DepgraphOrdersRespectDependencies_20 : LReg := ⟨[⟨(some 83), none, .mv (.t 9)⟩,
  ⟨(some 84), none, .bin .add (.t 83) (.c (.int .i64 (1)))⟩,
  ⟨(some 9), none, .mv (.t 84)⟩], false, []⟩
def Try.r_law6_DepgraphOrdersRespectDependencies_21 : LReg := ⟨[⟨(some 131), none, .mv (.t 0)⟩,
  ⟨(some 132), none, .mv (.t 7)⟩,
  ⟨(some 133), none, .idx 1 (.t 131) (.t 132)⟩,
  ⟨(some 134), none, .load 1 false (.t 133)⟩,
  ⟨(some 135), none, .len (.t 134)⟩,
  ⟨(some 136), none, .bin .gtr (.t 135) (.c (.int .i64 (0)))⟩,
  ⟨(some 137), none, .mv (.t 136)⟩,
  ⟨(some 138), (some (137, true)), .mv (.t 8)⟩,
  ⟨(some 139), (some (137, true)), .un .not (.t 138)⟩,
  ⟨(some 140), none, .pick (.t 137) (.t 139) (.c (.bool false))⟩], false, []⟩
def Try.r_law6_DepgraphOrdersRespectDependencies_22 : LReg := ⟨[⟨(some 2), none, .mv (.c (.bool false))⟩], false, []⟩
def Try.r_law6_DepgraphOrdersRespectDependencies_23 : LReg := ⟨[⟨(some 55), none, .mv (.t 7)⟩,
  ⟨(some 56), none, .bin .add (.t 55) (.c (.int .i64 (1)))⟩,
  ⟨(some 7), none, .mv (.t 56)⟩], false, []⟩
def Try.r_law6_DepgraphOrdersRespectDependencies_24 : LReg := ⟨[⟨(some 2), none, .mv (.c (.bool true))⟩], false, []⟩
def Try.l_law6_DepgraphOrdersRespectDependencies : LCode := (.seq (.reg Try.r_law6_DepgraphOrdersRespectDependencies_0) (.seq (.reg Try.r_law6_DepgraphOrdersRespectDependencies_1) (.seq (.reg Try.r_law6_DepgraphOrdersRespectDependencies_2) (.seq (.seq (.reg Try.r_law6_DepgraphOrdersRespectDependencies_3) (.cond (.t 27) (.seq (.reg Try.r_law6_DepgraphOrdersRespectDependencies_4) .ret) .skip)) (.seq (.seq (.reg Try.r_law6_DepgraphOrdersRespectDependencies_5) (.cond (.t 30) (.seq (.reg Try.r_law6_DepgraphOrdersRespectDependencies_6) .ret) .skip)) (.seq (.seq (.reg Try.r_law6_DepgraphOrdersRespectDependencies_7) (.cond (.t 50) (.seq (.reg Try.r_law6_DepgraphOrdersRespectDependencies_8) .ret) .skip)) (.seq (.seq (.reg Try.r_law6_DepgraphOrdersRespectDependencies_9) (.block 0 (.loop (.seq (.seq (.reg Try.r_law6_DepgraphOrdersRespectDependencies_10) (.cond (.t 54) .skip (.exit 0))) (.seq (.block 1 (.seq (.seq (.reg Try.r_law6_DepgraphOrdersRespectDependencies_11) (.cond (.t 75) (.seq (.reg Try.r_law6_DepgraphOrdersRespectDependencies_12) .ret) .skip)) (.seq (.reg Try.r_law6_DepgraphOrdersRespectDependencies_13) (.seq (.seq (.reg Try.r_law6_DepgraphOrdersRespectDependencies_14) (.block 2 (.loop (.seq (.seq (.reg Try.r_law6_DepgraphOrdersRespectDependencies_15) (.cond (.t 82) .skip (.exit 2))) (.seq (.block 3 (.seq (.reg Try.r_law6_DepgraphOrdersRespectDependencies_16) (.seq (.seq (.reg Try.r_law6_DepgraphOrdersRespectDependencies_17) (.cond (.t 117) (.seq (.reg Try.r_law6_DepgraphOrdersRespectDependencies_18) .ret) .skip)) (.reg Try.r_law6_DepgraphOrdersRespectDependencies_19)))) (.reg Try.r_law6_DepgraphOrdersRespectDependencies_20)))))) (.seq (.reg Try.r_law6_DepgraphOrdersRespectDependencies_21) (.cond (.t 140) (.seq (.reg Try.r_law6_DepgraphOrdersRespectDependencies_22) .ret) .skip)))))) (.reg Try.r_law6_DepgraphOrdersRespectDependencies_23)))))) (.seq (.reg Try.r_law6_DepgraphOrdersRespectDependencies_24) .ret))))))))
theorem Try.c_law6_DepgraphOrdersRespectDependencies : fnComp Try.prog 5 = some (141, Try.l_law6_DepgraphOrdersRespectDependencies, [.t 2]) := by kernel_rfl

/- 6 changeforge/changeforgelaw6.DepgraphCyclesExplainFailures -/
def Try.r_law6_DepgraphCyclesExplainFailures_0 : LReg := ⟨[⟨(some 2), none, .mv (.c (.bool false))⟩], false, []⟩
def Try.r_law6_DepgraphCyclesExplainFailures_1 : LReg := ⟨[⟨(some 10), none, .mv (.t 0)⟩,
  ⟨(some 11), none, .call 20 [(.t 10)]⟩,
  ⟨(some 9), none, .mv (.t 11)⟩,
  ⟨(some 12), none, .extract 0 (.t 9)⟩,
  ⟨(some 13), none, .extract 1 (.t 9)⟩,
  ⟨(some 4), none, .alloc 25 2 [.int .i64 (0), .int .i64 (0)]⟩,
  ⟨(some 3), none, .mv (.t 12)⟩,
  ⟨none, none, .store 2 (.t 4) (.t 13)⟩], false, []⟩
def Try.r_law6_DepgraphCyclesExplainFailures_2 : LReg := ⟨[⟨(some 15), none, .mv (.t 0)⟩,
  ⟨(some 16), none, .call 12 [(.t 15)]⟩,
  ⟨(some 14), none, .mv (.t 16)⟩,
  ⟨(some 17), none, .extract 0 (.t 14)⟩,
  ⟨(some 18), none, .extract 1 (.t 14)⟩,
  ⟨(some 19), none, .extract 2 (.t 14)⟩,
  ⟨(some 7), none, .alloc 25 2 [.int .i64 (0), .int .i64 (0)]⟩,
  ⟨(some 5), none, .mv (.t 17)⟩,
  ⟨(some 6), none, .mv (.t 18)⟩,
  ⟨none, none, .store 2 (.t 7) (.t 19)⟩], false, []⟩
def Try.r_law6_DepgraphCyclesExplainFailures_3 : LReg := ⟨[⟨(some 20), none, .call 10 []⟩,
  ⟨(some 21), none, .un .not (.t 20)⟩,
  ⟨(some 22), none, .mv (.t 21)⟩,
  ⟨(some 23), (some (22, false)), .fieldAddr 0 (.t 7)⟩,
  ⟨(some 24), (some (22, false)), .load 1 false (.t 23)⟩,
  ⟨(some 25), (some (22, false)), .bin .neq (.t 24) (.c (.int .i64 (0)))⟩,
  ⟨(some 26), none, .pick (.t 22) (.c (.bool true)) (.t 25)⟩], false, []⟩
def Try.r_law6_DepgraphCyclesExplainFailures_4 : LReg := ⟨[⟨(some 27), none, .call 10 []⟩,
  ⟨(some 28), none, .mv (.t 27)⟩,
  ⟨(some 29), (some (28, true)), .mv (.t 6)⟩,
  ⟨(some 30), (some (28, true)), .un .not (.t 29)⟩,
  ⟨(some 31), none, .pick (.t 28) (.t 30) (.c (.bool false))⟩,
  ⟨(some 32), none, .mv (.t 31)⟩,
  ⟨(some 33), (some (32, true)), .mv (.t 5)⟩,
  ⟨(some 34), (some (32, true)), .len (.t 33)⟩,
  ⟨(some 35), (some (32, true)), .bin .eql (.t 34) (.c (.int .i64 (0)))⟩,
  ⟨(some 36), none, .pick (.t 32) (.t 35) (.c (.bool false))⟩,
  ⟨(some 37), none, .mv (.t 36)⟩,
  ⟨(some 38), (some (37, true)), .load 2 true (.t 4)⟩,
  ⟨(some 39), (some (37, true)), .load 2 true (.t 7)⟩,
  ⟨(some 40), (some (37, true)), .eqs false [0, 0] (.t 38) (.t 39)⟩,
  ⟨(some 41), none, .pick (.t 37) (.t 40) (.c (.bool false))⟩,
  ⟨(some 2), none, .mv (.t 41)⟩], false, []⟩
def Try.r_law6_DepgraphCyclesExplainFailures_5 : LReg := ⟨[⟨(some 42), none, .mv (.t 6)⟩,
  ⟨(some 43), none, .un .not (.t 42)⟩], false, []⟩
def Try.r_law6_DepgraphCyclesExplainFailures_6 : LReg := ⟨[⟨(some 44), none, .fieldAddr 0 (.t 4)⟩,
  ⟨(some 45), none, .load 1 false (.t 44)⟩,
  ⟨(some 46), none, .bin .eql (.t 45) (.c (.int .i64 (0)))⟩,
  ⟨(some 47), none, .mv (.t 46)⟩,
  ⟨(some 48), (some (47, true)), .mv (.t 5)⟩,
  ⟨(some 49), (some (47, true)), .len (.t 48)⟩,
  ⟨(some 50), (some (47, true)), .bin .eql (.t 49) (.c (.int .i64 (0)))⟩,
  ⟨(some 51), none, .pick (.t 47) (.t 50) (.c (.bool false))⟩,
  ⟨(some 2), none, .mv (.t 51)⟩], false, []⟩
def Try.r_law6_DepgraphCyclesExplainFailures_7 : LReg := ⟨[⟨(some 52), none, .mv (.t 5)⟩,
  ⟨(some 53), none, .len (.t 52)⟩,
  ⟨(some 54), none, .bin .eql (.t 53) (.c (.int .i64 (0)))⟩,
  ⟨(some 55), none, .mv (.t 54)⟩,
  ⟨(some 56), (some (55, false)), .load 2 true (.t 4)⟩,
  ⟨(some 57), (some (55, false)), .mv (.t 5)⟩,
  ⟨(some 58), (some (55, false)), .idx 1 (.t 57) (.c (.int .i64 (0)))⟩,
  ⟨(some 59), (some (55, false)), .load 1 false (.t 58)⟩,
  ⟨(some 60), (some (55, false)), .call 19 [(.c (.int .i64 (20))), (.t 59)]⟩,
  ⟨(some 61), (some (55, false)), .eqs true [0, 0] (.t 56) (.t 60)⟩,
  ⟨(some 62), none, .pick (.t 55) (.c (.bool true)) (.t 61)⟩], true, [(4, 6), (4, 7), (4, 8)]⟩
def Try.r_law6_DepgraphCyclesExplainFailures_8 : LReg := ⟨[⟨(some 2), none, .mv (.c (.bool false))⟩], false, []⟩
def Try.r_law6_DepgraphCyclesExplainFailures_9 : LReg := ⟨[⟨(some 8), none, .mv (.c (.int .i64 (0)))⟩], false, []⟩
def Try.r_law6_DepgraphCyclesExplainFailures_10 : LReg := ⟨[⟨(some 63), none, .mv (.t 8)⟩,
  ⟨(some 64), none, .mv (.t 5)⟩,
  ⟨(some 65), none, .len (.t 64)⟩,
  ⟨(some 66), none, .bin .lss (.t 63) (.t 65)⟩], false, []⟩
def Try.r_law6_DepgraphCyclesExplainFailures_11 : LReg := ⟨[⟨(some 69), none, .mv (.t 5)⟩,
  ⟨(some 70), none, .mv (.t 8)⟩,
  ⟨(some 71), none, .idx 1 (.t 69) (.t 70)⟩,
  ⟨(some 72), none, .load 1 false (.t 71)⟩,
  ⟨(some 73), none, .mv (.t 0)⟩,
  ⟨(some 74), none, .len (.t 73)⟩,
  ⟨(some 75), none, .bin .sub (.t 74) (.c (.int .i64 (1)))⟩,
  ⟨(some 76), none, .call 25 [(.t 72), (.c (.int .i64 (0))), (.t 75)]⟩,
  ⟨(some 77), none, .un .not (.t 76)⟩,
  ⟨(some 78), none, .mv (.t 77)⟩,
  ⟨(some 79), (some (78, false)), .mv (.t 5)⟩,
  ⟨(some 80), (some (78, false)), .mv (.t 5)⟩,
  ⟨(some 81), (some (78, false)), .mv (.t 8)⟩,
  ⟨(some 82), (some (78, false)), .idx 1 (.t 80) (.t 81)⟩,
  ⟨(some 83), (some (78, false)), .load 1 false (.t 82)⟩,
  ⟨(some 84), (some (78, false)), .call 24 [(.t 79), (.t 83)]⟩,
  ⟨(some 85), (some (78, false)), .mv (.t 8)⟩,
  ⟨(some 86), (some (78, false)), .bin .neq (.t 84) (.t 85)⟩,
  ⟨(some 87), none, .pick (.t 78) (.c (.bool true)) (.t 86)⟩,
  ⟨(some 88), none, .mv (.t 87)⟩,
  ⟨(some 89), (some (88, false)), .mv (.t 5)⟩,
  ⟨(some 90), (some (88, false)), .mv (.t 8)⟩,
  ⟨(some 91), (some (88, false)), .idx 1 (.t 89) (.t 90)⟩,
  ⟨(some 92), (some (88, false)), .load 1 false (.t 91)⟩,
  ⟨(some 93), (some (88, false)), .mv (.t 5)⟩,
  ⟨(some 94), (some (88, false)), .idx 1 (.t 93) (.c (.int .i64 (0)))⟩,
  ⟨(some 95), (some (88, false)), .load 1 false (.t 94)⟩,
  ⟨(some 96), (some (88, false)), .bin .lss (.t 92) (.t 95)⟩,
  ⟨(some 97), none, .pick (.t 88) (.c (.bool true)) (.t 96)⟩], true, [(2, 5), (3, 5), (22, 25), (23, 25), (22, 26), (23, 26)]⟩
def Try.r_law6_DepgraphCyclesExplainFailures_12 : LReg := ⟨[⟨(some 2), none, .mv (.c (.bool false))⟩], false, []⟩
def Try.r_law6_DepgraphCyclesExplainFailures_13 : LReg := ⟨[⟨(some 98), none, .mv (.t 0)⟩,
  ⟨(some 99), none, .mv (.t 5)⟩,
  ⟨(some 100), none, .mv (.t 8)⟩,
  ⟨(some 101), none, .idx 1 (.t 99) (.t 100)⟩,
  ⟨(some 102), none, .load 1 false (.t 101)⟩,
  ⟨(some 103), none, .idx 1 (.t 98) (.t 102)⟩,
  ⟨(some 104), none, .load 1 false (.t 103)⟩,
  ⟨(some 105), none, .mv (.t 5)⟩,
  ⟨(some 106), none, .mv (.t 8)⟩,
  ⟨(some 107), none, .bin .add (.t 106) (.c (.int .i64 (1)))⟩,
  ⟨(some 108), none, .mv (.t 5)⟩,
  ⟨(some 109), none, .len (.t 108)⟩,
  ⟨(some 110), none, .bin .rem (.t 107) (.t 109)⟩,
  ⟨(some 111), none, .idx 1 (.t 105) (.t 110)⟩,
  ⟨(some 112), none, .load 1 false (.t 111)⟩,
  ⟨(some 113), none, .call 26 [(.t 104), (.t 112)]⟩,
  ⟨(some 114), none, .un .not (.t 113)⟩], true, [(3, 11), (4, 11), (5, 11), (6, 11), (3, 13), (4, 13), (5, 13), (6, 13), (3, 14), (4, 14), (5, 14), (6, 14)]⟩
def Try.r_law6_DepgraphCyclesExplainFailures_14 : LReg := ⟨[⟨(some 2), none, .mv (.c (.bool false))⟩], false, []⟩
def Try.r_law6_DepgraphCyclesExplainFailures_15 : LReg := ⟨[⟨(some 67), none, .mv (.t 8)⟩,
  ⟨(some 68), none, .bin .add (.t 67) (.c (.int .i64 (1)))⟩,
  ⟨(some 8), none, .mv (.t 68)⟩], false, []⟩
def Try.r_law6_DepgraphCyclesExplainFailures_16 : LReg := ⟨[⟨(some 2), none, .mv (.c (.bool true))⟩], false, []⟩
def Try.l_law6_DepgraphCyclesExplainFailures : LCode := (.seq (.reg Try.r_law6_DepgraphCyclesExplainFailures_0) (.seq (.reg Try.r_law6_DepgraphCyclesExplainFailures_1) (.seq (.reg Try.r_law6_DepgraphCyclesExplainFailures_2) (.seq (.seq (.reg Try.r_law6_DepgraphCyclesExplainFailures_3) (.cond (.t 26) (.seq (.reg Try.r_law6_DepgraphCyclesExplainFailures_4) .ret) .skip)) (.seq (.seq (.reg Try.r_law6_DepgraphCyclesExplainFailures_5) (.cond (.t 43) (.seq (.reg Try.r_law6_DepgraphCyclesExplainFailures_6) .ret) .skip)) (.seq (.seq (.reg Try.r_law6_DepgraphCyclesExplainFailures_7) (.cond (.t 62) (.seq (.reg Try.r_law6_DepgraphCyclesExplainFailures_8) .ret) .skip)) (.seq (.seq (.reg Try.r_law6_DepgraphCyclesExplainFailures_9) (.block 0 (.loop (.seq (.seq (.reg Try.r_law6_DepgraphCyclesExplainFailures_10) (.cond (.t 66) .skip (.exit 0))) (.seq (.block 1 (.seq (.seq (.reg Try.r_law6_DepgraphCyclesExplainFailures_11) (.cond (.t 97) (.seq (.reg Try.r_law6_DepgraphCyclesExplainFailures_12) .ret) .skip)) (.seq (.reg Try.r_law6_DepgraphCyclesExplainFailures_13) (.cond (.t 114) (.seq (.reg Try.r_law6_DepgraphCyclesExplainFailures_14) .ret) .skip)))) (.reg Try.r_law6_DepgraphCyclesExplainFailures_15)))))) (.seq (.reg Try.r_law6_DepgraphCyclesExplainFailures_16) .ret))))))))
theorem Try.c_law6_DepgraphCyclesExplainFailures : fnComp Try.prog 6 = some (115, Try.l_law6_DepgraphCyclesExplainFailures, [.t 2]) := by kernel_rfl

/- 27 changeforge/changeforgelaw6.joined -/
def Try.r_law6_joined_0 : LReg := ⟨[⟨(some 4), none, .mv (.c (.nils))⟩], false, []⟩
def Try.r_law6_joined_1 : LReg := ⟨[⟨(some 5), none, .mv (.c (.nils))⟩], false, []⟩
def Try.r_law6_joined_2 : LReg := ⟨[⟨(some 6), none, .mv (.c (.int .i64 (0)))⟩], false, []⟩
def Try.r_law6_joined_3 : LReg := ⟨[⟨(some 7), none, .mv (.t 6)⟩,
  ⟨(some 8), none, .bin .lss (.t 7) (.c (.int .i64 (24)))⟩], false, []⟩
def Try.r_law6_joined_4 : LReg := ⟨[⟨(some 11), none, .mv (.t 0)⟩,
  ⟨(some 12), none, .mv (.t 6)⟩,
  ⟨(some 13), none, .call 26 [(.t 11), (.t 12)]⟩,
  ⟨(some 14), none, .mv (.t 13)⟩,
  ⟨(some 15), (some (14, false)), .mv (.t 1)⟩,
  ⟨(some 16), (some (14, false)), .mv (.t 6)⟩,
  ⟨(some 17), (some (14, false)), .call 26 [(.t 15), (.t 16)]⟩,
  ⟨(some 18), none, .pick (.t 14) (.c (.bool true)) (.t 17)⟩], false, []⟩
def Try.r_law6_joined_5 : LReg := ⟨[⟨(some 19), none, .mv (.t 5)⟩,
  ⟨(some 20), none, .mv (.t 6)⟩,
  ⟨(some 21), none, .mkSlice 3 1 1 [.int .i64 (0)] [(0, (.t 20))]⟩,
  ⟨(some 22), none, .append 3 1 8 (.t 19) (.t 21)⟩,
  ⟨(some 5), none, .mv (.t 22)⟩], false, []⟩
def Try.r_law6_joined_6 : LReg := ⟨[⟨(some 9), none, .mv (.t 6)⟩,
  ⟨(some 10), none, .bin .add (.t 9) (.c (.int .i64 (1)))⟩,
  ⟨(some 6), none, .mv (.t 10)⟩], false, []⟩
def Try.r_law6_joined_7 : LReg := ⟨[⟨(some 23), none, .mv (.t 5)⟩,
  ⟨(some 4), none, .mv (.t 23)⟩], false, []⟩
def Try.l_law6_joined : LCode := (.seq (.reg Try.r_law6_joined_0) (.seq (.reg Try.r_law6_joined_1) (.seq (.seq (.reg Try.r_law6_joined_2) (.block 0 (.loop (.seq (.seq (.reg Try.r_law6_joined_3) (.cond (.t 8) .skip (.exit 0))) (.seq (.block 1 (.seq (.reg Try.r_law6_joined_4) (.cond (.t 18) (.reg Try.r_law6_joined_5) .skip))) (.reg Try.r_law6_joined_6)))))) (.seq (.reg Try.r_law6_joined_7) .ret))))
theorem Try.c_law6_joined : fnComp Try.prog 27 = some (24, Try.l_law6_joined, [.t 4]) := by kernel_rfl

/- 7 changeforge/changeforgelaw6.DepgraphAffectedIsAClosure -/
def Try.r_law6_DepgraphAffectedIsAClosure_0 : LReg := ⟨[⟨(some 6), none, .mv (.c (.bool false))⟩], false, []⟩
def Try.r_law6_DepgraphAffectedIsAClosure_1 : LReg := ⟨[⟨(some 16), none, .mv (.t 0)⟩,
  ⟨(some 17), none, .mv (.t 1)⟩,
  ⟨(some 18), none, .call 17 [(.t 16), (.t 17)]⟩,
  ⟨(some 15), none, .mv (.t 18)⟩,
  ⟨(some 19), none, .extract 0 (.t 15)⟩,
  ⟨(some 20), none, .extract 1 (.t 15)⟩,
  ⟨(some 8), none, .alloc 25 2 [.int .i64 (0), .int .i64 (0)]⟩,
  ⟨(some 7), none, .mv (.t 19)⟩,
  ⟨none, none, .store 2 (.t 8) (.t 20)⟩], false, []⟩
def Try.r_law6_DepgraphAffectedIsAClosure_2 : LReg := ⟨[⟨(some 22), none, .mv (.t 0)⟩,
  ⟨(some 23), none, .mv (.t 2)⟩,
  ⟨(some 24), none, .call 17 [(.t 22), (.t 23)]⟩,
  ⟨(some 21), none, .mv (.t 24)⟩,
  ⟨(some 25), none, .extract 0 (.t 21)⟩,
  ⟨(some 26), none, .extract 1 (.t 21)⟩,
  ⟨(some 10), none, .alloc 25 2 [.int .i64 (0), .int .i64 (0)]⟩,
  ⟨(some 9), none, .mv (.t 25)⟩,
  ⟨none, none, .store 2 (.t 10) (.t 26)⟩], false, []⟩
def Try.r_law6_DepgraphAffectedIsAClosure_3 : LReg := ⟨[⟨(some 27), none, .call 10 []⟩,
  ⟨(some 28), none, .un .not (.t 27)⟩], false, []⟩
def Try.r_law6_DepgraphAffectedIsAClosure_4 : LReg := ⟨[⟨(some 6), none, .mv (.c (.bool false))⟩], false, []⟩
def Try.r_law6_DepgraphAffectedIsAClosure_5 : LReg := ⟨[⟨(some 29), none, .fieldAddr 0 (.t 8)⟩,
  ⟨(some 30), none, .load 1 false (.t 29)⟩,
  ⟨(some 31), none, .bin .neq (.t 30) (.c (.int .i64 (0)))⟩,
  ⟨(some 32), none, .mv (.t 31)⟩,
  ⟨(some 33), (some (32, false)), .fieldAddr 0 (.t 10)⟩,
  ⟨(some 34), (some (32, false)), .load 1 false (.t 33)⟩,
  ⟨(some 35), (some (32, false)), .bin .neq (.t 34) (.c (.int .i64 (0)))⟩,
  ⟨(some 36), none, .pick (.t 32) (.c (.bool true)) (.t 35)⟩], false, []⟩
def Try.r_law6_DepgraphAffectedIsAClosure_6 : LReg := ⟨[⟨(some 37), none, .fieldAddr 0 (.t 8)⟩,
  ⟨(some 38), none, .load 1 false (.t 37)⟩,
  ⟨(some 39), none, .bin .eql (.t 38) (.c (.int .i64 (0)))⟩,
  ⟨(some 40), none, .mv (.t 39)⟩,
  ⟨(some 41), (some (40, false)), .mv (.t 7)⟩,
  ⟨(some 42), (some (40, false)), .len (.t 41)⟩,
  ⟨(some 43), (some (40, false)), .bin .eql (.t 42) (.c (.int .i64 (0)))⟩,
  ⟨(some 44), none, .pick (.t 40) (.c (.bool true)) (.t 43)⟩,
  ⟨(some 45), none, .mv (.t 44)⟩,
  ⟨(some 46), (some (45, true)), .fieldAddr 0 (.t 10)⟩,
  ⟨(some 47), (some (45, true)), .load 1 false (.t 46)⟩,
  ⟨(some 48), (some (45, true)), .bin .eql (.t 47) (.c (.int .i64 (0)))⟩,
  ⟨(some 49), (some (45, true)), .mv (.t 48)⟩,
  ⟨(some 50), (some (49, false)), .mv (.t 9)⟩,
  ⟨(some 51), (some (49, false)), .len (.t 50)⟩,
  ⟨(some 52), (some (49, false)), .bin .eql (.t 51) (.c (.int .i64 (0)))⟩,
  ⟨(some 53), (some (45, true)), .pick (.t 49) (.c (.bool true)) (.t 52)⟩,
  ⟨(some 54), none, .pick (.t 45) (.t 53) (.c (.bool false))⟩,
  ⟨(some 6), none, .mv (.t 54)⟩], false, []⟩
def Try.r_law6_DepgraphAffectedIsAClosure_7 : LReg := ⟨[⟨(some 56), none, .mv (.t 0)⟩,
  ⟨(some 57), none, .mv (.t 7)⟩,
  ⟨(some 58), none, .call 17 [(.t 56), (.t 57)]⟩,
  ⟨(some 55), none, .mv (.t 58)⟩,
  ⟨(some 59), none, .extract 0 (.t 55)⟩,
  ⟨(some 60), none, .extract 1 (.t 55)⟩,
  ⟨(some 12), none, .alloc 25 2 [.int .i64 (0), .int .i64 (0)]⟩,
  ⟨(some 11), none, .mv (.t 59)⟩,
  ⟨none, none, .store 2 (.t 12) (.t 60)⟩], false, []⟩
def Try.r_law6_DepgraphAffectedIsAClosure_8 : LReg := ⟨[⟨(some 62), none, .mv (.t 0)⟩,
  ⟨(some 63), none, .mv (.t 1)⟩,
  ⟨(some 64), none, .mv (.t 2)⟩,
  ⟨(some 65), none, .call 27 [(.t 63), (.t 64)]⟩,
  ⟨(some 66), none, .call 17 [(.t 62), (.t 65)]⟩,
  ⟨(some 61), none, .mv (.t 66)⟩,
  ⟨(some 67), none, .extract 0 (.t 61)⟩,
  ⟨(some 68), none, .extract 1 (.t 61)⟩,
  ⟨(some 14), none, .alloc 25 2 [.int .i64 (0), .int .i64 (0)]⟩,
  ⟨(some 13), none, .mv (.t 67)⟩,
  ⟨none, none, .store 2 (.t 14) (.t 68)⟩], false, []⟩
def Try.r_law6_DepgraphAffectedIsAClosure_9 : LReg := ⟨[⟨(some 69), none, .fieldAddr 0 (.t 12)⟩,
  ⟨(some 70), none, .load 1 false (.t 69)⟩,
  ⟨(some 71), none, .bin .eql (.t 70) (.c (.int .i64 (0)))⟩,
  ⟨(some 72), none, .mv (.t 71)⟩,
  ⟨(some 73), (some (72, true)), .fieldAddr 0 (.t 14)⟩,
  ⟨(some 74), (some (72, true)), .load 1 false (.t 73)⟩,
  ⟨(some 75), (some (72, true)), .bin .eql (.t 74) (.c (.int .i64 (0)))⟩,
  ⟨(some 76), none, .pick (.t 72) (.t 75) (.c (.bool false))⟩,
  ⟨(some 77), none, .mv (.t 76)⟩,
  ⟨(some 78), (some (77, true)), .mv (.t 11)⟩,
  ⟨(some 79), (some (77, true)), .mv (.t 7)⟩,
  ⟨(some 80), (some (77, true)), .call 14 [(.t 78), (.t 79)]⟩,
  ⟨(some 81), none, .pick (.t 77) (.t 80) (.c (.bool false))⟩,
  ⟨(some 82), none, .mv (.t 81)⟩,
  ⟨(some 83), (some (82, true)), .mv (.t 1)⟩,
  ⟨(some 84), (some (82, true)), .mv (.t 7)⟩,
  ⟨(some 85), (some (82, true)), .call 27 [(.t 83), (.t 84)]⟩,
  ⟨(some 86), (some (82, true)), .mv (.t 7)⟩,
  ⟨(some 87), (some (82, true)), .call 14 [(.t 85), (.t 86)]⟩,
  ⟨(some 88), none, .pick (.t 82) (.t 87) (.c (.bool false))⟩,
  ⟨(some 89), none, .mv (.t 88)⟩,
  ⟨(some 90), (some (89, true)), .mv (.t 13)⟩,
  ⟨(some 91), (some (89, true)), .mv (.t 7)⟩,
  ⟨(some 92), (some (89, true)), .mv (.t 9)⟩,
  ⟨(some 93), (some (89, true)), .call 27 [(.t 91), (.t 92)]⟩,
  ⟨(some 94), (some (89, true)), .call 14 [(.t 90), (.t 93)]⟩,
  ⟨(some 95), none, .pick (.t 89) (.t 94) (.c (.bool false))⟩,
  ⟨(some 6), none, .mv (.t 95)⟩], false, []⟩
def Try.l_law6_DepgraphAffectedIsAClosure : LCode := (.seq (.reg Try.r_law6_DepgraphAffectedIsAClosure_0) (.seq (.reg Try.r_law6_DepgraphAffectedIsAClosure_1) (.seq (.reg Try.r_law6_DepgraphAffectedIsAClosure_2) (.seq (.seq (.reg Try.r_law6_DepgraphAffectedIsAClosure_3) (.cond (.t 28) (.seq (.reg Try.r_law6_DepgraphAffectedIsAClosure_4) .ret) .skip)) (.seq (.seq (.reg Try.r_law6_DepgraphAffectedIsAClosure_5) (.cond (.t 36) (.seq (.reg Try.r_law6_DepgraphAffectedIsAClosure_6) .ret) .skip)) (.seq (.reg Try.r_law6_DepgraphAffectedIsAClosure_7) (.seq (.reg Try.r_law6_DepgraphAffectedIsAClosure_8) (.seq (.reg Try.r_law6_DepgraphAffectedIsAClosure_9) .ret))))))))
theorem Try.c_law6_DepgraphAffectedIsAClosure : fnComp Try.prog 7 = some (96, Try.l_law6_DepgraphAffectedIsAClosure, [.t 6]) := by kernel_rfl

/- 8 changeforge/changeforgelaw6.DepgraphAffectedNodesDepend -/
def Try.r_law6_DepgraphAffectedNodesDepend_0 : LReg := ⟨[⟨(some 4), none, .mv (.c (.bool false))⟩], false, []⟩
def Try.r_law6_DepgraphAffectedNodesDepend_1 : LReg := ⟨[⟨(some 11), none, .mv (.t 0)⟩,
  ⟨(some 12), none, .mv (.t 1)⟩,
  ⟨(some 13), none, .call 17 [(.t 11), (.t 12)]⟩,
  ⟨(some 10), none, .mv (.t 13)⟩,
  ⟨(some 14), none, .extract 0 (.t 10)⟩,
  ⟨(some 15), none, .extract 1 (.t 10)⟩,
  ⟨(some 6), none, .alloc 25 2 [.int .i64 (0), .int .i64 (0)]⟩,
  ⟨(some 5), none, .mv (.t 14)⟩,
  ⟨none, none, .store 2 (.t 6) (.t 15)⟩], false, []⟩
def Try.r_law6_DepgraphAffectedNodesDepend_2 : LReg := ⟨[⟨(some 16), none, .call 10 []⟩,
  ⟨(some 17), none, .un .not (.t 16)⟩,
  ⟨(some 18), none, .mv (.t 17)⟩,
  ⟨(some 19), (some (18, false)), .fieldAddr 0 (.t 6)⟩,
  ⟨(some 20), (some (18, false)), .load 1 false (.t 19)⟩,
  ⟨(some 21), (some (18, false)), .bin .neq (.t 20) (.c (.int .i64 (0)))⟩,
  ⟨(some 22), none, .pick (.t 18) (.c (.bool true)) (.t 21)⟩], false, []⟩
def Try.r_law6_DepgraphAffectedNodesDepend_3 : LReg := ⟨[⟨(some 23), none, .call 10 []⟩,
  ⟨(some 24), none, .mv (.t 23)⟩,
  ⟨(some 25), (some (24, true)), .mv (.t 5)⟩,
  ⟨(some 26), (some (24, true)), .len (.t 25)⟩,
  ⟨(some 27), (some (24, true)), .bin .eql (.t 26) (.c (.int .i64 (0)))⟩,
  ⟨(some 28), none, .pick (.t 24) (.t 27) (.c (.bool false))⟩,
  ⟨(some 4), none, .mv (.t 28)⟩], false, []⟩
def Try.r_law6_DepgraphAffectedNodesDepend_4 : LReg := ⟨[⟨(some 7), none, .mv (.c (.int .i64 (0)))⟩], false, []⟩
def Try.r_law6_DepgraphAffectedNodesDepend_5 : LReg := ⟨[⟨(some 29), none, .mv (.t 7)⟩,
  ⟨(some 30), none, .mv (.t 0)⟩,
  ⟨(some 31), none, .len (.t 30)⟩,
  ⟨(some 32), none, .bin .lss (.t 29) (.t 31)⟩], false, []⟩
def Try.r_law6_DepgraphAffectedNodesDepend_6 : LReg := ⟨[⟨(some 8), none, .mv (.c (.bool false))⟩], false, []⟩
def Try.r_law6_DepgraphAffectedNodesDepend_7 : LReg := ⟨[⟨(some 9), none, .mv (.c (.int .i64 (0)))⟩], false, []⟩
def Try.r_law6_DepgraphAffectedNodesDepend_8 : LReg := ⟨[⟨(some 35), none, .mv (.t 9)⟩,
  ⟨(some 36), none, .mv (.t 0)⟩,
  ⟨(some 37), none, .mv (.t 7)⟩,
  ⟨(some 38), none, .idx 1 (.t 36) (.t 37)⟩,
  ⟨(some 39), none, .load 1 false (.t 38)⟩,
  ⟨(some 40), none, .len (.t 39)⟩,
  ⟨(some 41), none, .bin .lss (.t 35) (.t 40)⟩], false, []⟩
def Try.r_law6_DepgraphAffectedNodesDepend_9 : LReg := ⟨[⟨(some 44), none, .mv (.t 8)⟩,
  ⟨(some 45), none, .mv (.t 44)⟩,
  ⟨(some 46), (some (45, false)), .mv (.t 5)⟩,
  ⟨(some 47), (some (45, false)), .mv (.t 0)⟩,
  ⟨(some 48), (some (45, false)), .mv (.t 7)⟩,
  ⟨(some 49), (some (45, false)), .idx 1 (.t 47) (.t 48)⟩,
  ⟨(some 50), (some (45, false)), .load 1 false (.t 49)⟩,
  ⟨(some 51), (some (45, false)), .mv (.t 9)⟩,
  ⟨(some 52), (some (45, false)), .idx 1 (.t 50) (.t 51)⟩,
  ⟨(some 53), (some (45, false)), .load 1 false (.t 52)⟩,
  ⟨(some 54), (some (45, false)), .call 26 [(.t 46), (.t 53)]⟩,
  ⟨(some 55), none, .pick (.t 45) (.c (.bool true)) (.t 54)⟩,
  ⟨(some 8), none, .mv (.t 55)⟩], false, []⟩
def Try.r_law6_DepgraphAffectedNodesDepend_10 : LReg := ⟨[⟨(some 42), none, .mv (.t 9)⟩,
  ⟨(some 43), none, .bin .add (.t 42) (.c (.int .i64 (1)))⟩,
  ⟨(some 9), none, .mv (.t 43)⟩], false, []⟩
def Try.r_law6_DepgraphAffectedNodesDepend_11 : LReg := ⟨[⟨(some 56), none, .mv (.t 5)⟩,
  ⟨(some 57), none, .mv (.t 7)⟩,
  ⟨(some 58), none, .call 26 [(.t 56), (.t 57)]⟩,
  ⟨(some 59), none, .mv (.t 8)⟩,
  ⟨(some 60), none, .mv (.t 59)⟩,
  ⟨(some 61), (some (60, false)), .mv (.t 1)⟩,
  ⟨(some 62), (some (60, false)), .mv (.t 7)⟩,
  ⟨(some 63), (some (60, false)), .call 26 [(.t 61), (.t 62)]⟩,
  ⟨(some 64), none, .pick (.t 60) (.c (.bool true)) (.t 63)⟩,
  ⟨(some 65), none, .eqb true (.t 58) (.t 64)⟩], false, []⟩
def Try.r_law6_DepgraphAffectedNodesDepend_12 : LReg := ⟨[⟨(some 4), none, .mv (.c (.bool false))⟩], false, []⟩
def Try.r_law6_DepgraphAffectedNodesDepend_13 : LReg := ⟨[⟨(some 33), none, .mv (.t 7)⟩,
  ⟨(some 34), none, .bin .add (.t 33) (.c (.int .i64 (1)))⟩,
  ⟨(some 7), none, .mv (.t 34)⟩], false, []⟩
def Try.r_law6_DepgraphAffectedNodesDepend_14 : LReg := ⟨[⟨(some 4), none, .mv (.c (.bool true))⟩], false, []⟩
def Try.l_law6_DepgraphAffectedNodesDepend : LCode := (.seq (.reg Try.r_law6_DepgraphAffectedNodesDepend_0) (.seq (.reg Try.r_law6_DepgraphAffectedNodesDepend_1) (.seq (.seq (.reg Try.r_law6_DepgraphAffectedNodesDepend_2) (.cond (.t 22) (.seq (.reg Try.r_law6_DepgraphAffectedNodesDepend_3) .ret) .skip)) (.seq (.seq (.reg Try.r_law6_DepgraphAffectedNodesDepend_4) (.block 0 (.loop (.seq (.seq (.reg Try.r_law6_DepgraphAffectedNodesDepend_5) (.cond (.t 32) .skip (.exit 0))) (.seq (.block 1 (.seq (.reg Try.r_law6_DepgraphAffectedNodesDepend_6) (.seq (.seq (.reg Try.r_law6_DepgraphAffectedNodesDepend_7) (.block 2 (.loop (.seq (.seq (.reg Try.r_law6_DepgraphAffectedNodesDepend_8) (.cond (.t 41) .skip (.exit 2))) (.seq (.block 3 (.reg Try.r_law6_DepgraphAffectedNodesDepend_9)) (.reg Try.r_law6_DepgraphAffectedNodesDepend_10)))))) (.seq (.reg Try.r_law6_DepgraphAffectedNodesDepend_11) (.cond (.t 65) (.seq (.reg Try.r_law6_DepgraphAffectedNodesDepend_12) .ret) .skip))))) (.reg Try.r_law6_DepgraphAffectedNodesDepend_13)))))) (.seq (.reg Try.r_law6_DepgraphAffectedNodesDepend_14) .ret)))))
theorem Try.c_law6_DepgraphAffectedNodesDepend : fnComp Try.prog 8 = some (66, Try.l_law6_DepgraphAffectedNodesDepend, [.t 4]) := by kernel_rfl
end Go.Proofs.Ytpbfobgbpdbiaaa
