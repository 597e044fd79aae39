/- The code of the functions, as the evaluator reads it. Laid by a program (wip/gen/dec.py). -/
import Derived.Test.YtlkknmhhefjmjaaDoorProg
import Derived.Test.YtlkknmhhefjmjaaDoorPwFam
import Derived.KernelRfl
namespace Go.Proofs.YtlkknmhhefjmjaaDoor
open Go.PW Go
theorem hm : Tryd.prog.follows .mixedOrders = true := by kernel_rfl
def Tryd.r_ref5_in_0 : LReg := ⟨[⟨(some 6), none, .mv (.c (.bool false))⟩], false, []⟩
def Tryd.r_ref5_in_1 : LReg := ⟨[⟨(some 7), none, .mv (.t 0)⟩,
  ⟨(some 8), none, .mv (.t 1)⟩,
  ⟨(some 9), none, .bin .geq (.t 7) (.t 8)⟩,
  ⟨(some 10), none, .mv (.t 9)⟩,
  ⟨(some 11), (some (10, true)), .mv (.t 0)⟩,
  ⟨(some 12), (some (10, true)), .mv (.t 2)⟩,
  ⟨(some 13), (some (10, true)), .bin .leq (.t 11) (.t 12)⟩,
  ⟨(some 14), none, .pick (.t 10) (.t 13) (.c (.bool false))⟩,
  ⟨(some 6), none, .mv (.t 14)⟩], false, []⟩
def Tryd.l_ref5_in : LCode := (.seq (.reg Tryd.r_ref5_in_0) (.seq (.reg Tryd.r_ref5_in_1) .ret))
theorem Tryd.c_ref5_in : fnComp Tryd.prog 54 = some (15, Tryd.l_ref5_in, [.t 6]) := by kernel_rfl
def Tryd.r_ref5_IsDigest_0 : LReg := ⟨[⟨(some 2), none, .mv (.c (.bool false))⟩], false, []⟩
def Tryd.r_ref5_IsDigest_1 : LReg := ⟨[⟨(some 3), none, .mv (.t 0)⟩,
  ⟨(some 4), none, .call 54 [(.t 3), (.c (.int .i64 (0))), (.c (.int .i64 (2305843009213693950)))]⟩,
  ⟨(some 2), none, .mv (.t 4)⟩], false, []⟩
def Tryd.l_ref5_IsDigest : LCode := (.seq (.reg Tryd.r_ref5_IsDigest_0) (.seq (.reg Tryd.r_ref5_IsDigest_1) .ret))
theorem Tryd.c_ref5_IsDigest : fnComp Tryd.prog 18 = some (5, Tryd.l_ref5_IsDigest, [.t 2]) := by kernel_rfl
def Tryd.r_ref6_fault_0 : LReg := ⟨[⟨(some 4), none, .alloc 25 2 [.int .i64 (0), .int .i64 (0)]⟩], false, []⟩
def Tryd.r_ref6_fault_1 : LReg := ⟨[⟨(some 5), none, .mv (.t 0)⟩,
  ⟨(some 6), none, .mv (.t 1)⟩,
  ⟨(some 7), none, .build [.int .i64 (0), .int .i64 (0)] [(0, 1, (.t 5)), (1, 1, (.t 6))]⟩,
  ⟨none, none, .store 2 (.t 4) (.t 7)⟩], false, []⟩
def Tryd.l_ref6_fault : LCode := (.seq (.reg Tryd.r_ref6_fault_0) (.seq (.reg Tryd.r_ref6_fault_1) .ret))
theorem Tryd.c_ref6_fault : fnComp Tryd.prog 48 = some (8, Tryd.l_ref6_fault, [.cell 4 2 true]) := by kernel_rfl
def Tryd.r_ref2_pathByte_0 : LReg := ⟨[⟨(some 2), none, .mv (.c (.bool false))⟩], false, []⟩
def Tryd.r_ref2_pathByte_1 : LReg := ⟨[⟨(some 3), none, .mv (.t 0)⟩,
  ⟨(some 4), none, .bin .geq (.t 3) (.c (.int .u8 (97)))⟩,
  ⟨(some 5), none, .mv (.t 4)⟩,
  ⟨(some 6), (some (5, true)), .mv (.t 0)⟩,
  ⟨(some 7), (some (5, true)), .bin .leq (.t 6) (.c (.int .u8 (122)))⟩,
  ⟨(some 8), none, .pick (.t 5) (.t 7) (.c (.bool false))⟩,
  ⟨(some 9), none, .mv (.t 8)⟩,
  ⟨(some 10), (some (9, false)), .mv (.t 0)⟩,
  ⟨(some 11), (some (9, false)), .bin .geq (.t 10) (.c (.int .u8 (65)))⟩,
  ⟨(some 12), (some (9, false)), .mv (.t 11)⟩,
  ⟨(some 13), (some (12, true)), .mv (.t 0)⟩,
  ⟨(some 14), (some (12, true)), .bin .leq (.t 13) (.c (.int .u8 (90)))⟩,
  ⟨(some 15), (some (9, false)), .pick (.t 12) (.t 14) (.c (.bool false))⟩,
  ⟨(some 16), none, .pick (.t 9) (.c (.bool true)) (.t 15)⟩,
  ⟨(some 17), none, .mv (.t 16)⟩,
  ⟨(some 18), (some (17, false)), .mv (.t 0)⟩,
  ⟨(some 19), (some (17, false)), .bin .geq (.t 18) (.c (.int .u8 (48)))⟩,
  ⟨(some 20), (some (17, false)), .mv (.t 19)⟩,
  ⟨(some 21), (some (20, true)), .mv (.t 0)⟩,
  ⟨(some 22), (some (20, true)), .bin .leq (.t 21) (.c (.int .u8 (57)))⟩,
  ⟨(some 23), (some (17, false)), .pick (.t 20) (.t 22) (.c (.bool false))⟩,
  ⟨(some 24), none, .pick (.t 17) (.c (.bool true)) (.t 23)⟩,
  ⟨(some 25), none, .mv (.t 24)⟩,
  ⟨(some 26), (some (25, false)), .mv (.t 0)⟩,
  ⟨(some 27), (some (25, false)), .bin .eql (.t 26) (.c (.int .u8 (46)))⟩,
  ⟨(some 28), none, .pick (.t 25) (.c (.bool true)) (.t 27)⟩,
  ⟨(some 29), none, .mv (.t 28)⟩,
  ⟨(some 30), (some (29, false)), .mv (.t 0)⟩,
  ⟨(some 31), (some (29, false)), .bin .eql (.t 30) (.c (.int .u8 (95)))⟩,
  ⟨(some 32), none, .pick (.t 29) (.c (.bool true)) (.t 31)⟩,
  ⟨(some 33), none, .mv (.t 32)⟩,
  ⟨(some 34), (some (33, false)), .mv (.t 0)⟩,
  ⟨(some 35), (some (33, false)), .bin .eql (.t 34) (.c (.int .u8 (45)))⟩,
  ⟨(some 36), none, .pick (.t 33) (.c (.bool true)) (.t 35)⟩,
  ⟨(some 2), none, .mv (.t 36)⟩], false, []⟩
def Tryd.l_ref2_pathByte : LCode := (.seq (.reg Tryd.r_ref2_pathByte_0) (.seq (.reg Tryd.r_ref2_pathByte_1) .ret))
theorem Tryd.c_ref2_pathByte : fnComp Tryd.prog 113 = some (37, Tryd.l_ref2_pathByte, [.t 2]) := by kernel_rfl
def Tryd.r_ref2_PathValid_0 : LReg := ⟨[⟨(some 2), none, .mv (.c (.bool false))⟩], false, []⟩
def Tryd.r_ref2_PathValid_1 : LReg := ⟨[⟨(some 6), none, .mv (.t 0)⟩,
  ⟨(some 7), none, .slen (.t 6)⟩,
  ⟨(some 8), none, .bin .gtr (.t 7) (.c (.int .i64 (60)))⟩], false, []⟩
def Tryd.r_ref2_PathValid_2 : LReg := ⟨[⟨(some 2), none, .mv (.c (.bool false))⟩], false, []⟩
def Tryd.r_ref2_PathValid_3 : LReg := ⟨[⟨(some 9), none, .mv (.t 0)⟩,
  ⟨(some 10), none, .slen (.t 9)⟩,
  ⟨(some 3), none, .mv (.t 10)⟩], false, []⟩
def Tryd.r_ref2_PathValid_4 : LReg := ⟨[⟨(some 11), none, .mv (.t 0)⟩,
  ⟨(some 12), none, .slen (.t 11)⟩,
  ⟨(some 13), none, .bin .sub (.t 12) (.c (.int .i64 (1)))⟩,
  ⟨(some 4), none, .mv (.t 13)⟩], false, []⟩
def Tryd.r_ref2_PathValid_5 : LReg := ⟨[⟨(some 14), none, .mv (.t 4)⟩,
  ⟨(some 15), none, .bin .geq (.t 14) (.c (.int .i64 (-1)))⟩], false, []⟩
def Tryd.r_ref2_PathValid_6 : LReg := ⟨[⟨(some 18), none, .mv (.t 4)⟩,
  ⟨(some 19), none, .bin .geq (.t 18) (.c (.int .i64 (0)))⟩,
  ⟨(some 20), none, .mv (.t 19)⟩,
  ⟨(some 21), (some (20, true)), .mv (.t 0)⟩,
  ⟨(some 22), (some (20, true)), .mv (.t 4)⟩,
  ⟨(some 23), (some (20, true)), .sidx (.t 21) (.t 22)⟩,
  ⟨(some 24), (some (20, true)), .bin .neq (.t 23) (.c (.int .u8 (47)))⟩,
  ⟨(some 25), none, .pick (.t 20) (.t 24) (.c (.bool false))⟩], false, []⟩
def Tryd.r_ref2_PathValid_7 : LReg := ⟨[⟨(some 26), none, .mv (.t 0)⟩,
  ⟨(some 27), none, .mv (.t 4)⟩,
  ⟨(some 28), none, .sidx (.t 26) (.t 27)⟩,
  ⟨(some 29), none, .call 113 [(.t 28)]⟩,
  ⟨(some 30), none, .un .not (.t 29)⟩], false, []⟩
def Tryd.r_ref2_PathValid_8 : LReg := ⟨[⟨(some 2), none, .mv (.c (.bool false))⟩], false, []⟩
def Tryd.r_ref2_PathValid_9 : LReg := ⟨[⟨(some 31), none, .mv (.t 0)⟩,
  ⟨(some 32), none, .mv (.t 4)⟩,
  ⟨(some 33), none, .bin .add (.t 32) (.c (.int .i64 (1)))⟩,
  ⟨(some 34), none, .mv (.t 3)⟩,
  ⟨(some 35), none, .sslice (.t 31) (some (.t 33)) (some (.t 34))⟩,
  ⟨(some 5), none, .mv (.t 35)⟩], false, []⟩
def Tryd.r_ref2_PathValid_10 : LReg := ⟨[⟨(some 36), none, .mv (.t 5)⟩,
  ⟨(some 37), none, .bin .eql (.t 36) (.c (.str []))⟩,
  ⟨(some 38), none, .mv (.t 37)⟩,
  ⟨(some 39), (some (38, false)), .mv (.t 5)⟩,
  ⟨(some 40), (some (38, false)), .bin .eql (.t 39) (.c (.str [46]))⟩,
  ⟨(some 41), none, .pick (.t 38) (.c (.bool true)) (.t 40)⟩,
  ⟨(some 42), none, .mv (.t 41)⟩,
  ⟨(some 43), (some (42, false)), .mv (.t 5)⟩,
  ⟨(some 44), (some (42, false)), .bin .eql (.t 43) (.c (.str [46, 46]))⟩,
  ⟨(some 45), none, .pick (.t 42) (.c (.bool true)) (.t 44)⟩], false, []⟩
def Tryd.r_ref2_PathValid_11 : LReg := ⟨[⟨(some 2), none, .mv (.c (.bool false))⟩], false, []⟩
def Tryd.r_ref2_PathValid_12 : LReg := ⟨[⟨(some 46), none, .mv (.t 4)⟩,
  ⟨(some 3), none, .mv (.t 46)⟩], false, []⟩
def Tryd.r_ref2_PathValid_13 : LReg := ⟨[⟨(some 16), none, .mv (.t 4)⟩,
  ⟨(some 17), none, .bin .sub (.t 16) (.c (.int .i64 (1)))⟩,
  ⟨(some 4), none, .mv (.t 17)⟩], false, []⟩
def Tryd.r_ref2_PathValid_14 : LReg := ⟨[⟨(some 2), none, .mv (.c (.bool true))⟩], false, []⟩
def Tryd.l_ref2_PathValid : LCode := (.seq (.reg Tryd.r_ref2_PathValid_0) (.seq (.seq (.reg Tryd.r_ref2_PathValid_1) (.cond (.t 8) (.seq (.reg Tryd.r_ref2_PathValid_2) .ret) .skip)) (.seq (.reg Tryd.r_ref2_PathValid_3) (.seq (.seq (.reg Tryd.r_ref2_PathValid_4) (.block 0 (.loop (.seq (.seq (.reg Tryd.r_ref2_PathValid_5) (.cond (.t 15) .skip (.exit 0))) (.seq (.block 1 (.seq (.seq (.reg Tryd.r_ref2_PathValid_6) (.cond (.t 25) (.seq (.seq (.reg Tryd.r_ref2_PathValid_7) (.cond (.t 30) (.seq (.reg Tryd.r_ref2_PathValid_8) .ret) .skip)) (.exit 1)) .skip)) (.seq (.reg Tryd.r_ref2_PathValid_9) (.seq (.seq (.reg Tryd.r_ref2_PathValid_10) (.cond (.t 45) (.seq (.reg Tryd.r_ref2_PathValid_11) .ret) .skip)) (.reg Tryd.r_ref2_PathValid_12))))) (.reg Tryd.r_ref2_PathValid_13)))))) (.seq (.reg Tryd.r_ref2_PathValid_14) .ret)))))
theorem Tryd.c_ref2_PathValid : fnComp Tryd.prog 82 = some (47, Tryd.l_ref2_PathValid, [.t 2]) := by kernel_rfl
def Tryd.r_ref6_PathsFault_0 : LReg := ⟨[⟨(some 2), none, .alloc 25 2 [.int .i64 (0), .int .i64 (0)]⟩], false, []⟩
def Tryd.r_ref6_PathsFault_1 : LReg := ⟨[⟨(some 4), none, .mv (.t 0)⟩,
  ⟨(some 5), none, .len (.t 4)⟩,
  ⟨(some 6), none, .bin .gtr (.t 5) (.c (.int .i64 (24)))⟩], false, []⟩
def Tryd.r_ref6_PathsFault_2 : LReg := ⟨[⟨(some 7), none, .call 48 [(.c (.int .i64 (2))), (.c (.int .i64 (-1)))]⟩,
  ⟨none, none, .store 2 (.t 2) (.t 7)⟩], false, []⟩
def Tryd.r_ref6_PathsFault_3 : LReg := ⟨[⟨(some 3), none, .mv (.c (.int .i64 (0)))⟩], false, []⟩
def Tryd.r_ref6_PathsFault_4 : LReg := ⟨[⟨(some 8), none, .mv (.t 3)⟩,
  ⟨(some 9), none, .mv (.t 0)⟩,
  ⟨(some 10), none, .len (.t 9)⟩,
  ⟨(some 11), none, .bin .lss (.t 8) (.t 10)⟩], false, []⟩
def Tryd.r_ref6_PathsFault_5 : LReg := ⟨[⟨(some 14), none, .mv (.t 0)⟩,
  ⟨(some 15), none, .mv (.t 3)⟩,
  ⟨(some 16), none, .idx 1 (.t 14) (.t 15)⟩,
  ⟨(some 17), none, .load 1 false (.t 16)⟩,
  ⟨(some 18), none, .call 82 [(.t 17)]⟩,
  ⟨(some 19), none, .un .not (.t 18)⟩], false, []⟩
def Tryd.r_ref6_PathsFault_6 : LReg := ⟨[⟨(some 20), none, .mv (.t 3)⟩,
  ⟨(some 21), none, .call 48 [(.c (.int .i64 (12))), (.t 20)]⟩,
  ⟨none, none, .store 2 (.t 2) (.t 21)⟩], false, []⟩
def Tryd.r_ref6_PathsFault_7 : LReg := ⟨[⟨(some 22), none, .mv (.t 3)⟩,
  ⟨(some 23), none, .bin .gtr (.t 22) (.c (.int .i64 (0)))⟩,
  ⟨(some 24), none, .mv (.t 23)⟩,
  ⟨(some 25), (some (24, true)), .mv (.t 0)⟩,
  ⟨(some 26), (some (24, true)), .mv (.t 3)⟩,
  ⟨(some 27), (some (24, true)), .idx 1 (.t 25) (.t 26)⟩,
  ⟨(some 28), (some (24, true)), .load 1 false (.t 27)⟩,
  ⟨(some 29), (some (24, true)), .mv (.t 0)⟩,
  ⟨(some 30), (some (24, true)), .mv (.t 3)⟩,
  ⟨(some 31), (some (24, true)), .bin .sub (.t 30) (.c (.int .i64 (1)))⟩,
  ⟨(some 32), (some (24, true)), .idx 1 (.t 29) (.t 31)⟩,
  ⟨(some 33), (some (24, true)), .load 1 false (.t 32)⟩,
  ⟨(some 34), (some (24, true)), .bin .leq (.t 28) (.t 33)⟩,
  ⟨(some 35), none, .pick (.t 24) (.t 34) (.c (.bool false))⟩], true, [(5, 10), (6, 10), (5, 11), (6, 11)]⟩
def Tryd.r_ref6_PathsFault_8 : LReg := ⟨[⟨(some 36), none, .mv (.t 3)⟩,
  ⟨(some 37), none, .call 48 [(.c (.int .i64 (5))), (.t 36)]⟩,
  ⟨none, none, .store 2 (.t 2) (.t 37)⟩], false, []⟩
def Tryd.r_ref6_PathsFault_9 : LReg := ⟨[⟨(some 12), none, .mv (.t 3)⟩,
  ⟨(some 13), none, .bin .add (.t 12) (.c (.int .i64 (1)))⟩,
  ⟨(some 3), none, .mv (.t 13)⟩], false, []⟩
def Tryd.r_ref6_PathsFault_10 : LReg := ⟨[⟨(some 38), none, .build [.int .i64 (0), .int .i64 (0)] []⟩,
  ⟨none, none, .store 2 (.t 2) (.t 38)⟩], false, []⟩
def Tryd.l_ref6_PathsFault : LCode := (.seq (.reg Tryd.r_ref6_PathsFault_0) (.seq (.seq (.reg Tryd.r_ref6_PathsFault_1) (.cond (.t 6) (.seq (.reg Tryd.r_ref6_PathsFault_2) .ret) .skip)) (.seq (.seq (.reg Tryd.r_ref6_PathsFault_3) (.block 0 (.loop (.seq (.seq (.reg Tryd.r_ref6_PathsFault_4) (.cond (.t 11) .skip (.exit 0))) (.seq (.block 1 (.seq (.seq (.reg Tryd.r_ref6_PathsFault_5) (.cond (.t 19) (.seq (.reg Tryd.r_ref6_PathsFault_6) .ret) .skip)) (.seq (.reg Tryd.r_ref6_PathsFault_7) (.cond (.t 35) (.seq (.reg Tryd.r_ref6_PathsFault_8) .ret) .skip)))) (.reg Tryd.r_ref6_PathsFault_9)))))) (.seq (.reg Tryd.r_ref6_PathsFault_10) .ret))))
theorem Tryd.c_ref6_PathsFault : fnComp Tryd.prog 41 = some (39, Tryd.l_ref6_PathsFault, [.cell 2 2 true]) := by kernel_rfl
def Tryd.r_ref6_BomFault_0 : LReg := ⟨[⟨(some 2), none, .alloc 25 2 [.int .i64 (0), .int .i64 (0)]⟩], false, []⟩
def Tryd.r_ref6_BomFault_1 : LReg := ⟨[⟨(some 3), none, .mv (.c (.nils))⟩], false, []⟩
def Tryd.r_ref6_BomFault_2 : LReg := ⟨[⟨(some 4), none, .mv (.c (.int .i64 (0)))⟩], false, []⟩
def Tryd.r_ref6_BomFault_3 : LReg := ⟨[⟨(some 7), none, .mv (.t 4)⟩,
  ⟨(some 8), none, .mv (.t 0)⟩,
  ⟨(some 9), none, .len (.t 8)⟩,
  ⟨(some 10), none, .bin .lss (.t 7) (.t 9)⟩], false, []⟩
def Tryd.r_ref6_BomFault_4 : LReg := ⟨[⟨(some 13), none, .mv (.t 3)⟩,
  ⟨(some 14), none, .mv (.t 0)⟩,
  ⟨(some 15), none, .mv (.t 4)⟩,
  ⟨(some 16), none, .idx 2 (.t 14) (.t 15)⟩,
  ⟨(some 17), none, .fieldAddr 0 (.t 16)⟩,
  ⟨(some 18), none, .load 1 false (.t 17)⟩,
  ⟨(some 19), none, .mkSlice 9 1 1 [.str []] [(0, (.t 18))]⟩,
  ⟨(some 20), none, .append 9 1 16 (.t 13) (.t 19)⟩,
  ⟨(some 3), none, .mv (.t 20)⟩], false, []⟩
def Tryd.r_ref6_BomFault_5 : LReg := ⟨[⟨(some 11), none, .mv (.t 4)⟩,
  ⟨(some 12), none, .bin .add (.t 11) (.c (.int .i64 (1)))⟩,
  ⟨(some 4), none, .mv (.t 12)⟩], false, []⟩
def Tryd.r_ref6_BomFault_6 : LReg := ⟨[⟨(some 21), none, .mv (.t 3)⟩,
  ⟨(some 22), none, .call 41 [(.t 21)]⟩,
  ⟨(some 5), none, .alloc 25 2 [.int .i64 (0), .int .i64 (0)]⟩,
  ⟨none, none, .store 2 (.t 5) (.t 22)⟩], false, []⟩
def Tryd.r_ref6_BomFault_7 : LReg := ⟨[⟨(some 6), none, .mv (.c (.int .i64 (0)))⟩], false, []⟩
def Tryd.r_ref6_BomFault_8 : LReg := ⟨[⟨(some 23), none, .mv (.t 6)⟩,
  ⟨(some 24), none, .mv (.t 0)⟩,
  ⟨(some 25), none, .len (.t 24)⟩,
  ⟨(some 26), none, .bin .lss (.t 23) (.t 25)⟩,
  ⟨(some 27), none, .mv (.t 26)⟩,
  ⟨(some 28), (some (27, true)), .fieldAddr 0 (.t 5)⟩,
  ⟨(some 29), (some (27, true)), .load 1 false (.t 28)⟩,
  ⟨(some 30), (some (27, true)), .bin .eql (.t 29) (.c (.int .i64 (0)))⟩,
  ⟨(some 31), none, .pick (.t 27) (.t 30) (.c (.bool false))⟩], false, []⟩
def Tryd.r_ref6_BomFault_9 : LReg := ⟨[⟨(some 34), none, .mv (.t 0)⟩,
  ⟨(some 35), none, .mv (.t 6)⟩,
  ⟨(some 36), none, .idx 2 (.t 34) (.t 35)⟩,
  ⟨(some 37), none, .fieldAddr 1 (.t 36)⟩,
  ⟨(some 38), none, .load 1 false (.t 37)⟩,
  ⟨(some 39), none, .bin .neq (.t 38) (.c (.int .i64 (-1)))⟩,
  ⟨(some 40), none, .mv (.t 39)⟩,
  ⟨(some 41), (some (40, true)), .mv (.t 0)⟩,
  ⟨(some 42), (some (40, true)), .mv (.t 6)⟩,
  ⟨(some 43), (some (40, true)), .idx 2 (.t 41) (.t 42)⟩,
  ⟨(some 44), (some (40, true)), .fieldAddr 1 (.t 43)⟩,
  ⟨(some 45), (some (40, true)), .load 1 false (.t 44)⟩,
  ⟨(some 46), (some (40, true)), .call 18 [(.t 45)]⟩,
  ⟨(some 47), (some (40, true)), .un .not (.t 46)⟩,
  ⟨(some 48), none, .pick (.t 40) (.t 47) (.c (.bool false))⟩], false, []⟩
def Tryd.r_ref6_BomFault_10 : LReg := ⟨[⟨(some 49), none, .mv (.t 6)⟩,
  ⟨(some 50), none, .call 48 [(.c (.int .i64 (3))), (.t 49)]⟩,
  ⟨none, none, .store 2 (.t 5) (.t 50)⟩], false, []⟩
def Tryd.r_ref6_BomFault_11 : LReg := ⟨[⟨(some 32), none, .mv (.t 6)⟩,
  ⟨(some 33), none, .bin .add (.t 32) (.c (.int .i64 (1)))⟩,
  ⟨(some 6), none, .mv (.t 33)⟩], false, []⟩
def Tryd.r_ref6_BomFault_12 : LReg := ⟨[⟨(some 51), none, .load 2 true (.t 5)⟩,
  ⟨none, none, .store 2 (.t 2) (.t 51)⟩], false, []⟩
def Tryd.l_ref6_BomFault : LCode := (.seq (.reg Tryd.r_ref6_BomFault_0) (.seq (.reg Tryd.r_ref6_BomFault_1) (.seq (.seq (.reg Tryd.r_ref6_BomFault_2) (.block 0 (.loop (.seq (.seq (.reg Tryd.r_ref6_BomFault_3) (.cond (.t 10) .skip (.exit 0))) (.seq (.block 1 (.reg Tryd.r_ref6_BomFault_4)) (.reg Tryd.r_ref6_BomFault_5)))))) (.seq (.reg Tryd.r_ref6_BomFault_6) (.seq (.seq (.reg Tryd.r_ref6_BomFault_7) (.block 2 (.loop (.seq (.seq (.reg Tryd.r_ref6_BomFault_8) (.cond (.t 31) .skip (.exit 2))) (.seq (.block 3 (.seq (.reg Tryd.r_ref6_BomFault_9) (.cond (.t 48) (.reg Tryd.r_ref6_BomFault_10) .skip))) (.reg Tryd.r_ref6_BomFault_11)))))) (.seq (.reg Tryd.r_ref6_BomFault_12) .ret))))))
theorem Tryd.c_ref6_BomFault : fnComp Tryd.prog 34 = some (52, Tryd.l_ref6_BomFault, [.cell 2 2 true]) := by kernel_rfl
def Tryd.r_law6_fault_0 : LReg := ⟨[⟨(some 4), none, .alloc 25 2 [.int .i64 (0), .int .i64 (0)]⟩], false, []⟩
def Tryd.r_law6_fault_1 : LReg := ⟨[⟨(some 5), none, .mv (.t 0)⟩,
  ⟨(some 6), none, .mv (.t 1)⟩,
  ⟨(some 7), none, .build [.int .i64 (0), .int .i64 (0)] [(0, 1, (.t 5)), (1, 1, (.t 6))]⟩,
  ⟨none, none, .store 2 (.t 4) (.t 7)⟩], false, []⟩
def Tryd.l_law6_fault : LCode := (.seq (.reg Tryd.r_law6_fault_0) (.seq (.reg Tryd.r_law6_fault_1) .ret))
theorem Tryd.c_law6_fault : fnComp Tryd.prog 19 = some (8, Tryd.l_law6_fault, [.cell 4 2 true]) := by kernel_rfl
def Tryd.r_signing_IsDigest_0 : LReg := ⟨[⟨(some 2), none, .mv (.c (.bool false))⟩], false, []⟩
def Tryd.r_signing_IsDigest_1 : LReg := ⟨[⟨(some 3), none, .mv (.t 0)⟩,
  ⟨(some 4), none, .bin .geq (.t 3) (.c (.int .i64 (0)))⟩,
  ⟨(some 5), none, .mv (.t 4)⟩,
  ⟨(some 6), (some (5, true)), .mv (.t 0)⟩,
  ⟨(some 7), (some (5, true)), .bin .lss (.t 6) (.c (.int .i64 (2305843009213693951)))⟩,
  ⟨(some 8), none, .pick (.t 5) (.t 7) (.c (.bool false))⟩,
  ⟨(some 2), none, .mv (.t 8)⟩], false, []⟩
def Tryd.l_signing_IsDigest : LCode := (.seq (.reg Tryd.r_signing_IsDigest_0) (.seq (.reg Tryd.r_signing_IsDigest_1) .ret))
theorem Tryd.c_signing_IsDigest : fnComp Tryd.prog 52 = some (9, Tryd.l_signing_IsDigest, [.t 2]) := by kernel_rfl
def Tryd.r_bom_checkPaths_0 : LReg := ⟨[⟨(some 4), none, .alloc 25 2 [.int .i64 (0), .int .i64 (0)]⟩], false, []⟩
def Tryd.r_bom_checkPaths_1 : LReg := ⟨[⟨(some 6), none, .mv (.t 0)⟩,
  ⟨(some 7), none, .bin .gtr (.t 6) (.c (.int .i64 (24)))⟩], false, []⟩
def Tryd.r_bom_checkPaths_2 : LReg := ⟨[⟨(some 8), none, .build [.int .i64 (0), .int .i64 (0)] [(0, 1, (.c (.int .i64 (2)))), (1, 1, (.c (.int .i64 (-1))))]⟩,
  ⟨none, none, .store 2 (.t 4) (.t 8)⟩], false, []⟩
def Tryd.r_bom_checkPaths_3 : LReg := ⟨[⟨(some 9), none, .mv (.t 0)⟩,
  ⟨(some 10), none, .mv (.c (.int .i64 (0)))⟩], false, []⟩
def Tryd.r_bom_checkPaths_4 : LReg := ⟨[⟨(some 11), none, .bin .lss (.t 10) (.t 9)⟩], false, []⟩
def Tryd.r_bom_checkPaths_5 : LReg := ⟨[⟨(some 12), none, .mv (.t 10)⟩,
  ⟨(some 5), none, .mv (.t 12)⟩], false, []⟩
def Tryd.r_bom_checkPaths_6 : LReg := ⟨[⟨(some 13), none, .mv (.t 1)⟩,
  ⟨(some 14), none, .mv (.t 5)⟩,
  ⟨(some 15), none, .callv (.t 13) [(.t 14)]⟩,
  ⟨(some 16), none, .call 110 [(.t 15)]⟩,
  ⟨(some 17), none, .un .not (.t 16)⟩], false, []⟩
def Tryd.r_bom_checkPaths_7 : LReg := ⟨[⟨(some 18), none, .mv (.t 5)⟩,
  ⟨(some 19), none, .build [.int .i64 (0), .int .i64 (0)] [(0, 1, (.c (.int .i64 (12)))), (1, 1, (.t 18))]⟩,
  ⟨none, none, .store 2 (.t 4) (.t 19)⟩], false, []⟩
def Tryd.r_bom_checkPaths_8 : LReg := ⟨[⟨(some 20), none, .mv (.t 5)⟩,
  ⟨(some 21), none, .bin .gtr (.t 20) (.c (.int .i64 (0)))⟩,
  ⟨(some 22), none, .mv (.t 21)⟩,
  ⟨(some 23), (some (22, true)), .mv (.t 1)⟩,
  ⟨(some 24), (some (22, true)), .mv (.t 5)⟩,
  ⟨(some 25), (some (22, true)), .callv (.t 23) [(.t 24)]⟩,
  ⟨(some 26), (some (22, true)), .mv (.t 1)⟩,
  ⟨(some 27), (some (22, true)), .mv (.t 5)⟩,
  ⟨(some 28), (some (22, true)), .bin .sub (.t 27) (.c (.int .i64 (1)))⟩,
  ⟨(some 29), (some (22, true)), .callv (.t 26) [(.t 28)]⟩,
  ⟨(some 30), (some (22, true)), .bin .leq (.t 25) (.t 29)⟩,
  ⟨(some 31), none, .pick (.t 22) (.t 30) (.c (.bool false))⟩], false, []⟩
def Tryd.r_bom_checkPaths_9 : LReg := ⟨[⟨(some 32), none, .mv (.t 5)⟩,
  ⟨(some 33), none, .build [.int .i64 (0), .int .i64 (0)] [(0, 1, (.c (.int .i64 (5)))), (1, 1, (.t 32))]⟩,
  ⟨none, none, .store 2 (.t 4) (.t 33)⟩], false, []⟩
def Tryd.r_bom_checkPaths_10 : LReg := ⟨[⟨(some 34), none, .bin .add (.t 10) (.c (.int .i64 (1)))⟩,
  ⟨(some 10), none, .mv (.t 34)⟩], false, []⟩
def Tryd.r_bom_checkPaths_11 : LReg := ⟨[⟨(some 35), none, .build [.int .i64 (0), .int .i64 (0)] []⟩,
  ⟨none, none, .store 2 (.t 4) (.t 35)⟩], false, []⟩
def Tryd.l_bom_checkPaths : LCode := (.seq (.reg Tryd.r_bom_checkPaths_0) (.seq (.seq (.reg Tryd.r_bom_checkPaths_1) (.cond (.t 7) (.seq (.reg Tryd.r_bom_checkPaths_2) .ret) .skip)) (.seq (.seq (.reg Tryd.r_bom_checkPaths_3) (.block 0 (.loop (.seq (.reg Tryd.r_bom_checkPaths_4) (.seq (.cond (.t 11) .skip (.exit 0)) (.seq (.block 1 (.seq (.reg Tryd.r_bom_checkPaths_5) (.seq (.seq (.reg Tryd.r_bom_checkPaths_6) (.cond (.t 17) (.seq (.reg Tryd.r_bom_checkPaths_7) .ret) .skip)) (.seq (.reg Tryd.r_bom_checkPaths_8) (.cond (.t 31) (.seq (.reg Tryd.r_bom_checkPaths_9) .ret) .skip))))) (.reg Tryd.r_bom_checkPaths_10))))))) (.seq (.reg Tryd.r_bom_checkPaths_11) .ret))))
theorem Tryd.c_bom_checkPaths : fnComp Tryd.prog 76 = some (36, Tryd.l_bom_checkPaths, [.cell 4 2 true]) := by kernel_rfl
theorem Tryd.b_bom_Validate_1 : bodied Tryd.prog 77 = true := by kernel_rfl
def Tryd.r_bom_Validate_1_0 : LReg := ⟨[⟨(some 3), none, .mv (.c (.str []))⟩], false, []⟩
def Tryd.r_bom_Validate_1_1 : LReg := ⟨[⟨(some 4), none, .load 1 false (.t 1)⟩,
  ⟨(some 5), none, .mv (.t 0)⟩,
  ⟨(some 6), none, .idx 2 (.t 4) (.t 5)⟩,
  ⟨(some 7), none, .fieldAddr 0 (.t 6)⟩,
  ⟨(some 8), none, .load 1 false (.t 7)⟩,
  ⟨(some 3), none, .mv (.t 8)⟩], false, []⟩
def Tryd.l_bom_Validate_1 : LCode := (.seq (.reg Tryd.r_bom_Validate_1_0) (.seq (.reg Tryd.r_bom_Validate_1_1) .ret))
theorem Tryd.c_bom_Validate_1 : fnComp Tryd.prog 77 = some (9, Tryd.l_bom_Validate_1, [.t 3]) := by kernel_rfl
def Tryd.r_bom_Validate_0 : LReg := ⟨[⟨(some 1), none, .box 63 1 (.t 0)⟩,
  ⟨(some 2), none, .alloc 25 2 [.int .i64 (0), .int .i64 (0)]⟩], false, []⟩
def Tryd.r_bom_Validate_1 : LReg := ⟨[⟨(some 6), none, .load 1 false (.t 1)⟩,
  ⟨(some 7), none, .len (.t 6)⟩,
  ⟨(some 8), none, .mkfn 77 [] [(.t 1)]⟩,
  ⟨(some 9), none, .call 76 [(.t 7), (.t 8)]⟩,
  ⟨(some 3), none, .alloc 25 2 [.int .i64 (0), .int .i64 (0)]⟩,
  ⟨none, none, .store 2 (.t 3) (.t 9)⟩], false, []⟩
def Tryd.r_bom_Validate_2 : LReg := ⟨[⟨(some 10), none, .load 2 true (.t 3)⟩,
  ⟨(some 11), none, .build [.int .i64 (0), .int .i64 (0)] []⟩,
  ⟨(some 12), none, .eqs true [0, 0] (.t 10) (.t 11)⟩], false, []⟩
def Tryd.r_bom_Validate_3 : LReg := ⟨[⟨(some 13), none, .load 2 true (.t 3)⟩,
  ⟨none, none, .store 2 (.t 2) (.t 13)⟩], false, []⟩
def Tryd.r_bom_Validate_4 : LReg := ⟨[⟨(some 14), none, .load 1 false (.t 1)⟩,
  ⟨(some 15), none, .len (.t 14)⟩,
  ⟨(some 16), none, .mv (.c (.int .i64 (0)))⟩], false, []⟩
def Tryd.r_bom_Validate_5 : LReg := ⟨[⟨(some 17), none, .bin .lss (.t 16) (.t 15)⟩], false, []⟩
def Tryd.r_bom_Validate_6 : LReg := ⟨[⟨(some 18), none, .mv (.t 16)⟩,
  ⟨(some 19), none, .idx 2 (.t 14) (.t 16)⟩,
  ⟨(some 20), none, .load 2 true (.t 19)⟩,
  ⟨(some 5), none, .alloc 117 2 [.str [], .int .i64 (0)]⟩,
  ⟨(some 4), none, .mv (.t 18)⟩,
  ⟨none, none, .store 2 (.t 5) (.t 20)⟩], false, []⟩
def Tryd.r_bom_Validate_7 : LReg := ⟨[⟨(some 21), none, .fieldAddr 1 (.t 5)⟩,
  ⟨(some 22), none, .load 1 false (.t 21)⟩,
  ⟨(some 23), none, .bin .neq (.t 22) (.c (.int .i64 (-1)))⟩,
  ⟨(some 24), none, .mv (.t 23)⟩,
  ⟨(some 25), (some (24, true)), .fieldAddr 1 (.t 5)⟩,
  ⟨(some 26), (some (24, true)), .load 1 false (.t 25)⟩,
  ⟨(some 27), (some (24, true)), .call 52 [(.t 26)]⟩,
  ⟨(some 28), (some (24, true)), .un .not (.t 27)⟩,
  ⟨(some 29), none, .pick (.t 24) (.t 28) (.c (.bool false))⟩], false, []⟩
def Tryd.r_bom_Validate_8 : LReg := ⟨[⟨(some 30), none, .mv (.t 4)⟩,
  ⟨(some 31), none, .build [.int .i64 (0), .int .i64 (0)] [(0, 1, (.c (.int .i64 (3)))), (1, 1, (.t 30))]⟩,
  ⟨none, none, .store 2 (.t 2) (.t 31)⟩], false, []⟩
def Tryd.r_bom_Validate_9 : LReg := ⟨[⟨(some 32), none, .bin .add (.t 16) (.c (.int .i64 (1)))⟩,
  ⟨(some 16), none, .mv (.t 32)⟩], false, []⟩
def Tryd.r_bom_Validate_10 : LReg := ⟨[⟨(some 33), none, .build [.int .i64 (0), .int .i64 (0)] []⟩,
  ⟨none, none, .store 2 (.t 2) (.t 33)⟩], false, []⟩
def Tryd.l_bom_Validate : LCode := (.seq (.reg Tryd.r_bom_Validate_0) (.seq (.seq (.reg Tryd.r_bom_Validate_1) (.seq (.reg Tryd.r_bom_Validate_2) (.cond (.t 12) (.seq (.reg Tryd.r_bom_Validate_3) .ret) .skip))) (.seq (.seq (.reg Tryd.r_bom_Validate_4) (.block 0 (.loop (.seq (.reg Tryd.r_bom_Validate_5) (.seq (.cond (.t 17) .skip (.exit 0)) (.seq (.block 1 (.seq (.reg Tryd.r_bom_Validate_6) (.seq (.reg Tryd.r_bom_Validate_7) (.cond (.t 29) (.seq (.reg Tryd.r_bom_Validate_8) .ret) .skip)))) (.reg Tryd.r_bom_Validate_9))))))) (.seq (.reg Tryd.r_bom_Validate_10) .ret))))
theorem Tryd.c_bom_Validate : fnComp Tryd.prog 36 = some (34, Tryd.l_bom_Validate, [.cell 2 2 true]) := by kernel_rfl
def Tryd.r_lines_Validate_0 : LReg := ⟨[⟨(some 2), none, .alloc 25 2 [.int .i64 (0), .int .i64 (0)]⟩], false, []⟩
def Tryd.r_lines_Validate_1 : LReg := ⟨[⟨(some 5), none, .mv (.t 0)⟩,
  ⟨(some 6), none, .len (.t 5)⟩,
  ⟨(some 7), none, .bin .gtr (.t 6) (.c (.int .i64 (120)))⟩], false, []⟩
def Tryd.r_lines_Validate_2 : LReg := ⟨[⟨(some 8), none, .build [.int .i64 (0), .int .i64 (0)] [(0, 1, (.c (.int .i64 (2)))), (1, 1, (.c (.int .i64 (-1))))]⟩,
  ⟨none, none, .store 2 (.t 2) (.t 8)⟩], false, []⟩
def Tryd.r_lines_Validate_3 : LReg := ⟨[⟨(some 9), none, .mv (.t 0)⟩,
  ⟨(some 10), none, .len (.t 9)⟩,
  ⟨(some 11), none, .mv (.c (.int .i64 (0)))⟩], false, []⟩
def Tryd.r_lines_Validate_4 : LReg := ⟨[⟨(some 12), none, .bin .lss (.t 11) (.t 10)⟩], false, []⟩
def Tryd.r_lines_Validate_5 : LReg := ⟨[⟨(some 13), none, .mv (.t 11)⟩,
  ⟨(some 14), none, .idx 1 (.t 9) (.t 11)⟩,
  ⟨(some 15), none, .load 1 false (.t 14)⟩,
  ⟨(some 3), none, .mv (.t 13)⟩,
  ⟨(some 4), none, .mv (.t 15)⟩], false, []⟩
def Tryd.r_lines_Validate_6 : LReg := ⟨[⟨(some 16), none, .mv (.t 4)⟩,
  ⟨(some 17), none, .slen (.t 16)⟩,
  ⟨(some 18), none, .bin .gtr (.t 17) (.c (.int .i64 (80)))⟩], false, []⟩
def Tryd.r_lines_Validate_7 : LReg := ⟨[⟨(some 19), none, .mv (.t 3)⟩,
  ⟨(some 20), none, .build [.int .i64 (0), .int .i64 (0)] [(0, 1, (.c (.int .i64 (2)))), (1, 1, (.t 19))]⟩,
  ⟨none, none, .store 2 (.t 2) (.t 20)⟩], false, []⟩
def Tryd.r_lines_Validate_8 : LReg := ⟨[⟨(some 21), none, .mv (.t 4)⟩,
  ⟨(some 22), none, .call 118 [(.t 21), (.c (.int .u8 (10)))]⟩,
  ⟨(some 23), none, .bin .geq (.t 22) (.c (.int .i64 (0)))⟩], false, []⟩
def Tryd.r_lines_Validate_9 : LReg := ⟨[⟨(some 24), none, .mv (.t 3)⟩,
  ⟨(some 25), none, .build [.int .i64 (0), .int .i64 (0)] [(0, 1, (.c (.int .i64 (5)))), (1, 1, (.t 24))]⟩,
  ⟨none, none, .store 2 (.t 2) (.t 25)⟩], false, []⟩
def Tryd.r_lines_Validate_10 : LReg := ⟨[⟨(some 26), none, .bin .add (.t 11) (.c (.int .i64 (1)))⟩,
  ⟨(some 11), none, .mv (.t 26)⟩], false, []⟩
def Tryd.r_lines_Validate_11 : LReg := ⟨[⟨(some 27), none, .build [.int .i64 (0), .int .i64 (0)] []⟩,
  ⟨none, none, .store 2 (.t 2) (.t 27)⟩], false, []⟩
def Tryd.l_lines_Validate : LCode := (.seq (.reg Tryd.r_lines_Validate_0) (.seq (.seq (.reg Tryd.r_lines_Validate_1) (.cond (.t 7) (.seq (.reg Tryd.r_lines_Validate_2) .ret) .skip)) (.seq (.seq (.reg Tryd.r_lines_Validate_3) (.block 0 (.loop (.seq (.reg Tryd.r_lines_Validate_4) (.seq (.cond (.t 12) .skip (.exit 0)) (.seq (.block 1 (.seq (.reg Tryd.r_lines_Validate_5) (.seq (.seq (.reg Tryd.r_lines_Validate_6) (.cond (.t 18) (.seq (.reg Tryd.r_lines_Validate_7) .ret) .skip)) (.seq (.reg Tryd.r_lines_Validate_8) (.cond (.t 23) (.seq (.reg Tryd.r_lines_Validate_9) .ret) .skip))))) (.reg Tryd.r_lines_Validate_10))))))) (.seq (.reg Tryd.r_lines_Validate_11) .ret))))
theorem Tryd.c_lines_Validate : fnComp Tryd.prog 90 = some (28, Tryd.l_lines_Validate, [.cell 2 2 true]) := by kernel_rfl
def Tryd.r_lines_Second_0 : LReg := ⟨[⟨(some 4), none, .alloc 25 2 [.int .i64 (0), .int .i64 (0)]⟩], false, []⟩
def Tryd.r_lines_Second_1 : LReg := ⟨[⟨(some 6), none, .mv (.t 0)⟩,
  ⟨(some 7), none, .call 90 [(.t 6)]⟩,
  ⟨(some 5), none, .alloc 25 2 [.int .i64 (0), .int .i64 (0)]⟩,
  ⟨none, none, .store 2 (.t 5) (.t 7)⟩], false, []⟩
def Tryd.r_lines_Second_2 : LReg := ⟨[⟨(some 8), none, .load 2 true (.t 5)⟩,
  ⟨(some 9), none, .build [.int .i64 (0), .int .i64 (0)] []⟩,
  ⟨(some 10), none, .eqs true [0, 0] (.t 8) (.t 9)⟩], false, []⟩
def Tryd.r_lines_Second_3 : LReg := ⟨[⟨(some 11), none, .fieldAddr 0 (.t 5)⟩,
  ⟨(some 12), none, .load 1 false (.t 11)⟩,
  ⟨(some 13), none, .mv (.t 1)⟩,
  ⟨(some 14), none, .build [.int .i64 (0), .int .i64 (0)] [(0, 1, (.t 12)), (1, 1, (.t 13))]⟩,
  ⟨none, none, .store 2 (.t 4) (.t 14)⟩], false, []⟩
def Tryd.r_lines_Second_4 : LReg := ⟨[⟨(some 15), none, .build [.int .i64 (0), .int .i64 (0)] []⟩,
  ⟨none, none, .store 2 (.t 4) (.t 15)⟩], false, []⟩
def Tryd.l_lines_Second : LCode := (.seq (.reg Tryd.r_lines_Second_0) (.seq (.seq (.reg Tryd.r_lines_Second_1) (.seq (.reg Tryd.r_lines_Second_2) (.cond (.t 10) (.seq (.reg Tryd.r_lines_Second_3) .ret) .skip))) (.seq (.reg Tryd.r_lines_Second_4) .ret)))
theorem Tryd.c_lines_Second : fnComp Tryd.prog 53 = some (16, Tryd.l_lines_Second, [.cell 4 2 true]) := by kernel_rfl
def Tryd.r_internal_stringslite_HasPrefix_0 : LReg := ⟨[⟨(some 4), none, .mv (.c (.bool false))⟩], false, []⟩
def Tryd.r_internal_stringslite_HasPrefix_1 : LReg := ⟨[⟨(some 5), none, .mv (.t 0)⟩,
  ⟨(some 6), none, .slen (.t 5)⟩,
  ⟨(some 7), none, .mv (.t 1)⟩,
  ⟨(some 8), none, .slen (.t 7)⟩,
  ⟨(some 9), none, .bin .geq (.t 6) (.t 8)⟩,
  ⟨(some 10), none, .mv (.t 9)⟩,
  ⟨(some 11), (some (10, true)), .mv (.t 0)⟩,
  ⟨(some 12), (some (10, true)), .mv (.t 1)⟩,
  ⟨(some 13), (some (10, true)), .slen (.t 12)⟩,
  ⟨(some 14), (some (10, true)), .sslice (.t 11) none (some (.t 13))⟩,
  ⟨(some 15), (some (10, true)), .mv (.t 1)⟩,
  ⟨(some 16), (some (10, true)), .bin .eql (.t 14) (.t 15)⟩,
  ⟨(some 17), none, .pick (.t 10) (.t 16) (.c (.bool false))⟩,
  ⟨(some 4), none, .mv (.t 17)⟩], false, []⟩
def Tryd.l_internal_stringslite_HasPrefix : LCode := (.seq (.reg Tryd.r_internal_stringslite_HasPrefix_0) (.seq (.reg Tryd.r_internal_stringslite_HasPrefix_1) .ret))
theorem Tryd.c_internal_stringslite_HasPrefix : fnComp Tryd.prog 154 = some (18, Tryd.l_internal_stringslite_HasPrefix, [.t 4]) := by kernel_rfl
def Tryd.r_strings_HasPrefix_0 : LReg := ⟨[⟨(some 4), none, .mv (.c (.bool false))⟩], false, []⟩
def Tryd.r_strings_HasPrefix_1 : LReg := ⟨[⟨(some 5), none, .mv (.t 0)⟩,
  ⟨(some 6), none, .mv (.t 1)⟩,
  ⟨(some 7), none, .call 154 [(.t 5), (.t 6)]⟩,
  ⟨(some 4), none, .mv (.t 7)⟩], false, []⟩
def Tryd.l_strings_HasPrefix : LCode := (.seq (.reg Tryd.r_strings_HasPrefix_0) (.seq (.reg Tryd.r_strings_HasPrefix_1) .ret))
theorem Tryd.c_strings_HasPrefix : fnComp Tryd.prog 150 = some (8, Tryd.l_strings_HasPrefix, [.t 4]) := by kernel_rfl
def Tryd.r_treepatch_Related_0 : LReg := ⟨[⟨(some 4), none, .mv (.c (.bool false))⟩], false, []⟩
def Tryd.r_treepatch_Related_1 : LReg := ⟨[⟨(some 5), none, .mv (.t 0)⟩,
  ⟨(some 6), none, .mv (.t 1)⟩,
  ⟨(some 7), none, .bin .eql (.t 5) (.t 6)⟩,
  ⟨(some 8), none, .mv (.t 7)⟩,
  ⟨(some 9), (some (8, false)), .mv (.t 0)⟩,
  ⟨(some 10), (some (8, false)), .mv (.t 1)⟩,
  ⟨(some 11), (some (8, false)), .bin .add (.t 10) (.c (.str [47]))⟩,
  ⟨(some 12), (some (8, false)), .call 150 [(.t 9), (.t 11)]⟩,
  ⟨(some 13), none, .pick (.t 8) (.c (.bool true)) (.t 12)⟩,
  ⟨(some 14), none, .mv (.t 13)⟩,
  ⟨(some 15), (some (14, false)), .mv (.t 1)⟩,
  ⟨(some 16), (some (14, false)), .mv (.t 0)⟩,
  ⟨(some 17), (some (14, false)), .bin .add (.t 16) (.c (.str [47]))⟩,
  ⟨(some 18), (some (14, false)), .call 150 [(.t 15), (.t 17)]⟩,
  ⟨(some 19), none, .pick (.t 14) (.c (.bool true)) (.t 18)⟩,
  ⟨(some 4), none, .mv (.t 19)⟩], false, []⟩
def Tryd.l_treepatch_Related : LCode := (.seq (.reg Tryd.r_treepatch_Related_0) (.seq (.reg Tryd.r_treepatch_Related_1) .ret))
theorem Tryd.c_treepatch_Related : fnComp Tryd.prog 140 = some (20, Tryd.l_treepatch_Related, [.t 4]) := by kernel_rfl
def Tryd.r_treepatch_Clash_0 : LReg := ⟨[⟨(some 6), none, .mv (.c (.bool false))⟩], false, []⟩
def Tryd.r_treepatch_Clash_1 : LReg := ⟨[⟨(some 9), none, .mv (.t 0)⟩,
  ⟨(some 10), none, .len (.t 9)⟩,
  ⟨(some 11), none, .mv (.c (.int .i64 (0)))⟩], false, []⟩
def Tryd.r_treepatch_Clash_2 : LReg := ⟨[⟨(some 12), none, .bin .lss (.t 11) (.t 10)⟩], false, []⟩
def Tryd.r_treepatch_Clash_3 : LReg := ⟨[⟨(some 13), none, .mv (.t 11)⟩,
  ⟨(some 14), none, .idx 2 (.t 9) (.t 11)⟩,
  ⟨(some 15), none, .load 2 true (.t 14)⟩,
  ⟨(some 8), none, .alloc 103 2 [.str [], .nils]⟩,
  ⟨(some 7), none, .mv (.t 13)⟩,
  ⟨none, none, .store 2 (.t 8) (.t 15)⟩], false, []⟩
def Tryd.r_treepatch_Clash_4 : LReg := ⟨[⟨(some 16), none, .mv (.t 7)⟩,
  ⟨(some 17), none, .mv (.t 2)⟩,
  ⟨(some 18), none, .bin .neq (.t 16) (.t 17)⟩,
  ⟨(some 19), none, .mv (.t 18)⟩,
  ⟨(some 20), (some (19, true)), .fieldAddr 0 (.t 8)⟩,
  ⟨(some 21), (some (19, true)), .load 1 false (.t 20)⟩,
  ⟨(some 22), (some (19, true)), .mv (.t 1)⟩,
  ⟨(some 23), (some (19, true)), .call 140 [(.t 21), (.t 22)]⟩,
  ⟨(some 24), none, .pick (.t 19) (.t 23) (.c (.bool false))⟩], false, []⟩
def Tryd.r_treepatch_Clash_5 : LReg := ⟨[⟨(some 6), none, .mv (.c (.bool true))⟩], false, []⟩
def Tryd.r_treepatch_Clash_6 : LReg := ⟨[⟨(some 25), none, .bin .add (.t 11) (.c (.int .i64 (1)))⟩,
  ⟨(some 11), none, .mv (.t 25)⟩], false, []⟩
def Tryd.r_treepatch_Clash_7 : LReg := ⟨[⟨(some 6), none, .mv (.c (.bool false))⟩], false, []⟩
def Tryd.l_treepatch_Clash : LCode := (.seq (.reg Tryd.r_treepatch_Clash_0) (.seq (.seq (.reg Tryd.r_treepatch_Clash_1) (.block 0 (.loop (.seq (.reg Tryd.r_treepatch_Clash_2) (.seq (.cond (.t 12) .skip (.exit 0)) (.seq (.block 1 (.seq (.reg Tryd.r_treepatch_Clash_3) (.seq (.reg Tryd.r_treepatch_Clash_4) (.cond (.t 24) (.seq (.reg Tryd.r_treepatch_Clash_5) .ret) .skip)))) (.reg Tryd.r_treepatch_Clash_6))))))) (.seq (.reg Tryd.r_treepatch_Clash_7) .ret)))
theorem Tryd.c_treepatch_Clash : fnComp Tryd.prog 125 = some (26, Tryd.l_treepatch_Clash, [.t 6]) := by kernel_rfl
def Tryd.r_treepatch_Validate_0 : LReg := ⟨[⟨(some 1), none, .box 46 1 (.t 0)⟩,
  ⟨(some 2), none, .alloc 25 2 [.int .i64 (0), .int .i64 (0)]⟩], false, []⟩
def Tryd.r_treepatch_Validate_1 : LReg := ⟨[⟨(some 6), none, .fieldAddr 0 (.t 1)⟩,
  ⟨(some 7), none, .load 1 false (.t 6)⟩,
  ⟨(some 8), none, .len (.t 7)⟩,
  ⟨(some 9), none, .bin .gtr (.t 8) (.c (.int .i64 (24)))⟩], false, []⟩
def Tryd.r_treepatch_Validate_2 : LReg := ⟨[⟨(some 10), none, .build [.int .i64 (0), .int .i64 (0)] [(0, 1, (.c (.int .i64 (2)))), (1, 1, (.c (.int .i64 (-1))))]⟩,
  ⟨none, none, .store 2 (.t 2) (.t 10)⟩], false, []⟩
def Tryd.r_treepatch_Validate_3 : LReg := ⟨[⟨(some 11), none, .fieldAddr 0 (.t 1)⟩,
  ⟨(some 12), none, .load 1 false (.t 11)⟩,
  ⟨(some 13), none, .len (.t 12)⟩,
  ⟨(some 14), none, .mv (.c (.int .i64 (0)))⟩], false, []⟩
def Tryd.r_treepatch_Validate_4 : LReg := ⟨[⟨(some 15), none, .bin .lss (.t 14) (.t 13)⟩], false, []⟩
def Tryd.r_treepatch_Validate_5 : LReg := ⟨[⟨(some 16), none, .mv (.t 14)⟩,
  ⟨(some 17), none, .idx 2 (.t 12) (.t 14)⟩,
  ⟨(some 18), none, .load 2 true (.t 17)⟩,
  ⟨(some 4), none, .alloc 103 2 [.str [], .nils]⟩,
  ⟨(some 3), none, .mv (.t 16)⟩,
  ⟨none, none, .store 2 (.t 4) (.t 18)⟩], false, []⟩
def Tryd.r_treepatch_Validate_6 : LReg := ⟨[⟨(some 20), none, .fieldAddr 0 (.t 4)⟩,
  ⟨(some 21), none, .load 1 false (.t 20)⟩,
  ⟨(some 22), none, .call 110 [(.t 21)]⟩,
  ⟨(some 23), none, .un .not (.t 22)⟩,
  ⟨(some 19), none, .mv (.t 23)⟩], false, []⟩
def Tryd.r_treepatch_Validate_7 : LReg := ⟨[⟨(some 24), none, .mv (.t 3)⟩,
  ⟨(some 25), none, .build [.int .i64 (0), .int .i64 (0)] [(0, 1, (.c (.int .i64 (12)))), (1, 1, (.t 24))]⟩,
  ⟨none, none, .store 2 (.t 2) (.t 25)⟩], false, []⟩
def Tryd.r_treepatch_Validate_8 : LReg := ⟨[⟨(some 27), none, .mv (.t 3)⟩,
  ⟨(some 28), none, .bin .gtr (.t 27) (.c (.int .i64 (0)))⟩,
  ⟨(some 29), none, .mv (.t 28)⟩,
  ⟨(some 30), (some (29, true)), .fieldAddr 0 (.t 4)⟩,
  ⟨(some 31), (some (29, true)), .load 1 false (.t 30)⟩,
  ⟨(some 32), (some (29, true)), .fieldAddr 0 (.t 1)⟩,
  ⟨(some 33), (some (29, true)), .load 1 false (.t 32)⟩,
  ⟨(some 34), (some (29, true)), .mv (.t 3)⟩,
  ⟨(some 35), (some (29, true)), .bin .sub (.t 34) (.c (.int .i64 (1)))⟩,
  ⟨(some 36), (some (29, true)), .idx 2 (.t 33) (.t 35)⟩,
  ⟨(some 37), (some (29, true)), .fieldAddr 0 (.t 36)⟩,
  ⟨(some 38), (some (29, true)), .load 1 false (.t 37)⟩,
  ⟨(some 39), (some (29, true)), .bin .leq (.t 31) (.t 38)⟩,
  ⟨(some 40), none, .pick (.t 29) (.t 39) (.c (.bool false))⟩,
  ⟨(some 26), none, .mv (.t 40)⟩], true, [(3, 5), (4, 5), (3, 6), (4, 6), (3, 9), (4, 9), (3, 10), (4, 10), (3, 11), (4, 11)]⟩
def Tryd.r_treepatch_Validate_9 : LReg := ⟨[⟨(some 41), none, .mv (.t 3)⟩,
  ⟨(some 42), none, .build [.int .i64 (0), .int .i64 (0)] [(0, 1, (.c (.int .i64 (5)))), (1, 1, (.t 41))]⟩,
  ⟨none, none, .store 2 (.t 2) (.t 42)⟩], false, []⟩
def Tryd.r_treepatch_Validate_10 : LReg := ⟨[⟨(some 44), none, .fieldAddr 0 (.t 1)⟩,
  ⟨(some 45), none, .load 1 false (.t 44)⟩,
  ⟨(some 46), none, .mv (.t 3)⟩,
  ⟨(some 47), none, .slice 2 (.t 45) none (some (.t 46))⟩,
  ⟨(some 48), none, .fieldAddr 0 (.t 4)⟩,
  ⟨(some 49), none, .load 1 false (.t 48)⟩,
  ⟨(some 50), none, .call 125 [(.t 47), (.t 49), (.c (.int .i64 (-1)))]⟩,
  ⟨(some 43), none, .mv (.t 50)⟩], true, [(0, 4), (1, 4), (3, 4), (0, 5), (1, 5), (3, 5)]⟩
def Tryd.r_treepatch_Validate_11 : LReg := ⟨[⟨(some 51), none, .mv (.t 3)⟩,
  ⟨(some 52), none, .build [.int .i64 (0), .int .i64 (0)] [(0, 1, (.c (.int .i64 (7)))), (1, 1, (.t 51))]⟩,
  ⟨none, none, .store 2 (.t 2) (.t 52)⟩], false, []⟩
def Tryd.r_treepatch_Validate_12 : LReg := ⟨[⟨(some 53), none, .fieldAddr 1 (.t 4)⟩,
  ⟨(some 54), none, .load 1 false (.t 53)⟩,
  ⟨(some 55), none, .mv (.t 3)⟩,
  ⟨(some 56), none, .call 53 [(.t 54), (.t 55)]⟩,
  ⟨(some 5), none, .alloc 25 2 [.int .i64 (0), .int .i64 (0)]⟩,
  ⟨none, none, .store 2 (.t 5) (.t 56)⟩], false, []⟩
def Tryd.r_treepatch_Validate_13 : LReg := ⟨[⟨(some 57), none, .load 2 true (.t 5)⟩,
  ⟨(some 58), none, .build [.int .i64 (0), .int .i64 (0)] []⟩,
  ⟨(some 59), none, .eqs true [0, 0] (.t 57) (.t 58)⟩], false, []⟩
def Tryd.r_treepatch_Validate_14 : LReg := ⟨[⟨(some 60), none, .load 2 true (.t 5)⟩,
  ⟨none, none, .store 2 (.t 2) (.t 60)⟩], false, []⟩
def Tryd.r_treepatch_Validate_15 : LReg := ⟨[⟨(some 61), none, .bin .add (.t 14) (.c (.int .i64 (1)))⟩,
  ⟨(some 14), none, .mv (.t 61)⟩], false, []⟩
def Tryd.r_treepatch_Validate_16 : LReg := ⟨[⟨(some 62), none, .build [.int .i64 (0), .int .i64 (0)] []⟩,
  ⟨none, none, .store 2 (.t 2) (.t 62)⟩], false, []⟩
def Tryd.l_treepatch_Validate : LCode := (.seq (.reg Tryd.r_treepatch_Validate_0) (.seq (.seq (.reg Tryd.r_treepatch_Validate_1) (.cond (.t 9) (.seq (.reg Tryd.r_treepatch_Validate_2) .ret) .skip)) (.seq (.seq (.reg Tryd.r_treepatch_Validate_3) (.block 0 (.loop (.seq (.reg Tryd.r_treepatch_Validate_4) (.seq (.cond (.t 15) .skip (.exit 0)) (.seq (.block 1 (.seq (.reg Tryd.r_treepatch_Validate_5) (.seq (.block 2 (.seq (.reg Tryd.r_treepatch_Validate_6) (.cond (.t 19) (.seq (.reg Tryd.r_treepatch_Validate_7) .ret) (.seq (.reg Tryd.r_treepatch_Validate_8) (.cond (.t 26) (.seq (.reg Tryd.r_treepatch_Validate_9) .ret) (.seq (.reg Tryd.r_treepatch_Validate_10) (.cond (.t 43) (.seq (.reg Tryd.r_treepatch_Validate_11) .ret) .skip))))))) (.seq (.reg Tryd.r_treepatch_Validate_12) (.seq (.reg Tryd.r_treepatch_Validate_13) (.cond (.t 59) (.seq (.reg Tryd.r_treepatch_Validate_14) .ret) .skip)))))) (.reg Tryd.r_treepatch_Validate_15))))))) (.seq (.reg Tryd.r_treepatch_Validate_16) .ret))))
theorem Tryd.c_treepatch_Validate : fnComp Tryd.prog 112 = some (63, Tryd.l_treepatch_Validate, [.cell 2 2 true]) := by kernel_rfl
def Tryd.r_treepatch_Second_0 : LReg := ⟨[⟨(some 2), none, .box 46 1 (.t 0)⟩,
  ⟨(some 4), none, .alloc 25 2 [.int .i64 (0), .int .i64 (0)]⟩], false, []⟩
def Tryd.r_treepatch_Second_1 : LReg := ⟨[⟨(some 6), none, .load 1 true (.t 2)⟩,
  ⟨(some 7), none, .call 112 [(.t 6)]⟩,
  ⟨(some 5), none, .alloc 25 2 [.int .i64 (0), .int .i64 (0)]⟩,
  ⟨none, none, .store 2 (.t 5) (.t 7)⟩], false, []⟩
def Tryd.r_treepatch_Second_2 : LReg := ⟨[⟨(some 8), none, .load 2 true (.t 5)⟩,
  ⟨(some 9), none, .build [.int .i64 (0), .int .i64 (0)] []⟩,
  ⟨(some 10), none, .eqs true [0, 0] (.t 8) (.t 9)⟩], false, []⟩
def Tryd.r_treepatch_Second_3 : LReg := ⟨[⟨(some 11), none, .fieldAddr 0 (.t 5)⟩,
  ⟨(some 12), none, .load 1 false (.t 11)⟩,
  ⟨(some 13), none, .mv (.t 1)⟩,
  ⟨(some 14), none, .build [.int .i64 (0), .int .i64 (0)] [(0, 1, (.t 12)), (1, 1, (.t 13))]⟩,
  ⟨none, none, .store 2 (.t 4) (.t 14)⟩], false, []⟩
def Tryd.r_treepatch_Second_4 : LReg := ⟨[⟨(some 15), none, .build [.int .i64 (0), .int .i64 (0)] []⟩,
  ⟨none, none, .store 2 (.t 4) (.t 15)⟩], false, []⟩
def Tryd.l_treepatch_Second : LCode := (.seq (.reg Tryd.r_treepatch_Second_0) (.seq (.seq (.reg Tryd.r_treepatch_Second_1) (.seq (.reg Tryd.r_treepatch_Second_2) (.cond (.t 10) (.seq (.reg Tryd.r_treepatch_Second_3) .ret) .skip))) (.seq (.reg Tryd.r_treepatch_Second_4) .ret)))
theorem Tryd.c_treepatch_Second : fnComp Tryd.prog 79 = some (16, Tryd.l_treepatch_Second, [.cell 4 2 true]) := by kernel_rfl
def Tryd.r_digest_mul_0 : LReg := ⟨[⟨(some 4), none, .mv (.c (.int .i64 (0)))⟩], false, []⟩
def Tryd.r_digest_mul_1 : LReg := ⟨[⟨(some 5), none, .mv (.c (.int .i64 (0)))⟩], false, []⟩
def Tryd.r_digest_mul_2 : LReg := ⟨[⟨(some 6), none, .mv (.t 1)⟩,
  ⟨(some 7), none, .bin .gtr (.t 6) (.c (.int .i64 (0)))⟩], false, []⟩
def Tryd.r_digest_mul_3 : LReg := ⟨[⟨(some 10), none, .mv (.t 1)⟩,
  ⟨(some 11), none, .bin .and (.t 10) (.c (.int .i64 (1)))⟩,
  ⟨(some 12), none, .bin .eql (.t 11) (.c (.int .i64 (1)))⟩], false, []⟩
def Tryd.r_digest_mul_4 : LReg := ⟨[⟨(some 13), none, .mv (.t 5)⟩,
  ⟨(some 14), none, .mv (.t 0)⟩,
  ⟨(some 15), none, .bin .add (.t 13) (.t 14)⟩,
  ⟨(some 16), none, .bin .rem (.t 15) (.c (.int .i64 (2305843009213693951)))⟩,
  ⟨(some 5), none, .mv (.t 16)⟩], false, []⟩
def Tryd.r_digest_mul_5 : LReg := ⟨[⟨(some 17), none, .mv (.t 0)⟩,
  ⟨(some 18), none, .bin .mul (.c (.int .i64 (2))) (.t 17)⟩,
  ⟨(some 19), none, .bin .rem (.t 18) (.c (.int .i64 (2305843009213693951)))⟩,
  ⟨(some 0), none, .mv (.t 19)⟩], false, []⟩
def Tryd.r_digest_mul_6 : LReg := ⟨[⟨(some 8), none, .mv (.t 1)⟩,
  ⟨(some 9), none, .bin .shr (.t 8) (.c (.int .u64 (1)))⟩,
  ⟨(some 1), none, .mv (.t 9)⟩], false, []⟩
def Tryd.r_digest_mul_7 : LReg := ⟨[⟨(some 20), none, .mv (.t 5)⟩,
  ⟨(some 4), none, .mv (.t 20)⟩], false, []⟩
def Tryd.l_digest_mul : LCode := (.seq (.reg Tryd.r_digest_mul_0) (.seq (.reg Tryd.r_digest_mul_1) (.seq (.block 0 (.loop (.seq (.seq (.reg Tryd.r_digest_mul_2) (.cond (.t 7) .skip (.exit 0))) (.seq (.block 1 (.seq (.seq (.reg Tryd.r_digest_mul_3) (.cond (.t 12) (.reg Tryd.r_digest_mul_4) .skip)) (.reg Tryd.r_digest_mul_5))) (.reg Tryd.r_digest_mul_6))))) (.seq (.reg Tryd.r_digest_mul_7) .ret))))
theorem Tryd.c_digest_mul : fnComp Tryd.prog 121 = some (21, Tryd.l_digest_mul, [.t 4]) := by kernel_rfl
def Tryd.r_digest_next_0 : LReg := ⟨[⟨(some 2), none, .box 134 2 (.t 0)⟩,
  ⟨(some 4), none, .mv (.c (.int .i64 (0)))⟩], false, []⟩
def Tryd.r_digest_next_1 : LReg := ⟨[⟨(some 5), none, .idxA 2 1 (.t 2) (.c (.int .i64 (0)))⟩,
  ⟨(some 6), none, .load 1 false (.t 5)⟩,
  ⟨(some 7), none, .mv (.t 1)⟩,
  ⟨(some 8), none, .call 121 [(.t 6), (.t 7)]⟩,
  ⟨(some 9), none, .idxA 2 1 (.t 2) (.c (.int .i64 (1)))⟩,
  ⟨(some 10), none, .load 1 false (.t 9)⟩,
  ⟨(some 11), none, .bin .add (.t 8) (.t 10)⟩,
  ⟨(some 12), none, .bin .rem (.t 11) (.c (.int .i64 (2305843009213693951)))⟩,
  ⟨(some 4), none, .mv (.t 12)⟩], true, [(0, 4), (1, 4), (3, 4), (0, 5), (1, 5), (3, 5)]⟩
def Tryd.l_digest_next : LCode := (.seq (.reg Tryd.r_digest_next_0) (.seq (.reg Tryd.r_digest_next_1) .ret))
theorem Tryd.c_digest_next : fnComp Tryd.prog 98 = some (13, Tryd.l_digest_next, [.t 4]) := by kernel_rfl
def Tryd.r_digest_Of_0 : LReg := ⟨[⟨(some 2), none, .mv (.c (.int .i64 (0)))⟩,
  ⟨(some 3), none, .alloc 25 2 [.int .i64 (0), .int .i64 (0)]⟩], false, []⟩
def Tryd.r_digest_Of_1 : LReg := ⟨[⟨(some 7), none, .mv (.t 0)⟩,
  ⟨(some 8), none, .len (.t 7)⟩,
  ⟨(some 9), none, .bin .gtr (.t 8) (.c (.int .i64 (4096)))⟩], false, []⟩
def Tryd.r_digest_Of_2 : LReg := ⟨[⟨(some 10), none, .build [.int .i64 (0), .int .i64 (0)] [(0, 1, (.c (.int .i64 (2))))]⟩,
  ⟨(some 2), none, .mv (.c (.int .i64 (0)))⟩,
  ⟨none, none, .store 2 (.t 3) (.t 10)⟩], false, []⟩
def Tryd.r_digest_Of_3 : LReg := ⟨[⟨(some 4), none, .mv (.c (.int .i64 (1)))⟩], false, []⟩
def Tryd.r_digest_Of_4 : LReg := ⟨[⟨(some 11), none, .mv (.t 0)⟩,
  ⟨(some 12), none, .len (.t 11)⟩,
  ⟨(some 13), none, .mv (.c (.int .i64 (0)))⟩], false, []⟩
def Tryd.r_digest_Of_5 : LReg := ⟨[⟨(some 14), none, .bin .lss (.t 13) (.t 12)⟩], false, []⟩
def Tryd.r_digest_Of_6 : LReg := ⟨[⟨(some 15), none, .idx 1 (.t 11) (.t 13)⟩,
  ⟨(some 16), none, .load 1 false (.t 15)⟩,
  ⟨(some 6), none, .mv (.t 16)⟩], false, []⟩
def Tryd.r_digest_Of_7 : LReg := ⟨[⟨(some 17), none, .mv (.t 4)⟩,
  ⟨(some 18), none, .mv (.t 6)⟩,
  ⟨(some 19), none, .conv .i64 (.t 18)⟩,
  ⟨(some 20), none, .bin .add (.t 19) (.c (.int .i64 (1)))⟩,
  ⟨(some 21), none, .build [.int .i64 (0), .int .i64 (0)] [(0, 1, (.t 17)), (1, 1, (.t 20))]⟩,
  ⟨(some 22), none, .call 98 [(.t 21), (.c (.int .i64 (257)))]⟩,
  ⟨(some 4), none, .mv (.t 22)⟩], false, []⟩
def Tryd.r_digest_Of_8 : LReg := ⟨[⟨(some 23), none, .bin .add (.t 13) (.c (.int .i64 (1)))⟩,
  ⟨(some 13), none, .mv (.t 23)⟩], false, []⟩
def Tryd.r_digest_Of_9 : LReg := ⟨[⟨(some 24), none, .mv (.t 4)⟩,
  ⟨(some 25), none, .build [.int .i64 (0), .int .i64 (0)] []⟩,
  ⟨(some 2), none, .mv (.t 24)⟩,
  ⟨none, none, .store 2 (.t 3) (.t 25)⟩], false, []⟩
def Tryd.l_digest_Of : LCode := (.seq (.reg Tryd.r_digest_Of_0) (.seq (.seq (.reg Tryd.r_digest_Of_1) (.cond (.t 9) (.seq (.reg Tryd.r_digest_Of_2) .ret) .skip)) (.seq (.reg Tryd.r_digest_Of_3) (.seq (.seq (.reg Tryd.r_digest_Of_4) (.block 0 (.loop (.seq (.reg Tryd.r_digest_Of_5) (.seq (.cond (.t 14) .skip (.exit 0)) (.seq (.block 1 (.seq (.reg Tryd.r_digest_Of_6) (.reg Tryd.r_digest_Of_7))) (.reg Tryd.r_digest_Of_8))))))) (.seq (.reg Tryd.r_digest_Of_9) .ret)))))
theorem Tryd.c_digest_Of : fnComp Tryd.prog 63 = some (26, Tryd.l_digest_Of, [.t 2, .cell 3 2 true]) := by kernel_rfl
def Tryd.r_digest_pair_0 : LReg := ⟨[⟨(some 4), none, .mv (.c (.int .i64 (0)))⟩], false, []⟩
def Tryd.r_digest_pair_1 : LReg := ⟨[⟨(some 5), none, .mv (.t 0)⟩,
  ⟨(some 6), none, .mv (.t 1)⟩,
  ⟨(some 7), none, .build [.int .i64 (0), .int .i64 (0)] [(0, 1, (.t 6)), (1, 1, (.c (.int .i64 (7))))]⟩,
  ⟨(some 8), none, .call 98 [(.t 7), (.c (.int .i64 (31)))]⟩,
  ⟨(some 9), none, .build [.int .i64 (0), .int .i64 (0)] [(0, 1, (.t 5)), (1, 1, (.t 8))]⟩,
  ⟨(some 10), none, .call 98 [(.t 9), (.c (.int .i64 (1000003)))]⟩,
  ⟨(some 4), none, .mv (.t 10)⟩], false, []⟩
def Tryd.l_digest_pair : LCode := (.seq (.reg Tryd.r_digest_pair_0) (.seq (.reg Tryd.r_digest_pair_1) .ret))
theorem Tryd.c_digest_pair : fnComp Tryd.prog 99 = some (11, Tryd.l_digest_pair, [.t 4]) := by kernel_rfl
def Tryd.r_digest_Strings_0 : LReg := ⟨[⟨(some 2), none, .mv (.c (.int .i64 (0)))⟩,
  ⟨(some 3), none, .alloc 25 2 [.int .i64 (0), .int .i64 (0)]⟩], false, []⟩
def Tryd.r_digest_Strings_1 : LReg := ⟨[⟨(some 9), none, .mv (.t 0)⟩,
  ⟨(some 10), none, .len (.t 9)⟩,
  ⟨(some 11), none, .bin .gtr (.t 10) (.c (.int .i64 (120)))⟩], false, []⟩
def Tryd.r_digest_Strings_2 : LReg := ⟨[⟨(some 12), none, .build [.int .i64 (0), .int .i64 (0)] [(0, 1, (.c (.int .i64 (2)))), (1, 1, (.c (.int .i64 (-1))))]⟩,
  ⟨(some 2), none, .mv (.c (.int .i64 (0)))⟩,
  ⟨none, none, .store 2 (.t 3) (.t 12)⟩], false, []⟩
def Tryd.r_digest_Strings_3 : LReg := ⟨[⟨(some 4), none, .mv (.c (.int .i64 (2)))⟩], false, []⟩
def Tryd.r_digest_Strings_4 : LReg := ⟨[⟨(some 13), none, .mv (.t 0)⟩,
  ⟨(some 14), none, .len (.t 13)⟩,
  ⟨(some 15), none, .mv (.c (.int .i64 (0)))⟩], false, []⟩
def Tryd.r_digest_Strings_5 : LReg := ⟨[⟨(some 16), none, .bin .lss (.t 15) (.t 14)⟩], false, []⟩
def Tryd.r_digest_Strings_6 : LReg := ⟨[⟨(some 17), none, .mv (.t 15)⟩,
  ⟨(some 18), none, .idx 1 (.t 13) (.t 15)⟩,
  ⟨(some 19), none, .load 1 false (.t 18)⟩,
  ⟨(some 5), none, .mv (.t 17)⟩,
  ⟨(some 6), none, .mv (.t 19)⟩], false, []⟩
def Tryd.r_digest_Strings_7 : LReg := ⟨[⟨(some 21), none, .mv (.t 6)⟩,
  ⟨(some 22), none, .toBytes 5 (.t 21)⟩,
  ⟨(some 23), none, .call 63 [(.t 22)]⟩,
  ⟨(some 20), none, .mv (.t 23)⟩,
  ⟨(some 24), none, .extract 0 (.t 20)⟩,
  ⟨(some 25), none, .extract 1 (.t 20)⟩,
  ⟨(some 8), none, .alloc 25 2 [.int .i64 (0), .int .i64 (0)]⟩,
  ⟨(some 7), none, .mv (.t 24)⟩,
  ⟨none, none, .store 2 (.t 8) (.t 25)⟩], false, []⟩
def Tryd.r_digest_Strings_8 : LReg := ⟨[⟨(some 26), none, .load 2 true (.t 8)⟩,
  ⟨(some 27), none, .build [.int .i64 (0), .int .i64 (0)] []⟩,
  ⟨(some 28), none, .eqs true [0, 0] (.t 26) (.t 27)⟩], false, []⟩
def Tryd.r_digest_Strings_9 : LReg := ⟨[⟨(some 29), none, .fieldAddr 0 (.t 8)⟩,
  ⟨(some 30), none, .load 1 false (.t 29)⟩,
  ⟨(some 31), none, .mv (.t 5)⟩,
  ⟨(some 32), none, .build [.int .i64 (0), .int .i64 (0)] [(0, 1, (.t 30)), (1, 1, (.t 31))]⟩,
  ⟨(some 2), none, .mv (.c (.int .i64 (0)))⟩,
  ⟨none, none, .store 2 (.t 3) (.t 32)⟩], true, []⟩
def Tryd.r_digest_Strings_10 : LReg := ⟨[⟨(some 33), none, .mv (.t 4)⟩,
  ⟨(some 34), none, .mv (.t 7)⟩,
  ⟨(some 35), none, .call 99 [(.t 33), (.t 34)]⟩,
  ⟨(some 4), none, .mv (.t 35)⟩], false, []⟩
def Tryd.r_digest_Strings_11 : LReg := ⟨[⟨(some 36), none, .bin .add (.t 15) (.c (.int .i64 (1)))⟩,
  ⟨(some 15), none, .mv (.t 36)⟩], false, []⟩
def Tryd.r_digest_Strings_12 : LReg := ⟨[⟨(some 37), none, .mv (.t 4)⟩,
  ⟨(some 38), none, .build [.int .i64 (0), .int .i64 (0)] []⟩,
  ⟨(some 2), none, .mv (.t 37)⟩,
  ⟨none, none, .store 2 (.t 3) (.t 38)⟩], false, []⟩
def Tryd.l_digest_Strings : LCode := (.seq (.reg Tryd.r_digest_Strings_0) (.seq (.seq (.reg Tryd.r_digest_Strings_1) (.cond (.t 11) (.seq (.reg Tryd.r_digest_Strings_2) .ret) .skip)) (.seq (.reg Tryd.r_digest_Strings_3) (.seq (.seq (.reg Tryd.r_digest_Strings_4) (.block 0 (.loop (.seq (.reg Tryd.r_digest_Strings_5) (.seq (.cond (.t 16) .skip (.exit 0)) (.seq (.block 1 (.seq (.reg Tryd.r_digest_Strings_6) (.seq (.reg Tryd.r_digest_Strings_7) (.seq (.seq (.reg Tryd.r_digest_Strings_8) (.cond (.t 28) (.seq (.reg Tryd.r_digest_Strings_9) .ret) .skip)) (.reg Tryd.r_digest_Strings_10))))) (.reg Tryd.r_digest_Strings_11))))))) (.seq (.reg Tryd.r_digest_Strings_12) .ret)))))
theorem Tryd.c_digest_Strings : fnComp Tryd.prog 64 = some (39, Tryd.l_digest_Strings, [.t 2, .cell 3 2 true]) := by kernel_rfl
def Tryd.r_slices_BinarySearchFunc_api_File_api_File_string_0 : LReg := ⟨[⟨(some 6), none, .mv (.c (.int .i64 (0)))⟩,
  ⟨(some 7), none, .mv (.c (.bool false))⟩], false, []⟩
def Tryd.r_slices_BinarySearchFunc_api_File_api_File_string_1 : LReg := ⟨[⟨(some 12), none, .mv (.t 0)⟩,
  ⟨(some 13), none, .len (.t 12)⟩,
  ⟨(some 8), none, .mv (.t 13)⟩], false, []⟩
def Tryd.r_slices_BinarySearchFunc_api_File_api_File_string_2 : LReg := ⟨[⟨(some 14), none, .mv (.t 8)⟩,
  ⟨(some 9), none, .mv (.c (.int .i64 (0)))⟩,
  ⟨(some 10), none, .mv (.t 14)⟩], false, []⟩
def Tryd.r_slices_BinarySearchFunc_api_File_api_File_string_3 : LReg := ⟨[⟨(some 15), none, .mv (.t 9)⟩,
  ⟨(some 16), none, .mv (.t 10)⟩,
  ⟨(some 17), none, .bin .lss (.t 15) (.t 16)⟩], false, []⟩
def Tryd.r_slices_BinarySearchFunc_api_File_api_File_string_4 : LReg := ⟨[⟨(some 18), none, .mv (.t 9)⟩,
  ⟨(some 19), none, .mv (.t 10)⟩,
  ⟨(some 20), none, .bin .add (.t 18) (.t 19)⟩,
  ⟨(some 21), none, .conv .u64 (.t 20)⟩,
  ⟨(some 22), none, .bin .shr (.t 21) (.c (.int .u64 (1)))⟩,
  ⟨(some 23), none, .conv .i64 (.t 22)⟩,
  ⟨(some 11), none, .mv (.t 23)⟩], false, []⟩
def Tryd.r_slices_BinarySearchFunc_api_File_api_File_string_5 : LReg := ⟨[⟨(some 24), none, .mv (.t 2)⟩,
  ⟨(some 25), none, .mv (.t 0)⟩,
  ⟨(some 26), none, .mv (.t 11)⟩,
  ⟨(some 27), none, .idx 2 (.t 25) (.t 26)⟩,
  ⟨(some 28), none, .load 2 true (.t 27)⟩,
  ⟨(some 29), none, .mv (.t 1)⟩,
  ⟨(some 30), none, .callv (.t 24) [(.t 28), (.t 29)]⟩,
  ⟨(some 31), none, .bin .lss (.t 30) (.c (.int .i64 (0)))⟩], false, []⟩
def Tryd.r_slices_BinarySearchFunc_api_File_api_File_string_6 : LReg := ⟨[⟨(some 32), none, .mv (.t 11)⟩,
  ⟨(some 33), none, .bin .add (.t 32) (.c (.int .i64 (1)))⟩,
  ⟨(some 9), none, .mv (.t 33)⟩], false, []⟩
def Tryd.r_slices_BinarySearchFunc_api_File_api_File_string_7 : LReg := ⟨[⟨(some 34), none, .mv (.t 11)⟩,
  ⟨(some 10), none, .mv (.t 34)⟩], false, []⟩
def Tryd.r_slices_BinarySearchFunc_api_File_api_File_string_8 : LReg := ⟨[⟨(some 35), none, .mv (.t 9)⟩,
  ⟨(some 36), none, .mv (.t 9)⟩,
  ⟨(some 37), none, .mv (.t 8)⟩,
  ⟨(some 38), none, .bin .lss (.t 36) (.t 37)⟩,
  ⟨(some 39), none, .mv (.t 38)⟩,
  ⟨(some 40), (some (39, true)), .mv (.t 2)⟩,
  ⟨(some 41), (some (39, true)), .mv (.t 0)⟩,
  ⟨(some 42), (some (39, true)), .mv (.t 9)⟩,
  ⟨(some 43), (some (39, true)), .idx 2 (.t 41) (.t 42)⟩,
  ⟨(some 44), (some (39, true)), .load 2 true (.t 43)⟩,
  ⟨(some 45), (some (39, true)), .mv (.t 1)⟩,
  ⟨(some 46), (some (39, true)), .callv (.t 40) [(.t 44), (.t 45)]⟩,
  ⟨(some 47), (some (39, true)), .bin .eql (.t 46) (.c (.int .i64 (0)))⟩,
  ⟨(some 48), none, .pick (.t 39) (.t 47) (.c (.bool false))⟩,
  ⟨(some 6), none, .mv (.t 35)⟩,
  ⟨(some 7), none, .mv (.t 48)⟩], false, []⟩
def Tryd.l_slices_BinarySearchFunc_api_File_api_File_string : LCode := (.seq (.reg Tryd.r_slices_BinarySearchFunc_api_File_api_File_string_0) (.seq (.reg Tryd.r_slices_BinarySearchFunc_api_File_api_File_string_1) (.seq (.reg Tryd.r_slices_BinarySearchFunc_api_File_api_File_string_2) (.seq (.block 0 (.loop (.seq (.seq (.reg Tryd.r_slices_BinarySearchFunc_api_File_api_File_string_3) (.cond (.t 17) .skip (.exit 0))) (.block 1 (.seq (.reg Tryd.r_slices_BinarySearchFunc_api_File_api_File_string_4) (.seq (.reg Tryd.r_slices_BinarySearchFunc_api_File_api_File_string_5) (.cond (.t 31) (.reg Tryd.r_slices_BinarySearchFunc_api_File_api_File_string_6) (.reg Tryd.r_slices_BinarySearchFunc_api_File_api_File_string_7)))))))) (.seq (.reg Tryd.r_slices_BinarySearchFunc_api_File_api_File_string_8) .ret)))))
theorem Tryd.c_slices_BinarySearchFunc_api_File_api_File_string : fnComp Tryd.prog 100 = some (49, Tryd.l_slices_BinarySearchFunc_api_File_api_File_string, [.t 6, .t 7]) := by kernel_rfl
theorem Tryd.b_treepatch_Find_1 : bodied Tryd.prog 101 = true := by kernel_rfl
def Tryd.r_treepatch_Find_1_0 : LReg := ⟨[⟨(some 2), none, .box 103 2 (.t 0)⟩,
  ⟨(some 4), none, .mv (.c (.int .i64 (0)))⟩], false, []⟩
def Tryd.r_treepatch_Find_1_1 : LReg := ⟨[⟨(some 5), none, .fieldAddr 0 (.t 2)⟩,
  ⟨(some 6), none, .load 1 false (.t 5)⟩,
  ⟨(some 7), none, .mv (.t 1)⟩,
  ⟨(some 8), none, .call 87 [(.t 6), (.t 7)]⟩,
  ⟨(some 4), none, .mv (.t 8)⟩], false, []⟩
def Tryd.l_treepatch_Find_1 : LCode := (.seq (.reg Tryd.r_treepatch_Find_1_0) (.seq (.reg Tryd.r_treepatch_Find_1_1) .ret))
theorem Tryd.c_treepatch_Find_1 : fnComp Tryd.prog 101 = some (9, Tryd.l_treepatch_Find_1, [.t 4]) := by kernel_rfl
def Tryd.r_treepatch_Find_0 : LReg := ⟨[⟨(some 4), none, .mv (.c (.int .i64 (0)))⟩,
  ⟨(some 5), none, .mv (.c (.bool false))⟩], false, []⟩
def Tryd.r_treepatch_Find_1 : LReg := ⟨[⟨(some 6), none, .mv (.t 0)⟩,
  ⟨(some 7), none, .mv (.t 1)⟩,
  ⟨(some 8), none, .call 100 [(.t 6), (.t 7), (.c (.fn 101 [] []))]⟩,
  ⟨(some 9), none, .extract 0 (.t 8)⟩,
  ⟨(some 10), none, .extract 1 (.t 8)⟩,
  ⟨(some 4), none, .mv (.t 9)⟩,
  ⟨(some 5), none, .mv (.t 10)⟩], false, []⟩
def Tryd.l_treepatch_Find : LCode := (.seq (.reg Tryd.r_treepatch_Find_0) (.seq (.reg Tryd.r_treepatch_Find_1) .ret))
theorem Tryd.c_treepatch_Find : fnComp Tryd.prog 65 = some (11, Tryd.l_treepatch_Find, [.t 4, .t 5]) := by kernel_rfl
def Tryd.r_bom_describe_0 : LReg := ⟨[⟨(some 2), none, .box 46 1 (.t 0)⟩,
  ⟨(some 4), none, .mv (.c (.int .i64 (0)))⟩], false, []⟩
def Tryd.r_bom_describe_1 : LReg := ⟨[⟨(some 10), none, .fieldAddr 0 (.t 2)⟩,
  ⟨(some 11), none, .load 1 false (.t 10)⟩,
  ⟨(some 12), none, .mv (.t 1)⟩,
  ⟨(some 13), none, .call 65 [(.t 11), (.t 12)]⟩,
  ⟨(some 9), none, .mv (.t 13)⟩,
  ⟨(some 14), none, .extract 0 (.t 9)⟩,
  ⟨(some 15), none, .extract 1 (.t 9)⟩,
  ⟨(some 5), none, .mv (.t 14)⟩,
  ⟨(some 6), none, .mv (.t 15)⟩], false, []⟩
def Tryd.r_bom_describe_2 : LReg := ⟨[⟨(some 16), none, .mv (.t 6)⟩,
  ⟨(some 17), none, .un .not (.t 16)⟩], false, []⟩
def Tryd.r_bom_describe_3 : LReg := ⟨[⟨(some 4), none, .mv (.c (.int .i64 (-1)))⟩], false, []⟩
def Tryd.r_bom_describe_4 : LReg := ⟨[⟨(some 19), none, .fieldAddr 0 (.t 2)⟩,
  ⟨(some 20), none, .load 1 false (.t 19)⟩,
  ⟨(some 21), none, .mv (.t 5)⟩,
  ⟨(some 22), none, .idx 2 (.t 20) (.t 21)⟩,
  ⟨(some 23), none, .fieldAddr 1 (.t 22)⟩,
  ⟨(some 24), none, .load 1 false (.t 23)⟩,
  ⟨(some 25), none, .call 64 [(.t 24)]⟩,
  ⟨(some 18), none, .mv (.t 25)⟩,
  ⟨(some 26), none, .extract 0 (.t 18)⟩,
  ⟨(some 27), none, .extract 1 (.t 18)⟩,
  ⟨(some 8), none, .alloc 25 2 [.int .i64 (0), .int .i64 (0)]⟩,
  ⟨(some 7), none, .mv (.t 26)⟩,
  ⟨none, none, .store 2 (.t 8) (.t 27)⟩], false, []⟩
def Tryd.r_bom_describe_5 : LReg := ⟨[⟨(some 28), none, .mv (.t 7)⟩,
  ⟨(some 4), none, .mv (.t 28)⟩], false, []⟩
def Tryd.l_bom_describe : LCode := (.seq (.reg Tryd.r_bom_describe_0) (.seq (.reg Tryd.r_bom_describe_1) (.seq (.seq (.reg Tryd.r_bom_describe_2) (.cond (.t 17) (.seq (.reg Tryd.r_bom_describe_3) .ret) .skip)) (.seq (.reg Tryd.r_bom_describe_4) (.seq (.reg Tryd.r_bom_describe_5) .ret)))))
theorem Tryd.c_bom_describe : fnComp Tryd.prog 80 = some (29, Tryd.l_bom_describe, [.t 4]) := by kernel_rfl
def Tryd.r_bom_Check_0 : LReg := ⟨[⟨(some 3), none, .box 46 1 (.t 1)⟩,
  ⟨(some 4), none, .mv (.c (.nils))⟩,
  ⟨(some 5), none, .alloc 25 2 [.int .i64 (0), .int .i64 (0)]⟩], false, []⟩
def Tryd.r_bom_Check_1 : LReg := ⟨[⟨(some 11), none, .mv (.t 0)⟩,
  ⟨(some 12), none, .call 36 [(.t 11)]⟩,
  ⟨(some 6), none, .alloc 25 2 [.int .i64 (0), .int .i64 (0)]⟩,
  ⟨none, none, .store 2 (.t 6) (.t 12)⟩], false, []⟩
def Tryd.r_bom_Check_2 : LReg := ⟨[⟨(some 13), none, .load 2 true (.t 6)⟩,
  ⟨(some 14), none, .build [.int .i64 (0), .int .i64 (0)] []⟩,
  ⟨(some 15), none, .eqs true [0, 0] (.t 13) (.t 14)⟩], false, []⟩
def Tryd.r_bom_Check_3 : LReg := ⟨[⟨(some 16), none, .load 2 true (.t 6)⟩,
  ⟨(some 4), none, .mv (.c (.nils))⟩,
  ⟨none, none, .store 2 (.t 5) (.t 16)⟩], true, []⟩
def Tryd.r_bom_Check_4 : LReg := ⟨[⟨(some 17), none, .load 1 true (.t 3)⟩,
  ⟨(some 18), none, .call 79 [(.t 17), (.c (.int .i64 (-2)))]⟩,
  ⟨(some 7), none, .alloc 25 2 [.int .i64 (0), .int .i64 (0)]⟩,
  ⟨none, none, .store 2 (.t 7) (.t 18)⟩], false, []⟩
def Tryd.r_bom_Check_5 : LReg := ⟨[⟨(some 19), none, .load 2 true (.t 7)⟩,
  ⟨(some 20), none, .build [.int .i64 (0), .int .i64 (0)] []⟩,
  ⟨(some 21), none, .eqs true [0, 0] (.t 19) (.t 20)⟩], false, []⟩
def Tryd.r_bom_Check_6 : LReg := ⟨[⟨(some 22), none, .load 2 true (.t 7)⟩,
  ⟨(some 4), none, .mv (.c (.nils))⟩,
  ⟨none, none, .store 2 (.t 5) (.t 22)⟩], true, []⟩
def Tryd.r_bom_Check_7 : LReg := ⟨[⟨(some 8), none, .mv (.c (.nils))⟩], false, []⟩
def Tryd.r_bom_Check_8 : LReg := ⟨[⟨(some 23), none, .mv (.t 0)⟩,
  ⟨(some 24), none, .len (.t 23)⟩,
  ⟨(some 25), none, .mv (.c (.int .i64 (0)))⟩], false, []⟩
def Tryd.r_bom_Check_9 : LReg := ⟨[⟨(some 26), none, .bin .lss (.t 25) (.t 24)⟩], false, []⟩
def Tryd.r_bom_Check_10 : LReg := ⟨[⟨(some 27), none, .mv (.t 25)⟩,
  ⟨(some 28), none, .idx 2 (.t 23) (.t 25)⟩,
  ⟨(some 29), none, .load 2 true (.t 28)⟩,
  ⟨(some 10), none, .alloc 117 2 [.str [], .int .i64 (0)]⟩,
  ⟨(some 9), none, .mv (.t 27)⟩,
  ⟨none, none, .store 2 (.t 10) (.t 29)⟩], false, []⟩
def Tryd.r_bom_Check_11 : LReg := ⟨[⟨(some 30), none, .fieldAddr 1 (.t 10)⟩,
  ⟨(some 31), none, .load 1 false (.t 30)⟩,
  ⟨(some 32), none, .load 1 true (.t 3)⟩,
  ⟨(some 33), none, .fieldAddr 0 (.t 10)⟩,
  ⟨(some 34), none, .load 1 false (.t 33)⟩,
  ⟨(some 35), none, .call 80 [(.t 32), (.t 34)]⟩,
  ⟨(some 36), none, .bin .neq (.t 31) (.t 35)⟩], true, [(0, 2), (1, 2), (0, 3), (1, 3), (2, 3), (0, 4), (1, 4), (2, 4), (0, 5), (1, 5)]⟩
def Tryd.r_bom_Check_12 : LReg := ⟨[⟨(some 37), none, .mv (.t 8)⟩,
  ⟨(some 38), none, .mv (.t 9)⟩,
  ⟨(some 39), none, .mkSlice 3 1 1 [.int .i64 (0)] [(0, (.t 38))]⟩,
  ⟨(some 40), none, .append 3 1 8 (.t 37) (.t 39)⟩,
  ⟨(some 8), none, .mv (.t 40)⟩], false, []⟩
def Tryd.r_bom_Check_13 : LReg := ⟨[⟨(some 41), none, .bin .add (.t 25) (.c (.int .i64 (1)))⟩,
  ⟨(some 25), none, .mv (.t 41)⟩], false, []⟩
def Tryd.r_bom_Check_14 : LReg := ⟨[⟨(some 42), none, .mv (.t 8)⟩,
  ⟨(some 43), none, .build [.int .i64 (0), .int .i64 (0)] []⟩,
  ⟨(some 4), none, .mv (.t 42)⟩,
  ⟨none, none, .store 2 (.t 5) (.t 43)⟩], false, []⟩
def Tryd.l_bom_Check : LCode := (.seq (.reg Tryd.r_bom_Check_0) (.seq (.seq (.reg Tryd.r_bom_Check_1) (.seq (.reg Tryd.r_bom_Check_2) (.cond (.t 15) (.seq (.reg Tryd.r_bom_Check_3) .ret) .skip))) (.seq (.seq (.reg Tryd.r_bom_Check_4) (.seq (.reg Tryd.r_bom_Check_5) (.cond (.t 21) (.seq (.reg Tryd.r_bom_Check_6) .ret) .skip))) (.seq (.reg Tryd.r_bom_Check_7) (.seq (.seq (.reg Tryd.r_bom_Check_8) (.block 0 (.loop (.seq (.reg Tryd.r_bom_Check_9) (.seq (.cond (.t 26) .skip (.exit 0)) (.seq (.block 1 (.seq (.reg Tryd.r_bom_Check_10) (.seq (.reg Tryd.r_bom_Check_11) (.cond (.t 36) (.reg Tryd.r_bom_Check_12) .skip)))) (.reg Tryd.r_bom_Check_13))))))) (.seq (.reg Tryd.r_bom_Check_14) .ret))))))
theorem Tryd.c_bom_Check : fnComp Tryd.prog 38 = some (44, Tryd.l_bom_Check, [.t 4, .cell 5 2 true]) := by kernel_rfl
def Tryd.r_ref5_Ints_0 : LReg := ⟨[⟨(some 4), none, .mv (.c (.bool false))⟩], false, []⟩
def Tryd.r_ref5_Ints_1 : LReg := ⟨[⟨(some 6), none, .mv (.t 0)⟩,
  ⟨(some 7), none, .len (.t 6)⟩,
  ⟨(some 8), none, .mv (.t 1)⟩,
  ⟨(some 9), none, .len (.t 8)⟩,
  ⟨(some 10), none, .bin .neq (.t 7) (.t 9)⟩], false, []⟩
def Tryd.r_ref5_Ints_2 : LReg := ⟨[⟨(some 4), none, .mv (.c (.bool false))⟩], false, []⟩
def Tryd.r_ref5_Ints_3 : LReg := ⟨[⟨(some 5), none, .mv (.c (.int .i64 (0)))⟩], false, []⟩
def Tryd.r_ref5_Ints_4 : LReg := ⟨[⟨(some 11), none, .mv (.t 5)⟩,
  ⟨(some 12), none, .mv (.t 0)⟩,
  ⟨(some 13), none, .len (.t 12)⟩,
  ⟨(some 14), none, .bin .lss (.t 11) (.t 13)⟩], false, []⟩
def Tryd.r_ref5_Ints_5 : LReg := ⟨[⟨(some 17), none, .mv (.t 0)⟩,
  ⟨(some 18), none, .mv (.t 5)⟩,
  ⟨(some 19), none, .idx 1 (.t 17) (.t 18)⟩,
  ⟨(some 20), none, .load 1 false (.t 19)⟩,
  ⟨(some 21), none, .mv (.t 1)⟩,
  ⟨(some 22), none, .mv (.t 5)⟩,
  ⟨(some 23), none, .idx 1 (.t 21) (.t 22)⟩,
  ⟨(some 24), none, .load 1 false (.t 23)⟩,
  ⟨(some 25), none, .bin .neq (.t 20) (.t 24)⟩], true, [(2, 6), (3, 6), (2, 7), (3, 7)]⟩
def Tryd.r_ref5_Ints_6 : LReg := ⟨[⟨(some 4), none, .mv (.c (.bool false))⟩], false, []⟩
def Tryd.r_ref5_Ints_7 : LReg := ⟨[⟨(some 15), none, .mv (.t 5)⟩,
  ⟨(some 16), none, .bin .add (.t 15) (.c (.int .i64 (1)))⟩,
  ⟨(some 5), none, .mv (.t 16)⟩], false, []⟩
def Tryd.r_ref5_Ints_8 : LReg := ⟨[⟨(some 4), none, .mv (.c (.bool true))⟩], false, []⟩
def Tryd.l_ref5_Ints : LCode := (.seq (.reg Tryd.r_ref5_Ints_0) (.seq (.seq (.reg Tryd.r_ref5_Ints_1) (.cond (.t 10) (.seq (.reg Tryd.r_ref5_Ints_2) .ret) .skip)) (.seq (.seq (.reg Tryd.r_ref5_Ints_3) (.block 0 (.loop (.seq (.seq (.reg Tryd.r_ref5_Ints_4) (.cond (.t 14) .skip (.exit 0))) (.seq (.block 1 (.seq (.reg Tryd.r_ref5_Ints_5) (.cond (.t 25) (.seq (.reg Tryd.r_ref5_Ints_6) .ret) .skip))) (.reg Tryd.r_ref5_Ints_7)))))) (.seq (.reg Tryd.r_ref5_Ints_8) .ret))))
theorem Tryd.c_ref5_Ints : fnComp Tryd.prog 39 = some (26, Tryd.l_ref5_Ints, [.t 4]) := by kernel_rfl
theorem Tryd.b_bom_Make_1 : bodied Tryd.prog 83 = true := by kernel_rfl
def Tryd.r_bom_Make_1_0 : LReg := ⟨[⟨(some 3), none, .mv (.c (.str []))⟩], false, []⟩
def Tryd.r_bom_Make_1_1 : LReg := ⟨[⟨(some 4), none, .load 1 false (.t 1)⟩,
  ⟨(some 5), none, .mv (.t 0)⟩,
  ⟨(some 6), none, .idx 1 (.t 4) (.t 5)⟩,
  ⟨(some 7), none, .load 1 false (.t 6)⟩,
  ⟨(some 3), none, .mv (.t 7)⟩], false, []⟩
def Tryd.l_bom_Make_1 : LCode := (.seq (.reg Tryd.r_bom_Make_1_0) (.seq (.reg Tryd.r_bom_Make_1_1) .ret))
theorem Tryd.c_bom_Make_1 : fnComp Tryd.prog 83 = some (8, Tryd.l_bom_Make_1, [.t 3]) := by kernel_rfl
def Tryd.r_bom_Make_0 : LReg := ⟨[⟨(some 2), none, .box 23 1 (.t 0)⟩,
  ⟨(some 3), none, .box 46 1 (.t 1)⟩,
  ⟨(some 4), none, .mv (.c (.nils))⟩,
  ⟨(some 5), none, .alloc 25 2 [.int .i64 (0), .int .i64 (0)]⟩], false, []⟩
def Tryd.r_bom_Make_1 : LReg := ⟨[⟨(some 11), none, .load 1 false (.t 2)⟩,
  ⟨(some 12), none, .len (.t 11)⟩,
  ⟨(some 13), none, .mkfn 83 [] [(.t 2)]⟩,
  ⟨(some 14), none, .call 76 [(.t 12), (.t 13)]⟩,
  ⟨(some 6), none, .alloc 25 2 [.int .i64 (0), .int .i64 (0)]⟩,
  ⟨none, none, .store 2 (.t 6) (.t 14)⟩], false, []⟩
def Tryd.r_bom_Make_2 : LReg := ⟨[⟨(some 15), none, .load 2 true (.t 6)⟩,
  ⟨(some 16), none, .build [.int .i64 (0), .int .i64 (0)] []⟩,
  ⟨(some 17), none, .eqs true [0, 0] (.t 15) (.t 16)⟩], false, []⟩
def Tryd.r_bom_Make_3 : LReg := ⟨[⟨(some 18), none, .load 2 true (.t 6)⟩,
  ⟨(some 4), none, .mv (.c (.nils))⟩,
  ⟨none, none, .store 2 (.t 5) (.t 18)⟩], true, []⟩
def Tryd.r_bom_Make_4 : LReg := ⟨[⟨(some 19), none, .load 1 true (.t 3)⟩,
  ⟨(some 20), none, .call 79 [(.t 19), (.c (.int .i64 (-2)))]⟩,
  ⟨(some 7), none, .alloc 25 2 [.int .i64 (0), .int .i64 (0)]⟩,
  ⟨none, none, .store 2 (.t 7) (.t 20)⟩], false, []⟩
def Tryd.r_bom_Make_5 : LReg := ⟨[⟨(some 21), none, .load 2 true (.t 7)⟩,
  ⟨(some 22), none, .build [.int .i64 (0), .int .i64 (0)] []⟩,
  ⟨(some 23), none, .eqs true [0, 0] (.t 21) (.t 22)⟩], false, []⟩
def Tryd.r_bom_Make_6 : LReg := ⟨[⟨(some 24), none, .load 2 true (.t 7)⟩,
  ⟨(some 4), none, .mv (.c (.nils))⟩,
  ⟨none, none, .store 2 (.t 5) (.t 24)⟩], true, []⟩
def Tryd.r_bom_Make_7 : LReg := ⟨[⟨(some 8), none, .mv (.c (.nils))⟩], false, []⟩
def Tryd.r_bom_Make_8 : LReg := ⟨[⟨(some 25), none, .load 1 false (.t 2)⟩,
  ⟨(some 26), none, .len (.t 25)⟩,
  ⟨(some 27), none, .mv (.c (.int .i64 (0)))⟩], false, []⟩
def Tryd.r_bom_Make_9 : LReg := ⟨[⟨(some 28), none, .bin .lss (.t 27) (.t 26)⟩], false, []⟩
def Tryd.r_bom_Make_10 : LReg := ⟨[⟨(some 29), none, .idx 1 (.t 25) (.t 27)⟩,
  ⟨(some 30), none, .load 1 false (.t 29)⟩,
  ⟨(some 10), none, .mv (.t 30)⟩], false, []⟩
def Tryd.r_bom_Make_11 : LReg := ⟨[⟨(some 31), none, .mv (.t 8)⟩,
  ⟨(some 32), none, .mv (.t 10)⟩,
  ⟨(some 33), none, .load 1 true (.t 3)⟩,
  ⟨(some 34), none, .mv (.t 10)⟩,
  ⟨(some 35), none, .call 80 [(.t 33), (.t 34)]⟩,
  ⟨(some 36), none, .build [.str [], .int .i64 (0)] [(0, 1, (.t 32)), (1, 1, (.t 35))]⟩,
  ⟨(some 37), none, .mkSlice 117 2 1 [.str [], .int .i64 (0)] [(0, (.t 36))]⟩,
  ⟨(some 38), none, .append 117 2 24 (.t 31) (.t 37)⟩,
  ⟨(some 8), none, .mv (.t 38)⟩], false, []⟩
def Tryd.r_bom_Make_12 : LReg := ⟨[⟨(some 39), none, .bin .add (.t 27) (.c (.int .i64 (1)))⟩,
  ⟨(some 27), none, .mv (.t 39)⟩], false, []⟩
def Tryd.r_bom_Make_13 : LReg := ⟨[⟨(some 40), none, .mv (.t 8)⟩,
  ⟨(some 41), none, .build [.int .i64 (0), .int .i64 (0)] []⟩,
  ⟨(some 4), none, .mv (.t 40)⟩,
  ⟨none, none, .store 2 (.t 5) (.t 41)⟩], false, []⟩
def Tryd.l_bom_Make : LCode := (.seq (.reg Tryd.r_bom_Make_0) (.seq (.seq (.reg Tryd.r_bom_Make_1) (.seq (.reg Tryd.r_bom_Make_2) (.cond (.t 17) (.seq (.reg Tryd.r_bom_Make_3) .ret) .skip))) (.seq (.seq (.reg Tryd.r_bom_Make_4) (.seq (.reg Tryd.r_bom_Make_5) (.cond (.t 23) (.seq (.reg Tryd.r_bom_Make_6) .ret) .skip))) (.seq (.reg Tryd.r_bom_Make_7) (.seq (.seq (.reg Tryd.r_bom_Make_8) (.block 0 (.loop (.seq (.reg Tryd.r_bom_Make_9) (.seq (.cond (.t 28) .skip (.exit 0)) (.seq (.block 1 (.seq (.reg Tryd.r_bom_Make_10) (.reg Tryd.r_bom_Make_11))) (.reg Tryd.r_bom_Make_12))))))) (.seq (.reg Tryd.r_bom_Make_13) .ret))))))
theorem Tryd.c_bom_Make : fnComp Tryd.prog 42 = some (42, Tryd.l_bom_Make, [.t 4, .cell 5 2 true]) := by kernel_rfl
def Tryd.r_ref6_SameBom_0 : LReg := ⟨[⟨(some 4), none, .mv (.c (.bool false))⟩], false, []⟩
def Tryd.r_ref6_SameBom_1 : LReg := ⟨[⟨(some 6), none, .mv (.t 0)⟩,
  ⟨(some 7), none, .len (.t 6)⟩,
  ⟨(some 8), none, .mv (.t 1)⟩,
  ⟨(some 9), none, .len (.t 8)⟩,
  ⟨(some 10), none, .bin .neq (.t 7) (.t 9)⟩], false, []⟩
def Tryd.r_ref6_SameBom_2 : LReg := ⟨[⟨(some 4), none, .mv (.c (.bool false))⟩], false, []⟩
def Tryd.r_ref6_SameBom_3 : LReg := ⟨[⟨(some 5), none, .mv (.c (.int .i64 (0)))⟩], false, []⟩
def Tryd.r_ref6_SameBom_4 : LReg := ⟨[⟨(some 11), none, .mv (.t 5)⟩,
  ⟨(some 12), none, .mv (.t 0)⟩,
  ⟨(some 13), none, .len (.t 12)⟩,
  ⟨(some 14), none, .bin .lss (.t 11) (.t 13)⟩], false, []⟩
def Tryd.r_ref6_SameBom_5 : LReg := ⟨[⟨(some 17), none, .mv (.t 0)⟩,
  ⟨(some 18), none, .mv (.t 5)⟩,
  ⟨(some 19), none, .idx 2 (.t 17) (.t 18)⟩,
  ⟨(some 20), none, .load 2 true (.t 19)⟩,
  ⟨(some 21), none, .mv (.t 1)⟩,
  ⟨(some 22), none, .mv (.t 5)⟩,
  ⟨(some 23), none, .idx 2 (.t 21) (.t 22)⟩,
  ⟨(some 24), none, .load 2 true (.t 23)⟩,
  ⟨(some 25), none, .eqs true [2, 0] (.t 20) (.t 24)⟩], true, [(2, 6), (3, 6), (2, 7), (3, 7)]⟩
def Tryd.r_ref6_SameBom_6 : LReg := ⟨[⟨(some 4), none, .mv (.c (.bool false))⟩], false, []⟩
def Tryd.r_ref6_SameBom_7 : LReg := ⟨[⟨(some 15), none, .mv (.t 5)⟩,
  ⟨(some 16), none, .bin .add (.t 15) (.c (.int .i64 (1)))⟩,
  ⟨(some 5), none, .mv (.t 16)⟩], false, []⟩
def Tryd.r_ref6_SameBom_8 : LReg := ⟨[⟨(some 4), none, .mv (.c (.bool true))⟩], false, []⟩
def Tryd.l_ref6_SameBom : LCode := (.seq (.reg Tryd.r_ref6_SameBom_0) (.seq (.seq (.reg Tryd.r_ref6_SameBom_1) (.cond (.t 10) (.seq (.reg Tryd.r_ref6_SameBom_2) .ret) .skip)) (.seq (.seq (.reg Tryd.r_ref6_SameBom_3) (.block 0 (.loop (.seq (.seq (.reg Tryd.r_ref6_SameBom_4) (.cond (.t 14) .skip (.exit 0))) (.seq (.block 1 (.seq (.reg Tryd.r_ref6_SameBom_5) (.cond (.t 25) (.seq (.reg Tryd.r_ref6_SameBom_6) .ret) .skip))) (.reg Tryd.r_ref6_SameBom_7)))))) (.seq (.reg Tryd.r_ref6_SameBom_8) .ret))))
theorem Tryd.c_ref6_SameBom : fnComp Tryd.prog 43 = some (26, Tryd.l_ref6_SameBom, [.t 4]) := by kernel_rfl
def Tryd.r_slices_Concat_api_BomEntry_api_BomEntry_0 : LReg := ⟨[⟨(some 2), none, .mv (.c (.nils))⟩], false, []⟩
def Tryd.r_slices_Concat_api_BomEntry_api_BomEntry_1 : LReg := ⟨[⟨(some 3), none, .mv (.c (.int .i64 (0)))⟩], false, []⟩
def Tryd.r_slices_Concat_api_BomEntry_api_BomEntry_2 : LReg := ⟨[⟨(some 9), none, .mv (.t 0)⟩,
  ⟨(some 10), none, .len (.t 9)⟩,
  ⟨(some 11), none, .mv (.c (.int .i64 (0)))⟩], false, []⟩
def Tryd.r_slices_Concat_api_BomEntry_api_BomEntry_3 : LReg := ⟨[⟨(some 12), none, .bin .lss (.t 11) (.t 10)⟩], false, []⟩
def Tryd.r_slices_Concat_api_BomEntry_api_BomEntry_4 : LReg := ⟨[⟨(some 13), none, .idx 1 (.t 9) (.t 11)⟩,
  ⟨(some 14), none, .load 1 false (.t 13)⟩,
  ⟨(some 5), none, .mv (.t 14)⟩], false, []⟩
def Tryd.r_slices_Concat_api_BomEntry_api_BomEntry_5 : LReg := ⟨[⟨(some 15), none, .mv (.t 3)⟩,
  ⟨(some 16), none, .mv (.t 5)⟩,
  ⟨(some 17), none, .len (.t 16)⟩,
  ⟨(some 18), none, .bin .add (.t 15) (.t 17)⟩,
  ⟨(some 3), none, .mv (.t 18)⟩], false, []⟩
def Tryd.r_slices_Concat_api_BomEntry_api_BomEntry_6 : LReg := ⟨[⟨(some 19), none, .mv (.t 3)⟩,
  ⟨(some 20), none, .bin .lss (.t 19) (.c (.int .i64 (0)))⟩], false, []⟩
def Tryd.r_slices_Concat_api_BomEntry_api_BomEntry_7 : LReg := ⟨[⟨(some 21), none, .bad⟩,
  ⟨none, none, .bad⟩], false, []⟩
def Tryd.r_slices_Concat_api_BomEntry_api_BomEntry_8 : LReg := ⟨[⟨(some 22), none, .bin .add (.t 11) (.c (.int .i64 (1)))⟩,
  ⟨(some 11), none, .mv (.t 22)⟩], false, []⟩
def Tryd.r_slices_Concat_api_BomEntry_api_BomEntry_9 : LReg := ⟨[⟨(some 23), none, .mv (.t 3)⟩,
  ⟨(some 24), none, .call 114 [(.c (.nils)), (.t 23)]⟩,
  ⟨(some 6), none, .mv (.t 24)⟩], false, []⟩
def Tryd.r_slices_Concat_api_BomEntry_api_BomEntry_10 : LReg := ⟨[⟨(some 25), none, .mv (.t 0)⟩,
  ⟨(some 26), none, .len (.t 25)⟩,
  ⟨(some 27), none, .mv (.c (.int .i64 (0)))⟩], false, []⟩
def Tryd.r_slices_Concat_api_BomEntry_api_BomEntry_11 : LReg := ⟨[⟨(some 28), none, .bin .lss (.t 27) (.t 26)⟩], false, []⟩
def Tryd.r_slices_Concat_api_BomEntry_api_BomEntry_12 : LReg := ⟨[⟨(some 29), none, .idx 1 (.t 25) (.t 27)⟩,
  ⟨(some 30), none, .load 1 false (.t 29)⟩,
  ⟨(some 8), none, .mv (.t 30)⟩], false, []⟩
def Tryd.r_slices_Concat_api_BomEntry_api_BomEntry_13 : LReg := ⟨[⟨(some 31), none, .mv (.t 6)⟩,
  ⟨(some 32), none, .mv (.t 8)⟩,
  ⟨(some 33), none, .append 117 2 24 (.t 31) (.t 32)⟩,
  ⟨(some 6), none, .mv (.t 33)⟩], false, []⟩
def Tryd.r_slices_Concat_api_BomEntry_api_BomEntry_14 : LReg := ⟨[⟨(some 34), none, .bin .add (.t 27) (.c (.int .i64 (1)))⟩,
  ⟨(some 27), none, .mv (.t 34)⟩], false, []⟩
def Tryd.r_slices_Concat_api_BomEntry_api_BomEntry_15 : LReg := ⟨[⟨(some 35), none, .mv (.t 6)⟩,
  ⟨(some 2), none, .mv (.t 35)⟩], false, []⟩
def Tryd.l_slices_Concat_api_BomEntry_api_BomEntry : LCode := (.seq (.reg Tryd.r_slices_Concat_api_BomEntry_api_BomEntry_0) (.seq (.reg Tryd.r_slices_Concat_api_BomEntry_api_BomEntry_1) (.seq (.seq (.reg Tryd.r_slices_Concat_api_BomEntry_api_BomEntry_2) (.block 0 (.loop (.seq (.reg Tryd.r_slices_Concat_api_BomEntry_api_BomEntry_3) (.seq (.cond (.t 12) .skip (.exit 0)) (.seq (.block 1 (.seq (.reg Tryd.r_slices_Concat_api_BomEntry_api_BomEntry_4) (.seq (.reg Tryd.r_slices_Concat_api_BomEntry_api_BomEntry_5) (.seq (.reg Tryd.r_slices_Concat_api_BomEntry_api_BomEntry_6) (.cond (.t 20) (.reg Tryd.r_slices_Concat_api_BomEntry_api_BomEntry_7) .skip))))) (.reg Tryd.r_slices_Concat_api_BomEntry_api_BomEntry_8))))))) (.seq (.reg Tryd.r_slices_Concat_api_BomEntry_api_BomEntry_9) (.seq (.seq (.reg Tryd.r_slices_Concat_api_BomEntry_api_BomEntry_10) (.block 2 (.loop (.seq (.reg Tryd.r_slices_Concat_api_BomEntry_api_BomEntry_11) (.seq (.cond (.t 28) .skip (.exit 2)) (.seq (.block 3 (.seq (.reg Tryd.r_slices_Concat_api_BomEntry_api_BomEntry_12) (.reg Tryd.r_slices_Concat_api_BomEntry_api_BomEntry_13))) (.reg Tryd.r_slices_Concat_api_BomEntry_api_BomEntry_14))))))) (.seq (.reg Tryd.r_slices_Concat_api_BomEntry_api_BomEntry_15) .ret))))))
theorem Tryd.c_slices_Concat_api_BomEntry_api_BomEntry : fnComp Tryd.prog 84 = some (36, Tryd.l_slices_Concat_api_BomEntry_api_BomEntry, [.t 2]) := by kernel_rfl
def Tryd.r_slices_Compact_api_BomEntry_api_BomEntry_0 : LReg := ⟨[⟨(some 2), none, .mv (.c (.nils))⟩], false, []⟩
def Tryd.r_slices_Compact_api_BomEntry_api_BomEntry_1 : LReg := ⟨[⟨(some 6), none, .mv (.t 0)⟩,
  ⟨(some 7), none, .len (.t 6)⟩,
  ⟨(some 8), none, .bin .lss (.t 7) (.c (.int .i64 (2)))⟩], false, []⟩
def Tryd.r_slices_Compact_api_BomEntry_api_BomEntry_2 : LReg := ⟨[⟨(some 9), none, .mv (.t 0)⟩,
  ⟨(some 2), none, .mv (.t 9)⟩], false, []⟩
def Tryd.r_slices_Compact_api_BomEntry_api_BomEntry_3 : LReg := ⟨[⟨(some 3), none, .mv (.c (.int .i64 (1)))⟩], false, []⟩
def Tryd.r_slices_Compact_api_BomEntry_api_BomEntry_4 : LReg := ⟨[⟨(some 10), none, .mv (.t 3)⟩,
  ⟨(some 11), none, .mv (.t 0)⟩,
  ⟨(some 12), none, .len (.t 11)⟩,
  ⟨(some 13), none, .bin .lss (.t 10) (.t 12)⟩], false, []⟩
def Tryd.r_slices_Compact_api_BomEntry_api_BomEntry_5 : LReg := ⟨[⟨(some 16), none, .mv (.t 0)⟩,
  ⟨(some 17), none, .mv (.t 3)⟩,
  ⟨(some 18), none, .idx 2 (.t 16) (.t 17)⟩,
  ⟨(some 19), none, .load 2 true (.t 18)⟩,
  ⟨(some 20), none, .mv (.t 0)⟩,
  ⟨(some 21), none, .mv (.t 3)⟩,
  ⟨(some 22), none, .bin .sub (.t 21) (.c (.int .i64 (1)))⟩,
  ⟨(some 23), none, .idx 2 (.t 20) (.t 22)⟩,
  ⟨(some 24), none, .load 2 true (.t 23)⟩,
  ⟨(some 25), none, .eqs false [2, 0] (.t 19) (.t 24)⟩], true, [(2, 7), (3, 7), (2, 8), (3, 8)]⟩
def Tryd.r_slices_Compact_api_BomEntry_api_BomEntry_6 : LReg := ⟨[⟨(some 26), none, .mv (.t 0)⟩,
  ⟨(some 27), none, .mv (.t 3)⟩,
  ⟨(some 28), none, .slice 2 (.t 26) (some (.t 27)) none⟩,
  ⟨(some 4), none, .mv (.t 28)⟩], false, []⟩
def Tryd.r_slices_Compact_api_BomEntry_api_BomEntry_7 : LReg := ⟨[⟨(some 5), none, .mv (.c (.int .i64 (1)))⟩], false, []⟩
def Tryd.r_slices_Compact_api_BomEntry_api_BomEntry_8 : LReg := ⟨[⟨(some 29), none, .mv (.t 5)⟩,
  ⟨(some 30), none, .mv (.t 4)⟩,
  ⟨(some 31), none, .len (.t 30)⟩,
  ⟨(some 32), none, .bin .lss (.t 29) (.t 31)⟩], false, []⟩
def Tryd.r_slices_Compact_api_BomEntry_api_BomEntry_9 : LReg := ⟨[⟨(some 35), none, .mv (.t 4)⟩,
  ⟨(some 36), none, .mv (.t 5)⟩,
  ⟨(some 37), none, .idx 2 (.t 35) (.t 36)⟩,
  ⟨(some 38), none, .load 2 true (.t 37)⟩,
  ⟨(some 39), none, .mv (.t 4)⟩,
  ⟨(some 40), none, .mv (.t 5)⟩,
  ⟨(some 41), none, .bin .sub (.t 40) (.c (.int .i64 (1)))⟩,
  ⟨(some 42), none, .idx 2 (.t 39) (.t 41)⟩,
  ⟨(some 43), none, .load 2 true (.t 42)⟩,
  ⟨(some 44), none, .eqs true [2, 0] (.t 38) (.t 43)⟩], true, [(2, 7), (3, 7), (2, 8), (3, 8)]⟩
def Tryd.r_slices_Compact_api_BomEntry_api_BomEntry_10 : LReg := ⟨[⟨(some 45), none, .mv (.t 0)⟩,
  ⟨(some 46), none, .mv (.t 3)⟩,
  ⟨(some 47), none, .mv (.t 4)⟩,
  ⟨(some 48), none, .mv (.t 5)⟩,
  ⟨(some 49), none, .idx 2 (.t 47) (.t 48)⟩,
  ⟨(some 50), none, .load 2 true (.t 49)⟩,
  ⟨(some 51), none, .idx 2 (.t 45) (.t 46)⟩,
  ⟨none, none, .store 2 (.t 51) (.t 50)⟩], false, []⟩
def Tryd.r_slices_Compact_api_BomEntry_api_BomEntry_11 : LReg := ⟨[⟨(some 52), none, .mv (.t 3)⟩,
  ⟨(some 53), none, .bin .add (.t 52) (.c (.int .i64 (1)))⟩,
  ⟨(some 3), none, .mv (.t 53)⟩], false, []⟩
def Tryd.r_slices_Compact_api_BomEntry_api_BomEntry_12 : LReg := ⟨[⟨(some 33), none, .mv (.t 5)⟩,
  ⟨(some 34), none, .bin .add (.t 33) (.c (.int .i64 (1)))⟩,
  ⟨(some 5), none, .mv (.t 34)⟩], false, []⟩
def Tryd.r_slices_Compact_api_BomEntry_api_BomEntry_13 : LReg := ⟨[⟨(some 54), none, .mv (.t 0)⟩,
  ⟨(some 55), none, .mv (.t 3)⟩,
  ⟨(some 56), none, .slice 2 (.t 54) (some (.t 55)) none⟩,
  ⟨none, none, .clear 2 [.str [], .int .i64 (0)] (.t 56)⟩], false, []⟩
def Tryd.r_slices_Compact_api_BomEntry_api_BomEntry_14 : LReg := ⟨[⟨(some 57), none, .mv (.t 0)⟩,
  ⟨(some 58), none, .mv (.t 3)⟩,
  ⟨(some 59), none, .slice 2 (.t 57) none (some (.t 58))⟩,
  ⟨(some 2), none, .mv (.t 59)⟩], false, []⟩
def Tryd.r_slices_Compact_api_BomEntry_api_BomEntry_15 : LReg := ⟨[⟨(some 14), none, .mv (.t 3)⟩,
  ⟨(some 15), none, .bin .add (.t 14) (.c (.int .i64 (1)))⟩,
  ⟨(some 3), none, .mv (.t 15)⟩], false, []⟩
def Tryd.r_slices_Compact_api_BomEntry_api_BomEntry_16 : LReg := ⟨[⟨(some 60), none, .mv (.t 0)⟩,
  ⟨(some 2), none, .mv (.t 60)⟩], false, []⟩
def Tryd.l_slices_Compact_api_BomEntry_api_BomEntry : LCode := (.seq (.reg Tryd.r_slices_Compact_api_BomEntry_api_BomEntry_0) (.seq (.seq (.reg Tryd.r_slices_Compact_api_BomEntry_api_BomEntry_1) (.cond (.t 8) (.seq (.reg Tryd.r_slices_Compact_api_BomEntry_api_BomEntry_2) .ret) .skip)) (.seq (.seq (.reg Tryd.r_slices_Compact_api_BomEntry_api_BomEntry_3) (.block 0 (.loop (.seq (.seq (.reg Tryd.r_slices_Compact_api_BomEntry_api_BomEntry_4) (.cond (.t 13) .skip (.exit 0))) (.seq (.block 1 (.seq (.reg Tryd.r_slices_Compact_api_BomEntry_api_BomEntry_5) (.cond (.t 25) (.seq (.reg Tryd.r_slices_Compact_api_BomEntry_api_BomEntry_6) (.seq (.seq (.reg Tryd.r_slices_Compact_api_BomEntry_api_BomEntry_7) (.block 2 (.loop (.seq (.seq (.reg Tryd.r_slices_Compact_api_BomEntry_api_BomEntry_8) (.cond (.t 32) .skip (.exit 2))) (.seq (.block 3 (.seq (.reg Tryd.r_slices_Compact_api_BomEntry_api_BomEntry_9) (.cond (.t 44) (.seq (.reg Tryd.r_slices_Compact_api_BomEntry_api_BomEntry_10) (.reg Tryd.r_slices_Compact_api_BomEntry_api_BomEntry_11)) .skip))) (.reg Tryd.r_slices_Compact_api_BomEntry_api_BomEntry_12)))))) (.seq (.reg Tryd.r_slices_Compact_api_BomEntry_api_BomEntry_13) (.seq (.reg Tryd.r_slices_Compact_api_BomEntry_api_BomEntry_14) .ret)))) .skip))) (.reg Tryd.r_slices_Compact_api_BomEntry_api_BomEntry_15)))))) (.seq (.reg Tryd.r_slices_Compact_api_BomEntry_api_BomEntry_16) .ret))))
theorem Tryd.c_slices_Compact_api_BomEntry_api_BomEntry : fnComp Tryd.prog 88 = some (61, Tryd.l_slices_Compact_api_BomEntry_api_BomEntry, [.t 2]) := by kernel_rfl
def Tryd.r_bom_Merge_0 : LReg := ⟨[⟨(some 4), none, .mv (.c (.nils))⟩,
  ⟨(some 5), none, .mv (.c (.bool false))⟩,
  ⟨(some 6), none, .alloc 25 2 [.int .i64 (0), .int .i64 (0)]⟩], false, []⟩
def Tryd.r_bom_Merge_1 : LReg := ⟨[⟨(some 11), none, .mv (.t 0)⟩,
  ⟨(some 12), none, .call 36 [(.t 11)]⟩,
  ⟨(some 7), none, .alloc 25 2 [.int .i64 (0), .int .i64 (0)]⟩,
  ⟨none, none, .store 2 (.t 7) (.t 12)⟩], false, []⟩
def Tryd.r_bom_Merge_2 : LReg := ⟨[⟨(some 13), none, .load 2 true (.t 7)⟩,
  ⟨(some 14), none, .build [.int .i64 (0), .int .i64 (0)] []⟩,
  ⟨(some 15), none, .eqs true [0, 0] (.t 13) (.t 14)⟩], false, []⟩
def Tryd.r_bom_Merge_3 : LReg := ⟨[⟨(some 16), none, .load 2 true (.t 7)⟩,
  ⟨(some 4), none, .mv (.c (.nils))⟩,
  ⟨(some 5), none, .mv (.c (.bool false))⟩,
  ⟨none, none, .store 2 (.t 6) (.t 16)⟩], true, []⟩
def Tryd.r_bom_Merge_4 : LReg := ⟨[⟨(some 17), none, .mv (.t 1)⟩,
  ⟨(some 18), none, .call 36 [(.t 17)]⟩,
  ⟨(some 8), none, .alloc 25 2 [.int .i64 (0), .int .i64 (0)]⟩,
  ⟨none, none, .store 2 (.t 8) (.t 18)⟩], false, []⟩
def Tryd.r_bom_Merge_5 : LReg := ⟨[⟨(some 19), none, .load 2 true (.t 8)⟩,
  ⟨(some 20), none, .build [.int .i64 (0), .int .i64 (0)] []⟩,
  ⟨(some 21), none, .eqs true [0, 0] (.t 19) (.t 20)⟩], false, []⟩
def Tryd.r_bom_Merge_6 : LReg := ⟨[⟨(some 22), none, .fieldAddr 0 (.t 8)⟩,
  ⟨(some 23), none, .load 1 false (.t 22)⟩,
  ⟨(some 24), none, .build [.int .i64 (0), .int .i64 (0)] [(0, 1, (.t 23)), (1, 1, (.c (.int .i64 (-2))))]⟩,
  ⟨(some 4), none, .mv (.c (.nils))⟩,
  ⟨(some 5), none, .mv (.c (.bool false))⟩,
  ⟨none, none, .store 2 (.t 6) (.t 24)⟩], true, []⟩
def Tryd.r_bom_Merge_7 : LReg := ⟨[⟨(some 25), none, .mv (.t 0)⟩,
  ⟨(some 26), none, .mv (.t 1)⟩,
  ⟨(some 27), none, .mkSlice 63 1 2 [.nils] [(0, (.t 25)), (1, (.t 26))]⟩,
  ⟨(some 28), none, .call 84 [(.t 27)]⟩,
  ⟨(some 9), none, .mv (.t 28)⟩], false, []⟩
def Tryd.r_bom_Merge_8 : LReg := ⟨[⟨(some 29), none, .mv (.t 9)⟩,
  ⟨(some 30), none, .call 85 [(.t 29), (.c (.fn 86 [] []))]⟩], false, []⟩
def Tryd.r_bom_Merge_9 : LReg := ⟨[⟨(some 31), none, .mv (.t 9)⟩,
  ⟨(some 32), none, .call 88 [(.t 31)]⟩,
  ⟨(some 9), none, .mv (.t 32)⟩], false, []⟩
def Tryd.r_bom_Merge_10 : LReg := ⟨[⟨(some 33), none, .mv (.t 9)⟩,
  ⟨(some 34), none, .len (.t 33)⟩,
  ⟨(some 35), none, .mv (.c (.int .i64 (0)))⟩], false, []⟩
def Tryd.r_bom_Merge_11 : LReg := ⟨[⟨(some 36), none, .bin .lss (.t 35) (.t 34)⟩], false, []⟩
def Tryd.r_bom_Merge_12 : LReg := ⟨[⟨(some 37), none, .mv (.t 35)⟩,
  ⟨(some 10), none, .mv (.t 37)⟩], false, []⟩
def Tryd.r_bom_Merge_13 : LReg := ⟨[⟨(some 38), none, .mv (.t 10)⟩,
  ⟨(some 39), none, .bin .gtr (.t 38) (.c (.int .i64 (0)))⟩,
  ⟨(some 40), none, .mv (.t 39)⟩,
  ⟨(some 41), (some (40, true)), .mv (.t 9)⟩,
  ⟨(some 42), (some (40, true)), .mv (.t 10)⟩,
  ⟨(some 43), (some (40, true)), .idx 2 (.t 41) (.t 42)⟩,
  ⟨(some 44), (some (40, true)), .fieldAddr 0 (.t 43)⟩,
  ⟨(some 45), (some (40, true)), .load 1 false (.t 44)⟩,
  ⟨(some 46), (some (40, true)), .mv (.t 9)⟩,
  ⟨(some 47), (some (40, true)), .mv (.t 10)⟩,
  ⟨(some 48), (some (40, true)), .bin .sub (.t 47) (.c (.int .i64 (1)))⟩,
  ⟨(some 49), (some (40, true)), .idx 2 (.t 46) (.t 48)⟩,
  ⟨(some 50), (some (40, true)), .fieldAddr 0 (.t 49)⟩,
  ⟨(some 51), (some (40, true)), .load 1 false (.t 50)⟩,
  ⟨(some 52), (some (40, true)), .bin .eql (.t 45) (.t 51)⟩,
  ⟨(some 53), none, .pick (.t 40) (.t 52) (.c (.bool false))⟩], true, [(5, 11), (6, 11), (7, 11), (5, 12), (6, 12), (7, 12), (5, 13), (6, 13), (7, 13)]⟩
def Tryd.r_bom_Merge_14 : LReg := ⟨[⟨(some 54), none, .build [.int .i64 (0), .int .i64 (0)] []⟩,
  ⟨(some 4), none, .mv (.c (.nils))⟩,
  ⟨(some 5), none, .mv (.c (.bool false))⟩,
  ⟨none, none, .store 2 (.t 6) (.t 54)⟩], false, []⟩
def Tryd.r_bom_Merge_15 : LReg := ⟨[⟨(some 55), none, .bin .add (.t 35) (.c (.int .i64 (1)))⟩,
  ⟨(some 35), none, .mv (.t 55)⟩], false, []⟩
def Tryd.r_bom_Merge_16 : LReg := ⟨[⟨(some 56), none, .mv (.t 9)⟩,
  ⟨(some 57), none, .len (.t 56)⟩,
  ⟨(some 58), none, .bin .gtr (.t 57) (.c (.int .i64 (24)))⟩], false, []⟩
def Tryd.r_bom_Merge_17 : LReg := ⟨[⟨(some 59), none, .build [.int .i64 (0), .int .i64 (0)] [(0, 1, (.c (.int .i64 (10)))), (1, 1, (.c (.int .i64 (-3))))]⟩,
  ⟨(some 4), none, .mv (.c (.nils))⟩,
  ⟨(some 5), none, .mv (.c (.bool false))⟩,
  ⟨none, none, .store 2 (.t 6) (.t 59)⟩], false, []⟩
def Tryd.r_bom_Merge_18 : LReg := ⟨[⟨(some 60), none, .mv (.t 9)⟩,
  ⟨(some 61), none, .build [.int .i64 (0), .int .i64 (0)] []⟩,
  ⟨(some 4), none, .mv (.t 60)⟩,
  ⟨(some 5), none, .mv (.c (.bool true))⟩,
  ⟨none, none, .store 2 (.t 6) (.t 61)⟩], false, []⟩
def Tryd.l_bom_Merge : LCode := (.seq (.reg Tryd.r_bom_Merge_0) (.seq (.seq (.reg Tryd.r_bom_Merge_1) (.seq (.reg Tryd.r_bom_Merge_2) (.cond (.t 15) (.seq (.reg Tryd.r_bom_Merge_3) .ret) .skip))) (.seq (.seq (.reg Tryd.r_bom_Merge_4) (.seq (.reg Tryd.r_bom_Merge_5) (.cond (.t 21) (.seq (.reg Tryd.r_bom_Merge_6) .ret) .skip))) (.seq (.reg Tryd.r_bom_Merge_7) (.seq (.reg Tryd.r_bom_Merge_8) (.seq (.reg Tryd.r_bom_Merge_9) (.seq (.seq (.reg Tryd.r_bom_Merge_10) (.block 0 (.loop (.seq (.reg Tryd.r_bom_Merge_11) (.seq (.cond (.t 36) .skip (.exit 0)) (.seq (.block 1 (.seq (.reg Tryd.r_bom_Merge_12) (.seq (.reg Tryd.r_bom_Merge_13) (.cond (.t 53) (.seq (.reg Tryd.r_bom_Merge_14) .ret) .skip)))) (.reg Tryd.r_bom_Merge_15))))))) (.seq (.seq (.reg Tryd.r_bom_Merge_16) (.cond (.t 58) (.seq (.reg Tryd.r_bom_Merge_17) .ret) .skip)) (.seq (.reg Tryd.r_bom_Merge_18) .ret)))))))))
theorem Tryd.c_bom_Merge : fnComp Tryd.prog 46 = some (62, Tryd.l_bom_Merge, [.t 4, .t 5, .cell 6 2 true]) := by kernel_rfl
def Tryd.r_law6_files_0 : LReg := ⟨[⟨(some 0), none, .alloc 46 1 [.nils]⟩], false, []⟩
def Tryd.r_law6_files_1 : LReg := ⟨[⟨(some 1), none, .mkSlice 9 1 2 [.str []] [(0, (.c (.str [120]))), (1, (.c (.str [121])))]⟩,
  ⟨(some 2), none, .build [.str [], .nils] [(0, 1, (.c (.str [97]))), (1, 1, (.t 1))]⟩,
  ⟨(some 3), none, .mkSlice 103 2 1 [.str [], .nils] [(0, (.t 2))]⟩,
  ⟨(some 4), none, .build [.nils] [(0, 1, (.t 3))]⟩,
  ⟨none, none, .store 1 (.t 0) (.t 4)⟩], false, []⟩
def Tryd.l_law6_files : LCode := (.seq (.reg Tryd.r_law6_files_0) (.seq (.reg Tryd.r_law6_files_1) .ret))
theorem Tryd.c_law6_files : fnComp Tryd.prog 51 = some (5, Tryd.l_law6_files, [.cell 0 1 true]) := by kernel_rfl
def Tryd.r_law6_bills_0 : LReg := ⟨[⟨(some 0), none, .mv (.c (.bool false))⟩], false, []⟩
def Tryd.r_law6_bills_1 : LReg := ⟨[⟨(some 12), none, .mkSlice 9 1 2 [.str []] [(0, (.c (.str [97]))), (1, (.c (.str [98])))]⟩,
  ⟨(some 13), none, .call 51 []⟩,
  ⟨(some 14), none, .call 42 [(.t 12), (.t 13)]⟩,
  ⟨(some 11), none, .mv (.t 14)⟩,
  ⟨(some 15), none, .extract 0 (.t 11)⟩,
  ⟨(some 16), none, .extract 1 (.t 11)⟩,
  ⟨(some 2), none, .alloc 25 2 [.int .i64 (0), .int .i64 (0)]⟩,
  ⟨(some 1), none, .mv (.t 15)⟩,
  ⟨none, none, .store 2 (.t 2) (.t 16)⟩], false, []⟩
def Tryd.r_law6_bills_2 : LReg := ⟨[⟨(some 18), none, .mv (.t 1)⟩,
  ⟨(some 19), none, .call 51 []⟩,
  ⟨(some 20), none, .call 38 [(.t 18), (.t 19)]⟩,
  ⟨(some 17), none, .mv (.t 20)⟩,
  ⟨(some 21), none, .extract 0 (.t 17)⟩,
  ⟨(some 22), none, .extract 1 (.t 17)⟩,
  ⟨(some 4), none, .alloc 25 2 [.int .i64 (0), .int .i64 (0)]⟩,
  ⟨(some 3), none, .mv (.t 21)⟩,
  ⟨none, none, .store 2 (.t 4) (.t 22)⟩], false, []⟩
def Tryd.r_law6_bills_3 : LReg := ⟨[⟨(some 24), none, .mv (.t 1)⟩,
  ⟨(some 25), none, .build [.nils] []⟩,
  ⟨(some 26), none, .call 38 [(.t 24), (.t 25)]⟩,
  ⟨(some 23), none, .mv (.t 26)⟩,
  ⟨(some 27), none, .extract 0 (.t 23)⟩,
  ⟨(some 28), none, .extract 1 (.t 23)⟩,
  ⟨(some 6), none, .alloc 25 2 [.int .i64 (0), .int .i64 (0)]⟩,
  ⟨(some 5), none, .mv (.t 27)⟩,
  ⟨none, none, .store 2 (.t 6) (.t 28)⟩], false, []⟩
def Tryd.r_law6_bills_4 : LReg := ⟨[⟨(some 30), none, .mv (.t 1)⟩,
  ⟨(some 31), none, .mv (.t 1)⟩,
  ⟨(some 32), none, .call 46 [(.t 30), (.t 31)]⟩,
  ⟨(some 29), none, .mv (.t 32)⟩,
  ⟨(some 33), none, .extract 0 (.t 29)⟩,
  ⟨(some 34), none, .extract 1 (.t 29)⟩,
  ⟨(some 35), none, .extract 2 (.t 29)⟩,
  ⟨(some 9), none, .alloc 25 2 [.int .i64 (0), .int .i64 (0)]⟩,
  ⟨(some 7), none, .mv (.t 33)⟩,
  ⟨(some 8), none, .mv (.t 34)⟩,
  ⟨none, none, .store 2 (.t 9) (.t 35)⟩], false, []⟩
def Tryd.r_law6_bills_5 : LReg := ⟨[⟨(some 36), none, .fieldAddr 0 (.t 2)⟩,
  ⟨(some 37), none, .load 1 false (.t 36)⟩,
  ⟨(some 38), none, .bin .eql (.t 37) (.c (.int .i64 (0)))⟩,
  ⟨(some 39), none, .mv (.t 38)⟩,
  ⟨(some 40), (some (39, true)), .fieldAddr 0 (.t 4)⟩,
  ⟨(some 41), (some (39, true)), .load 1 false (.t 40)⟩,
  ⟨(some 42), (some (39, true)), .bin .eql (.t 41) (.c (.int .i64 (0)))⟩,
  ⟨(some 43), none, .pick (.t 39) (.t 42) (.c (.bool false))⟩,
  ⟨(some 44), none, .mv (.t 43)⟩,
  ⟨(some 45), (some (44, true)), .fieldAddr 0 (.t 6)⟩,
  ⟨(some 46), (some (44, true)), .load 1 false (.t 45)⟩,
  ⟨(some 47), (some (44, true)), .bin .eql (.t 46) (.c (.int .i64 (0)))⟩,
  ⟨(some 48), none, .pick (.t 44) (.t 47) (.c (.bool false))⟩,
  ⟨(some 49), none, .mv (.t 48)⟩,
  ⟨(some 50), (some (49, true)), .fieldAddr 0 (.t 9)⟩,
  ⟨(some 51), (some (49, true)), .load 1 false (.t 50)⟩,
  ⟨(some 52), (some (49, true)), .bin .eql (.t 51) (.c (.int .i64 (0)))⟩,
  ⟨(some 53), none, .pick (.t 49) (.t 52) (.c (.bool false))⟩,
  ⟨(some 54), none, .mv (.t 53)⟩,
  ⟨(some 55), (some (54, true)), .mv (.t 8)⟩,
  ⟨(some 56), none, .pick (.t 54) (.t 55) (.c (.bool false))⟩,
  ⟨(some 10), none, .mv (.t 56)⟩], false, []⟩
def Tryd.r_law6_bills_6 : LReg := ⟨[⟨(some 57), none, .mv (.t 10)⟩,
  ⟨(some 58), none, .mv (.t 57)⟩,
  ⟨(some 59), (some (58, true)), .mv (.t 1)⟩,
  ⟨(some 60), (some (58, true)), .len (.t 59)⟩,
  ⟨(some 61), (some (58, true)), .bin .eql (.t 60) (.c (.int .i64 (2)))⟩,
  ⟨(some 62), none, .pick (.t 58) (.t 61) (.c (.bool false))⟩,
  ⟨(some 63), none, .mv (.t 62)⟩,
  ⟨(some 64), (some (63, true)), .mv (.t 1)⟩,
  ⟨(some 65), (some (63, true)), .idx 2 (.t 64) (.c (.int .i64 (0)))⟩,
  ⟨(some 66), (some (63, true)), .load 2 true (.t 65)⟩,
  ⟨(some 67), (some (63, true)), .mv (.t 1)⟩,
  ⟨(some 68), (some (63, true)), .idx 2 (.t 67) (.c (.int .i64 (1)))⟩,
  ⟨(some 69), (some (63, true)), .load 2 true (.t 68)⟩,
  ⟨(some 70), (some (63, true)), .eqs true [2, 0] (.t 66) (.t 69)⟩,
  ⟨(some 71), none, .pick (.t 63) (.t 70) (.c (.bool false))⟩,
  ⟨(some 72), none, .mv (.t 71)⟩,
  ⟨(some 73), (some (72, true)), .mv (.t 1)⟩,
  ⟨(some 74), (some (72, true)), .idx 2 (.t 73) (.c (.int .i64 (1)))⟩,
  ⟨(some 75), (some (72, true)), .fieldAddr 1 (.t 74)⟩,
  ⟨(some 76), (some (72, true)), .load 1 false (.t 75)⟩,
  ⟨(some 77), (some (72, true)), .bin .eql (.t 76) (.c (.int .i64 (-1)))⟩,
  ⟨(some 78), none, .pick (.t 72) (.t 77) (.c (.bool false))⟩,
  ⟨(some 79), none, .mv (.t 78)⟩,
  ⟨(some 80), (some (79, true)), .mv (.t 3)⟩,
  ⟨(some 81), (some (79, true)), .len (.t 80)⟩,
  ⟨(some 82), (some (79, true)), .bin .eql (.t 81) (.c (.int .i64 (0)))⟩,
  ⟨(some 83), none, .pick (.t 79) (.t 82) (.c (.bool false))⟩,
  ⟨(some 84), none, .mv (.t 83)⟩,
  ⟨(some 85), (some (84, true)), .mv (.t 5)⟩,
  ⟨(some 86), (some (84, true)), .mkSlice 3 1 1 [.int .i64 (0)] [(0, (.c (.int .i64 (0))))]⟩,
  ⟨(some 87), (some (84, true)), .call 39 [(.t 85), (.t 86)]⟩,
  ⟨(some 88), none, .pick (.t 84) (.t 87) (.c (.bool false))⟩,
  ⟨(some 89), none, .mv (.t 88)⟩,
  ⟨(some 90), (some (89, true)), .mv (.t 7)⟩,
  ⟨(some 91), (some (89, true)), .mv (.t 1)⟩,
  ⟨(some 92), (some (89, true)), .call 43 [(.t 90), (.t 91)]⟩,
  ⟨(some 93), none, .pick (.t 89) (.t 92) (.c (.bool false))⟩,
  ⟨(some 94), none, .mv (.t 93)⟩,
  ⟨(some 95), (some (94, true)), .build [.str [], .int .i64 (0)] [(0, 1, (.c (.str [97]))), (1, 1, (.c (.int .i64 (-2))))]⟩,
  ⟨(some 96), (some (94, true)), .mkSlice 117 2 1 [.str [], .int .i64 (0)] [(0, (.t 95))]⟩,
  ⟨(some 97), (some (94, true)), .call 36 [(.t 96)]⟩,
  ⟨(some 98), (some (94, true)), .call 19 [(.c (.int .i64 (3))), (.c (.int .i64 (0)))]⟩,
  ⟨(some 99), (some (94, true)), .eqs false [0, 0] (.t 97) (.t 98)⟩,
  ⟨(some 100), none, .pick (.t 94) (.t 99) (.c (.bool false))⟩,
  ⟨(some 0), none, .mv (.t 100)⟩], true, [(8, 11), (9, 11), (8, 12), (9, 12)]⟩
def Tryd.l_law6_bills : LCode := (.seq (.reg Tryd.r_law6_bills_0) (.seq (.reg Tryd.r_law6_bills_1) (.seq (.reg Tryd.r_law6_bills_2) (.seq (.reg Tryd.r_law6_bills_3) (.seq (.reg Tryd.r_law6_bills_4) (.seq (.reg Tryd.r_law6_bills_5) (.seq (.reg Tryd.r_law6_bills_6) .ret)))))))
theorem Tryd.c_law6_bills : fnComp Tryd.prog 35 = some (101, Tryd.l_law6_bills, [.t 0]) := by kernel_rfl
def Tryd.r_ref1_At_0 : LReg := ⟨[⟨(some 4), none, .alloc 25 2 [.int .i64 (0), .int .i64 (0)]⟩], false, []⟩
def Tryd.r_ref1_At_1 : LReg := ⟨[⟨(some 5), none, .mv (.t 0)⟩,
  ⟨(some 6), none, .mv (.t 1)⟩,
  ⟨(some 7), none, .build [.int .i64 (0), .int .i64 (0)] [(0, 1, (.t 5)), (1, 1, (.t 6))]⟩,
  ⟨none, none, .store 2 (.t 4) (.t 7)⟩], false, []⟩
def Tryd.l_ref1_At : LCode := (.seq (.reg Tryd.r_ref1_At_0) (.seq (.reg Tryd.r_ref1_At_1) .ret))
theorem Tryd.c_ref1_At : fnComp Tryd.prog 93 = some (8, Tryd.l_ref1_At, [.cell 4 2 true]) := by kernel_rfl
def Tryd.r_ref1_LinesFault_0 : LReg := ⟨[⟨(some 2), none, .alloc 25 2 [.int .i64 (0), .int .i64 (0)]⟩], false, []⟩
def Tryd.r_ref1_LinesFault_1 : LReg := ⟨[⟨(some 5), none, .mv (.t 0)⟩,
  ⟨(some 6), none, .len (.t 5)⟩,
  ⟨(some 7), none, .bin .gtr (.t 6) (.c (.int .i64 (120)))⟩], false, []⟩
def Tryd.r_ref1_LinesFault_2 : LReg := ⟨[⟨(some 8), none, .call 93 [(.c (.int .i64 (2))), (.c (.int .i64 (-1)))]⟩,
  ⟨none, none, .store 2 (.t 2) (.t 8)⟩], false, []⟩
def Tryd.r_ref1_LinesFault_3 : LReg := ⟨[⟨(some 3), none, .mv (.c (.int .i64 (0)))⟩], false, []⟩
def Tryd.r_ref1_LinesFault_4 : LReg := ⟨[⟨(some 9), none, .mv (.t 3)⟩,
  ⟨(some 10), none, .mv (.t 0)⟩,
  ⟨(some 11), none, .len (.t 10)⟩,
  ⟨(some 12), none, .bin .lss (.t 9) (.t 11)⟩], false, []⟩
def Tryd.r_ref1_LinesFault_5 : LReg := ⟨[⟨(some 15), none, .mv (.t 0)⟩,
  ⟨(some 16), none, .mv (.t 3)⟩,
  ⟨(some 17), none, .idx 1 (.t 15) (.t 16)⟩,
  ⟨(some 18), none, .load 1 false (.t 17)⟩,
  ⟨(some 19), none, .slen (.t 18)⟩,
  ⟨(some 20), none, .bin .gtr (.t 19) (.c (.int .i64 (80)))⟩], false, []⟩
def Tryd.r_ref1_LinesFault_6 : LReg := ⟨[⟨(some 21), none, .mv (.t 3)⟩,
  ⟨(some 22), none, .call 93 [(.c (.int .i64 (2))), (.t 21)]⟩,
  ⟨none, none, .store 2 (.t 2) (.t 22)⟩], false, []⟩
def Tryd.r_ref1_LinesFault_7 : LReg := ⟨[⟨(some 4), none, .mv (.c (.int .i64 (0)))⟩], false, []⟩
def Tryd.r_ref1_LinesFault_8 : LReg := ⟨[⟨(some 23), none, .mv (.t 4)⟩,
  ⟨(some 24), none, .mv (.t 0)⟩,
  ⟨(some 25), none, .mv (.t 3)⟩,
  ⟨(some 26), none, .idx 1 (.t 24) (.t 25)⟩,
  ⟨(some 27), none, .load 1 false (.t 26)⟩,
  ⟨(some 28), none, .slen (.t 27)⟩,
  ⟨(some 29), none, .bin .lss (.t 23) (.t 28)⟩], false, []⟩
def Tryd.r_ref1_LinesFault_9 : LReg := ⟨[⟨(some 32), none, .mv (.t 0)⟩,
  ⟨(some 33), none, .mv (.t 3)⟩,
  ⟨(some 34), none, .idx 1 (.t 32) (.t 33)⟩,
  ⟨(some 35), none, .load 1 false (.t 34)⟩,
  ⟨(some 36), none, .mv (.t 4)⟩,
  ⟨(some 37), none, .sidx (.t 35) (.t 36)⟩,
  ⟨(some 38), none, .bin .eql (.t 37) (.c (.int .u8 (10)))⟩], false, []⟩
def Tryd.r_ref1_LinesFault_10 : LReg := ⟨[⟨(some 39), none, .mv (.t 3)⟩,
  ⟨(some 40), none, .call 93 [(.c (.int .i64 (5))), (.t 39)]⟩,
  ⟨none, none, .store 2 (.t 2) (.t 40)⟩], false, []⟩
def Tryd.r_ref1_LinesFault_11 : LReg := ⟨[⟨(some 30), none, .mv (.t 4)⟩,
  ⟨(some 31), none, .bin .add (.t 30) (.c (.int .i64 (1)))⟩,
  ⟨(some 4), none, .mv (.t 31)⟩], false, []⟩
def Tryd.r_ref1_LinesFault_12 : LReg := ⟨[⟨(some 13), none, .mv (.t 3)⟩,
  ⟨(some 14), none, .bin .add (.t 13) (.c (.int .i64 (1)))⟩,
  ⟨(some 3), none, .mv (.t 14)⟩], false, []⟩
def Tryd.r_ref1_LinesFault_13 : LReg := ⟨[⟨(some 41), none, .build [.int .i64 (0), .int .i64 (0)] []⟩,
  ⟨none, none, .store 2 (.t 2) (.t 41)⟩], false, []⟩
def Tryd.l_ref1_LinesFault : LCode := (.seq (.reg Tryd.r_ref1_LinesFault_0) (.seq (.seq (.reg Tryd.r_ref1_LinesFault_1) (.cond (.t 7) (.seq (.reg Tryd.r_ref1_LinesFault_2) .ret) .skip)) (.seq (.seq (.reg Tryd.r_ref1_LinesFault_3) (.block 0 (.loop (.seq (.seq (.reg Tryd.r_ref1_LinesFault_4) (.cond (.t 12) .skip (.exit 0))) (.seq (.block 1 (.seq (.seq (.reg Tryd.r_ref1_LinesFault_5) (.cond (.t 20) (.seq (.reg Tryd.r_ref1_LinesFault_6) .ret) .skip)) (.seq (.reg Tryd.r_ref1_LinesFault_7) (.block 2 (.loop (.seq (.seq (.reg Tryd.r_ref1_LinesFault_8) (.cond (.t 29) .skip (.exit 2))) (.seq (.block 3 (.seq (.reg Tryd.r_ref1_LinesFault_9) (.cond (.t 38) (.seq (.reg Tryd.r_ref1_LinesFault_10) .ret) .skip))) (.reg Tryd.r_ref1_LinesFault_11)))))))) (.reg Tryd.r_ref1_LinesFault_12)))))) (.seq (.reg Tryd.r_ref1_LinesFault_13) .ret))))
theorem Tryd.c_ref1_LinesFault : fnComp Tryd.prog 57 = some (42, Tryd.l_ref1_LinesFault, [.cell 2 2 true]) := by kernel_rfl
def Tryd.r_ref1_LinesCode_0 : LReg := ⟨[⟨(some 2), none, .mv (.c (.int .i64 (0)))⟩], false, []⟩
def Tryd.r_ref1_LinesCode_1 : LReg := ⟨[⟨(some 3), none, .mv (.t 0)⟩,
  ⟨(some 4), none, .call 57 [(.t 3)]⟩,
  ⟨(some 5), none, .field 0 1 false (.t 4)⟩,
  ⟨(some 2), none, .mv (.t 5)⟩], false, []⟩
def Tryd.l_ref1_LinesCode : LCode := (.seq (.reg Tryd.r_ref1_LinesCode_0) (.seq (.reg Tryd.r_ref1_LinesCode_1) .ret))
theorem Tryd.c_ref1_LinesCode : fnComp Tryd.prog 23 = some (6, Tryd.l_ref1_LinesCode, [.t 2]) := by kernel_rfl
def Tryd.r_ref2_Related_0 : LReg := ⟨[⟨(some 4), none, .mv (.c (.bool false))⟩], false, []⟩
def Tryd.r_ref2_Related_1 : LReg := ⟨[⟨(some 5), none, .mv (.t 0)⟩,
  ⟨(some 6), none, .slen (.t 5)⟩,
  ⟨(some 7), none, .mv (.t 1)⟩,
  ⟨(some 8), none, .slen (.t 7)⟩,
  ⟨(some 9), none, .bin .gtr (.t 6) (.t 8)⟩], false, []⟩
def Tryd.r_ref2_Related_2 : LReg := ⟨[⟨(some 10), none, .mv (.t 1)⟩,
  ⟨(some 11), none, .mv (.t 0)⟩,
  ⟨(some 12), none, .call 111 [(.t 10), (.t 11)]⟩,
  ⟨(some 4), none, .mv (.t 12)⟩], false, []⟩
def Tryd.r_ref2_Related_3 : LReg := ⟨[⟨(some 13), none, .mv (.t 1)⟩,
  ⟨(some 14), none, .mv (.t 0)⟩,
  ⟨(some 15), none, .slen (.t 14)⟩,
  ⟨(some 16), none, .sslice (.t 13) none (some (.t 15))⟩,
  ⟨(some 17), none, .mv (.t 0)⟩,
  ⟨(some 18), none, .bin .eql (.t 16) (.t 17)⟩,
  ⟨(some 19), none, .mv (.t 18)⟩,
  ⟨(some 20), (some (19, true)), .mv (.t 0)⟩,
  ⟨(some 21), (some (19, true)), .slen (.t 20)⟩,
  ⟨(some 22), (some (19, true)), .mv (.t 1)⟩,
  ⟨(some 23), (some (19, true)), .slen (.t 22)⟩,
  ⟨(some 24), (some (19, true)), .bin .eql (.t 21) (.t 23)⟩,
  ⟨(some 25), (some (19, true)), .mv (.t 24)⟩,
  ⟨(some 26), (some (25, false)), .mv (.t 1)⟩,
  ⟨(some 27), (some (25, false)), .mv (.t 0)⟩,
  ⟨(some 28), (some (25, false)), .slen (.t 27)⟩,
  ⟨(some 29), (some (25, false)), .sidx (.t 26) (.t 28)⟩,
  ⟨(some 30), (some (25, false)), .bin .eql (.t 29) (.c (.int .u8 (47)))⟩,
  ⟨(some 31), (some (19, true)), .pick (.t 25) (.c (.bool true)) (.t 30)⟩,
  ⟨(some 32), none, .pick (.t 19) (.t 31) (.c (.bool false))⟩,
  ⟨(some 4), none, .mv (.t 32)⟩], false, []⟩
def Tryd.l_ref2_Related : LCode := (.seq (.reg Tryd.r_ref2_Related_0) (.seq (.seq (.reg Tryd.r_ref2_Related_1) (.cond (.t 9) (.seq (.reg Tryd.r_ref2_Related_2) .ret) .skip)) (.seq (.reg Tryd.r_ref2_Related_3) .ret)))
theorem Tryd.c_ref2_Related : fnComp Tryd.prog 111 = some (33, Tryd.l_ref2_Related, [.t 4]) := by kernel_rfl
def Tryd.r_ref2_TreeFault_0 : LReg := ⟨[⟨(some 1), none, .box 46 1 (.t 0)⟩,
  ⟨(some 2), none, .alloc 25 2 [.int .i64 (0), .int .i64 (0)]⟩], false, []⟩
def Tryd.r_ref2_TreeFault_1 : LReg := ⟨[⟨(some 7), none, .fieldAddr 0 (.t 1)⟩,
  ⟨(some 8), none, .load 1 false (.t 7)⟩,
  ⟨(some 9), none, .len (.t 8)⟩,
  ⟨(some 10), none, .bin .gtr (.t 9) (.c (.int .i64 (24)))⟩], false, []⟩
def Tryd.r_ref2_TreeFault_2 : LReg := ⟨[⟨(some 11), none, .call 93 [(.c (.int .i64 (2))), (.c (.int .i64 (-1)))]⟩,
  ⟨none, none, .store 2 (.t 2) (.t 11)⟩], false, []⟩
def Tryd.r_ref2_TreeFault_3 : LReg := ⟨[⟨(some 3), none, .mv (.c (.int .i64 (0)))⟩], false, []⟩
def Tryd.r_ref2_TreeFault_4 : LReg := ⟨[⟨(some 12), none, .mv (.t 3)⟩,
  ⟨(some 13), none, .fieldAddr 0 (.t 1)⟩,
  ⟨(some 14), none, .load 1 false (.t 13)⟩,
  ⟨(some 15), none, .len (.t 14)⟩,
  ⟨(some 16), none, .bin .lss (.t 12) (.t 15)⟩], false, []⟩
def Tryd.r_ref2_TreeFault_5 : LReg := ⟨[⟨(some 19), none, .fieldAddr 0 (.t 1)⟩,
  ⟨(some 20), none, .load 1 false (.t 19)⟩,
  ⟨(some 21), none, .mv (.t 3)⟩,
  ⟨(some 22), none, .idx 2 (.t 20) (.t 21)⟩,
  ⟨(some 23), none, .load 2 true (.t 22)⟩,
  ⟨(some 4), none, .alloc 103 2 [.str [], .nils]⟩,
  ⟨none, none, .store 2 (.t 4) (.t 23)⟩], false, []⟩
def Tryd.r_ref2_TreeFault_6 : LReg := ⟨[⟨(some 24), none, .fieldAddr 0 (.t 4)⟩,
  ⟨(some 25), none, .load 1 false (.t 24)⟩,
  ⟨(some 26), none, .call 82 [(.t 25)]⟩,
  ⟨(some 27), none, .un .not (.t 26)⟩], false, []⟩
def Tryd.r_ref2_TreeFault_7 : LReg := ⟨[⟨(some 28), none, .mv (.t 3)⟩,
  ⟨(some 29), none, .call 93 [(.c (.int .i64 (12))), (.t 28)]⟩,
  ⟨none, none, .store 2 (.t 2) (.t 29)⟩], false, []⟩
def Tryd.r_ref2_TreeFault_8 : LReg := ⟨[⟨(some 30), none, .mv (.t 3)⟩,
  ⟨(some 31), none, .bin .gtr (.t 30) (.c (.int .i64 (0)))⟩,
  ⟨(some 32), none, .mv (.t 31)⟩,
  ⟨(some 33), (some (32, true)), .fieldAddr 0 (.t 4)⟩,
  ⟨(some 34), (some (32, true)), .load 1 false (.t 33)⟩,
  ⟨(some 35), (some (32, true)), .fieldAddr 0 (.t 1)⟩,
  ⟨(some 36), (some (32, true)), .load 1 false (.t 35)⟩,
  ⟨(some 37), (some (32, true)), .mv (.t 3)⟩,
  ⟨(some 38), (some (32, true)), .bin .sub (.t 37) (.c (.int .i64 (1)))⟩,
  ⟨(some 39), (some (32, true)), .idx 2 (.t 36) (.t 38)⟩,
  ⟨(some 40), (some (32, true)), .fieldAddr 0 (.t 39)⟩,
  ⟨(some 41), (some (32, true)), .load 1 false (.t 40)⟩,
  ⟨(some 42), (some (32, true)), .bin .leq (.t 34) (.t 41)⟩,
  ⟨(some 43), none, .pick (.t 32) (.t 42) (.c (.bool false))⟩], true, [(3, 5), (4, 5), (3, 6), (4, 6), (3, 9), (4, 9), (3, 10), (4, 10), (3, 11), (4, 11)]⟩
def Tryd.r_ref2_TreeFault_9 : LReg := ⟨[⟨(some 44), none, .mv (.t 3)⟩,
  ⟨(some 45), none, .call 93 [(.c (.int .i64 (5))), (.t 44)]⟩,
  ⟨none, none, .store 2 (.t 2) (.t 45)⟩], false, []⟩
def Tryd.r_ref2_TreeFault_10 : LReg := ⟨[⟨(some 5), none, .mv (.c (.int .i64 (0)))⟩], false, []⟩
def Tryd.r_ref2_TreeFault_11 : LReg := ⟨[⟨(some 46), none, .mv (.t 5)⟩,
  ⟨(some 47), none, .mv (.t 3)⟩,
  ⟨(some 48), none, .bin .lss (.t 46) (.t 47)⟩], false, []⟩
def Tryd.r_ref2_TreeFault_12 : LReg := ⟨[⟨(some 51), none, .fieldAddr 0 (.t 1)⟩,
  ⟨(some 52), none, .load 1 false (.t 51)⟩,
  ⟨(some 53), none, .mv (.t 5)⟩,
  ⟨(some 54), none, .idx 2 (.t 52) (.t 53)⟩,
  ⟨(some 55), none, .fieldAddr 0 (.t 54)⟩,
  ⟨(some 56), none, .load 1 false (.t 55)⟩,
  ⟨(some 57), none, .fieldAddr 0 (.t 4)⟩,
  ⟨(some 58), none, .load 1 false (.t 57)⟩,
  ⟨(some 59), none, .call 111 [(.t 56), (.t 58)]⟩], true, [(0, 6), (1, 6), (3, 6), (4, 6), (5, 6), (0, 7), (1, 7), (3, 7), (4, 7), (5, 7)]⟩
def Tryd.r_ref2_TreeFault_13 : LReg := ⟨[⟨(some 60), none, .mv (.t 3)⟩,
  ⟨(some 61), none, .call 93 [(.c (.int .i64 (7))), (.t 60)]⟩,
  ⟨none, none, .store 2 (.t 2) (.t 61)⟩], false, []⟩
def Tryd.r_ref2_TreeFault_14 : LReg := ⟨[⟨(some 49), none, .mv (.t 5)⟩,
  ⟨(some 50), none, .bin .add (.t 49) (.c (.int .i64 (1)))⟩,
  ⟨(some 5), none, .mv (.t 50)⟩], false, []⟩
def Tryd.r_ref2_TreeFault_15 : LReg := ⟨[⟨(some 62), none, .fieldAddr 1 (.t 4)⟩,
  ⟨(some 63), none, .load 1 false (.t 62)⟩,
  ⟨(some 64), none, .call 23 [(.t 63)]⟩,
  ⟨(some 6), none, .mv (.t 64)⟩], false, []⟩
def Tryd.r_ref2_TreeFault_16 : LReg := ⟨[⟨(some 65), none, .mv (.t 6)⟩,
  ⟨(some 66), none, .bin .neq (.t 65) (.c (.int .i64 (0)))⟩], false, []⟩
def Tryd.r_ref2_TreeFault_17 : LReg := ⟨[⟨(some 67), none, .mv (.t 6)⟩,
  ⟨(some 68), none, .mv (.t 3)⟩,
  ⟨(some 69), none, .call 93 [(.t 67), (.t 68)]⟩,
  ⟨none, none, .store 2 (.t 2) (.t 69)⟩], false, []⟩
def Tryd.r_ref2_TreeFault_18 : LReg := ⟨[⟨(some 17), none, .mv (.t 3)⟩,
  ⟨(some 18), none, .bin .add (.t 17) (.c (.int .i64 (1)))⟩,
  ⟨(some 3), none, .mv (.t 18)⟩], false, []⟩
def Tryd.r_ref2_TreeFault_19 : LReg := ⟨[⟨(some 70), none, .build [.int .i64 (0), .int .i64 (0)] []⟩,
  ⟨none, none, .store 2 (.t 2) (.t 70)⟩], false, []⟩
def Tryd.l_ref2_TreeFault : LCode := (.seq (.reg Tryd.r_ref2_TreeFault_0) (.seq (.seq (.reg Tryd.r_ref2_TreeFault_1) (.cond (.t 10) (.seq (.reg Tryd.r_ref2_TreeFault_2) .ret) .skip)) (.seq (.seq (.reg Tryd.r_ref2_TreeFault_3) (.block 0 (.loop (.seq (.seq (.reg Tryd.r_ref2_TreeFault_4) (.cond (.t 16) .skip (.exit 0))) (.seq (.block 1 (.seq (.reg Tryd.r_ref2_TreeFault_5) (.seq (.seq (.reg Tryd.r_ref2_TreeFault_6) (.cond (.t 27) (.seq (.reg Tryd.r_ref2_TreeFault_7) .ret) .skip)) (.seq (.seq (.reg Tryd.r_ref2_TreeFault_8) (.cond (.t 43) (.seq (.reg Tryd.r_ref2_TreeFault_9) .ret) .skip)) (.seq (.seq (.reg Tryd.r_ref2_TreeFault_10) (.block 2 (.loop (.seq (.seq (.reg Tryd.r_ref2_TreeFault_11) (.cond (.t 48) .skip (.exit 2))) (.seq (.block 3 (.seq (.reg Tryd.r_ref2_TreeFault_12) (.cond (.t 59) (.seq (.reg Tryd.r_ref2_TreeFault_13) .ret) .skip))) (.reg Tryd.r_ref2_TreeFault_14)))))) (.seq (.reg Tryd.r_ref2_TreeFault_15) (.seq (.reg Tryd.r_ref2_TreeFault_16) (.cond (.t 66) (.seq (.reg Tryd.r_ref2_TreeFault_17) .ret) .skip)))))))) (.reg Tryd.r_ref2_TreeFault_18)))))) (.seq (.reg Tryd.r_ref2_TreeFault_19) .ret))))
theorem Tryd.c_ref2_TreeFault : fnComp Tryd.prog 78 = some (71, Tryd.l_ref2_TreeFault, [.cell 2 2 true]) := by kernel_rfl
def Tryd.r_ref6_TreeAt_0 : LReg := ⟨[⟨(some 2), none, .box 46 1 (.t 0)⟩,
  ⟨(some 4), none, .alloc 25 2 [.int .i64 (0), .int .i64 (0)]⟩], false, []⟩
def Tryd.r_ref6_TreeAt_1 : LReg := ⟨[⟨(some 6), none, .load 1 true (.t 2)⟩,
  ⟨(some 7), none, .call 78 [(.t 6)]⟩,
  ⟨(some 5), none, .alloc 25 2 [.int .i64 (0), .int .i64 (0)]⟩,
  ⟨none, none, .store 2 (.t 5) (.t 7)⟩], false, []⟩
def Tryd.r_ref6_TreeAt_2 : LReg := ⟨[⟨(some 8), none, .fieldAddr 0 (.t 5)⟩,
  ⟨(some 9), none, .load 1 false (.t 8)⟩,
  ⟨(some 10), none, .bin .neq (.t 9) (.c (.int .i64 (0)))⟩], false, []⟩
def Tryd.r_ref6_TreeAt_3 : LReg := ⟨[⟨(some 11), none, .mv (.t 1)⟩,
  ⟨(some 12), none, .fieldAddr 1 (.t 5)⟩,
  ⟨none, none, .store 1 (.t 12) (.t 11)⟩], false, []⟩
def Tryd.r_ref6_TreeAt_4 : LReg := ⟨[⟨(some 13), none, .load 2 true (.t 5)⟩,
  ⟨none, none, .store 2 (.t 4) (.t 13)⟩], false, []⟩
def Tryd.l_ref6_TreeAt : LCode := (.seq (.reg Tryd.r_ref6_TreeAt_0) (.seq (.reg Tryd.r_ref6_TreeAt_1) (.seq (.seq (.reg Tryd.r_ref6_TreeAt_2) (.cond (.t 10) (.reg Tryd.r_ref6_TreeAt_3) .skip)) (.seq (.reg Tryd.r_ref6_TreeAt_4) .ret))))
theorem Tryd.c_ref6_TreeAt : fnComp Tryd.prog 37 = some (14, Tryd.l_ref6_TreeAt, [.cell 4 2 true]) := by kernel_rfl
def Tryd.r_ref1_times_0 : LReg := ⟨[⟨(some 4), none, .mv (.c (.int .i64 (0)))⟩], false, []⟩
def Tryd.r_ref1_times_1 : LReg := ⟨[⟨(some 5), none, .mv (.c (.int .i64 (0)))⟩], false, []⟩
def Tryd.r_ref1_times_2 : LReg := ⟨[⟨(some 6), none, .mv (.t 1)⟩,
  ⟨(some 7), none, .bin .gtr (.t 6) (.c (.int .i64 (0)))⟩], false, []⟩
def Tryd.r_ref1_times_3 : LReg := ⟨[⟨(some 8), none, .mv (.t 1)⟩,
  ⟨(some 9), none, .bin .rem (.t 8) (.c (.int .i64 (2)))⟩,
  ⟨(some 10), none, .bin .eql (.t 9) (.c (.int .i64 (1)))⟩], false, []⟩
def Tryd.r_ref1_times_4 : LReg := ⟨[⟨(some 11), none, .mv (.t 5)⟩,
  ⟨(some 12), none, .mv (.t 0)⟩,
  ⟨(some 13), none, .bin .add (.t 11) (.t 12)⟩,
  ⟨(some 14), none, .bin .rem (.t 13) (.c (.int .i64 (2305843009213693951)))⟩,
  ⟨(some 5), none, .mv (.t 14)⟩], false, []⟩
def Tryd.r_ref1_times_5 : LReg := ⟨[⟨(some 15), none, .mv (.t 0)⟩,
  ⟨(some 16), none, .mv (.t 0)⟩,
  ⟨(some 17), none, .bin .add (.t 15) (.t 16)⟩,
  ⟨(some 18), none, .bin .rem (.t 17) (.c (.int .i64 (2305843009213693951)))⟩,
  ⟨(some 0), none, .mv (.t 18)⟩], false, []⟩
def Tryd.r_ref1_times_6 : LReg := ⟨[⟨(some 19), none, .mv (.t 1)⟩,
  ⟨(some 20), none, .bin .quo (.t 19) (.c (.int .i64 (2)))⟩,
  ⟨(some 1), none, .mv (.t 20)⟩], false, []⟩
def Tryd.r_ref1_times_7 : LReg := ⟨[⟨(some 21), none, .mv (.t 5)⟩,
  ⟨(some 4), none, .mv (.t 21)⟩], false, []⟩
def Tryd.l_ref1_times : LCode := (.seq (.reg Tryd.r_ref1_times_0) (.seq (.reg Tryd.r_ref1_times_1) (.seq (.block 0 (.loop (.seq (.seq (.reg Tryd.r_ref1_times_2) (.cond (.t 7) .skip (.exit 0))) (.block 1 (.seq (.seq (.reg Tryd.r_ref1_times_3) (.cond (.t 10) (.reg Tryd.r_ref1_times_4) .skip)) (.seq (.reg Tryd.r_ref1_times_5) (.reg Tryd.r_ref1_times_6))))))) (.seq (.reg Tryd.r_ref1_times_7) .ret))))
theorem Tryd.c_ref1_times : fnComp Tryd.prog 104 = some (22, Tryd.l_ref1_times, [.t 4]) := by kernel_rfl
def Tryd.r_ref1_DigestPair_0 : LReg := ⟨[⟨(some 4), none, .mv (.c (.int .i64 (0)))⟩], false, []⟩
def Tryd.r_ref1_DigestPair_1 : LReg := ⟨[⟨(some 5), none, .mv (.t 0)⟩,
  ⟨(some 6), none, .call 104 [(.t 5), (.c (.int .i64 (1000003)))]⟩,
  ⟨(some 7), none, .mv (.t 1)⟩,
  ⟨(some 8), none, .call 104 [(.t 7), (.c (.int .i64 (31)))]⟩,
  ⟨(some 9), none, .bin .add (.t 6) (.t 8)⟩,
  ⟨(some 10), none, .bin .add (.t 9) (.c (.int .i64 (7)))⟩,
  ⟨(some 11), none, .bin .rem (.t 10) (.c (.int .i64 (2305843009213693951)))⟩,
  ⟨(some 4), none, .mv (.t 11)⟩], false, []⟩
def Tryd.l_ref1_DigestPair : LCode := (.seq (.reg Tryd.r_ref1_DigestPair_0) (.seq (.reg Tryd.r_ref1_DigestPair_1) .ret))
theorem Tryd.c_ref1_DigestPair : fnComp Tryd.prog 69 = some (12, Tryd.l_ref1_DigestPair, [.t 4]) := by kernel_rfl
def Tryd.r_ref1_DigestOf_0 : LReg := ⟨[⟨(some 2), none, .mv (.c (.int .i64 (0)))⟩], false, []⟩
def Tryd.r_ref1_DigestOf_1 : LReg := ⟨[⟨(some 3), none, .mv (.c (.int .i64 (1)))⟩], false, []⟩
def Tryd.r_ref1_DigestOf_2 : LReg := ⟨[⟨(some 4), none, .mv (.c (.int .i64 (0)))⟩], false, []⟩
def Tryd.r_ref1_DigestOf_3 : LReg := ⟨[⟨(some 5), none, .mv (.t 4)⟩,
  ⟨(some 6), none, .mv (.t 0)⟩,
  ⟨(some 7), none, .len (.t 6)⟩,
  ⟨(some 8), none, .bin .lss (.t 5) (.t 7)⟩], false, []⟩
def Tryd.r_ref1_DigestOf_4 : LReg := ⟨[⟨(some 11), none, .mv (.t 3)⟩,
  ⟨(some 12), none, .call 104 [(.t 11), (.c (.int .i64 (257)))]⟩,
  ⟨(some 13), none, .mv (.t 0)⟩,
  ⟨(some 14), none, .mv (.t 4)⟩,
  ⟨(some 15), none, .idx 1 (.t 13) (.t 14)⟩,
  ⟨(some 16), none, .load 1 false (.t 15)⟩,
  ⟨(some 17), none, .conv .i64 (.t 16)⟩,
  ⟨(some 18), none, .bin .add (.t 12) (.t 17)⟩,
  ⟨(some 19), none, .bin .add (.t 18) (.c (.int .i64 (1)))⟩,
  ⟨(some 20), none, .bin .rem (.t 19) (.c (.int .i64 (2305843009213693951)))⟩,
  ⟨(some 3), none, .mv (.t 20)⟩], true, [(1, 4), (1, 5)]⟩
def Tryd.r_ref1_DigestOf_5 : LReg := ⟨[⟨(some 9), none, .mv (.t 4)⟩,
  ⟨(some 10), none, .bin .add (.t 9) (.c (.int .i64 (1)))⟩,
  ⟨(some 4), none, .mv (.t 10)⟩], false, []⟩
def Tryd.r_ref1_DigestOf_6 : LReg := ⟨[⟨(some 21), none, .mv (.t 3)⟩,
  ⟨(some 2), none, .mv (.t 21)⟩], false, []⟩
def Tryd.l_ref1_DigestOf : LCode := (.seq (.reg Tryd.r_ref1_DigestOf_0) (.seq (.reg Tryd.r_ref1_DigestOf_1) (.seq (.seq (.reg Tryd.r_ref1_DigestOf_2) (.block 0 (.loop (.seq (.seq (.reg Tryd.r_ref1_DigestOf_3) (.cond (.t 8) .skip (.exit 0))) (.seq (.block 1 (.reg Tryd.r_ref1_DigestOf_4)) (.reg Tryd.r_ref1_DigestOf_5)))))) (.seq (.reg Tryd.r_ref1_DigestOf_6) .ret))))
theorem Tryd.c_ref1_DigestOf : fnComp Tryd.prog 70 = some (22, Tryd.l_ref1_DigestOf, [.t 2]) := by kernel_rfl
def Tryd.r_ref1_DigestStrings_0 : LReg := ⟨[⟨(some 2), none, .mv (.c (.int .i64 (0)))⟩,
  ⟨(some 3), none, .alloc 25 2 [.int .i64 (0), .int .i64 (0)]⟩], false, []⟩
def Tryd.r_ref1_DigestStrings_1 : LReg := ⟨[⟨(some 6), none, .mv (.t 0)⟩,
  ⟨(some 7), none, .len (.t 6)⟩,
  ⟨(some 8), none, .bin .gtr (.t 7) (.c (.int .i64 (120)))⟩], false, []⟩
def Tryd.r_ref1_DigestStrings_2 : LReg := ⟨[⟨(some 9), none, .call 93 [(.c (.int .i64 (2))), (.c (.int .i64 (-1)))]⟩,
  ⟨(some 2), none, .mv (.c (.int .i64 (0)))⟩,
  ⟨none, none, .store 2 (.t 3) (.t 9)⟩], false, []⟩
def Tryd.r_ref1_DigestStrings_3 : LReg := ⟨[⟨(some 4), none, .mv (.c (.int .i64 (2)))⟩], false, []⟩
def Tryd.r_ref1_DigestStrings_4 : LReg := ⟨[⟨(some 5), none, .mv (.c (.int .i64 (0)))⟩], false, []⟩
def Tryd.r_ref1_DigestStrings_5 : LReg := ⟨[⟨(some 10), none, .mv (.t 5)⟩,
  ⟨(some 11), none, .mv (.t 0)⟩,
  ⟨(some 12), none, .len (.t 11)⟩,
  ⟨(some 13), none, .bin .lss (.t 10) (.t 12)⟩], false, []⟩
def Tryd.r_ref1_DigestStrings_6 : LReg := ⟨[⟨(some 16), none, .mv (.t 0)⟩,
  ⟨(some 17), none, .mv (.t 5)⟩,
  ⟨(some 18), none, .idx 1 (.t 16) (.t 17)⟩,
  ⟨(some 19), none, .load 1 false (.t 18)⟩,
  ⟨(some 20), none, .slen (.t 19)⟩,
  ⟨(some 21), none, .bin .gtr (.t 20) (.c (.int .i64 (4096)))⟩], false, []⟩
def Tryd.r_ref1_DigestStrings_7 : LReg := ⟨[⟨(some 22), none, .mv (.t 5)⟩,
  ⟨(some 23), none, .call 93 [(.c (.int .i64 (2))), (.t 22)]⟩,
  ⟨(some 2), none, .mv (.c (.int .i64 (0)))⟩,
  ⟨none, none, .store 2 (.t 3) (.t 23)⟩], false, []⟩
def Tryd.r_ref1_DigestStrings_8 : LReg := ⟨[⟨(some 24), none, .mv (.t 4)⟩,
  ⟨(some 25), none, .mv (.t 0)⟩,
  ⟨(some 26), none, .mv (.t 5)⟩,
  ⟨(some 27), none, .idx 1 (.t 25) (.t 26)⟩,
  ⟨(some 28), none, .load 1 false (.t 27)⟩,
  ⟨(some 29), none, .toBytes 5 (.t 28)⟩,
  ⟨(some 30), none, .call 70 [(.t 29)]⟩,
  ⟨(some 31), none, .call 69 [(.t 24), (.t 30)]⟩,
  ⟨(some 4), none, .mv (.t 31)⟩], false, []⟩
def Tryd.r_ref1_DigestStrings_9 : LReg := ⟨[⟨(some 14), none, .mv (.t 5)⟩,
  ⟨(some 15), none, .bin .add (.t 14) (.c (.int .i64 (1)))⟩,
  ⟨(some 5), none, .mv (.t 15)⟩], false, []⟩
def Tryd.r_ref1_DigestStrings_10 : LReg := ⟨[⟨(some 32), none, .mv (.t 4)⟩,
  ⟨(some 33), none, .build [.int .i64 (0), .int .i64 (0)] []⟩,
  ⟨(some 2), none, .mv (.t 32)⟩,
  ⟨none, none, .store 2 (.t 3) (.t 33)⟩], false, []⟩
def Tryd.l_ref1_DigestStrings : LCode := (.seq (.reg Tryd.r_ref1_DigestStrings_0) (.seq (.seq (.reg Tryd.r_ref1_DigestStrings_1) (.cond (.t 8) (.seq (.reg Tryd.r_ref1_DigestStrings_2) .ret) .skip)) (.seq (.reg Tryd.r_ref1_DigestStrings_3) (.seq (.seq (.reg Tryd.r_ref1_DigestStrings_4) (.block 0 (.loop (.seq (.seq (.reg Tryd.r_ref1_DigestStrings_5) (.cond (.t 13) .skip (.exit 0))) (.seq (.block 1 (.seq (.seq (.reg Tryd.r_ref1_DigestStrings_6) (.cond (.t 21) (.seq (.reg Tryd.r_ref1_DigestStrings_7) .ret) .skip)) (.reg Tryd.r_ref1_DigestStrings_8))) (.reg Tryd.r_ref1_DigestStrings_9)))))) (.seq (.reg Tryd.r_ref1_DigestStrings_10) .ret)))))
theorem Tryd.c_ref1_DigestStrings : fnComp Tryd.prog 103 = some (34, Tryd.l_ref1_DigestStrings, [.t 2, .cell 3 2 true]) := by kernel_rfl
def Tryd.r_ref6_stringsSum_0 : LReg := ⟨[⟨(some 2), none, .mv (.c (.int .i64 (0)))⟩], false, []⟩
def Tryd.r_ref6_stringsSum_1 : LReg := ⟨[⟨(some 6), none, .mv (.t 0)⟩,
  ⟨(some 7), none, .call 103 [(.t 6)]⟩,
  ⟨(some 5), none, .mv (.t 7)⟩,
  ⟨(some 8), none, .extract 0 (.t 5)⟩,
  ⟨(some 9), none, .extract 1 (.t 5)⟩,
  ⟨(some 4), none, .alloc 25 2 [.int .i64 (0), .int .i64 (0)]⟩,
  ⟨(some 3), none, .mv (.t 8)⟩,
  ⟨none, none, .store 2 (.t 4) (.t 9)⟩], false, []⟩
def Tryd.r_ref6_stringsSum_2 : LReg := ⟨[⟨(some 10), none, .mv (.t 3)⟩,
  ⟨(some 2), none, .mv (.t 10)⟩], false, []⟩
def Tryd.l_ref6_stringsSum : LCode := (.seq (.reg Tryd.r_ref6_stringsSum_0) (.seq (.reg Tryd.r_ref6_stringsSum_1) (.seq (.reg Tryd.r_ref6_stringsSum_2) .ret)))
theorem Tryd.c_ref6_stringsSum : fnComp Tryd.prog 67 = some (11, Tryd.l_ref6_stringsSum, [.t 2]) := by kernel_rfl
def Tryd.r_ref6_FileIn_0 : LReg := ⟨[⟨(some 2), none, .box 46 1 (.t 0)⟩,
  ⟨(some 4), none, .mv (.c (.nils))⟩,
  ⟨(some 5), none, .mv (.c (.bool false))⟩], false, []⟩
def Tryd.r_ref6_FileIn_1 : LReg := ⟨[⟨(some 6), none, .mv (.c (.int .i64 (0)))⟩], false, []⟩
def Tryd.r_ref6_FileIn_2 : LReg := ⟨[⟨(some 7), none, .mv (.t 6)⟩,
  ⟨(some 8), none, .fieldAddr 0 (.t 2)⟩,
  ⟨(some 9), none, .load 1 false (.t 8)⟩,
  ⟨(some 10), none, .len (.t 9)⟩,
  ⟨(some 11), none, .bin .lss (.t 7) (.t 10)⟩], false, []⟩
def Tryd.r_ref6_FileIn_3 : LReg := ⟨[⟨(some 14), none, .fieldAddr 0 (.t 2)⟩,
  ⟨(some 15), none, .load 1 false (.t 14)⟩,
  ⟨(some 16), none, .mv (.t 6)⟩,
  ⟨(some 17), none, .idx 2 (.t 15) (.t 16)⟩,
  ⟨(some 18), none, .fieldAddr 0 (.t 17)⟩,
  ⟨(some 19), none, .load 1 false (.t 18)⟩,
  ⟨(some 20), none, .mv (.t 1)⟩,
  ⟨(some 21), none, .bin .eql (.t 19) (.t 20)⟩], false, []⟩
def Tryd.r_ref6_FileIn_4 : LReg := ⟨[⟨(some 22), none, .fieldAddr 0 (.t 2)⟩,
  ⟨(some 23), none, .load 1 false (.t 22)⟩,
  ⟨(some 24), none, .mv (.t 6)⟩,
  ⟨(some 25), none, .idx 2 (.t 23) (.t 24)⟩,
  ⟨(some 26), none, .fieldAddr 1 (.t 25)⟩,
  ⟨(some 27), none, .load 1 false (.t 26)⟩,
  ⟨(some 4), none, .mv (.t 27)⟩,
  ⟨(some 5), none, .mv (.c (.bool true))⟩], false, []⟩
def Tryd.r_ref6_FileIn_5 : LReg := ⟨[⟨(some 12), none, .mv (.t 6)⟩,
  ⟨(some 13), none, .bin .add (.t 12) (.c (.int .i64 (1)))⟩,
  ⟨(some 6), none, .mv (.t 13)⟩], false, []⟩
def Tryd.r_ref6_FileIn_6 : LReg := ⟨[⟨(some 4), none, .mv (.c (.nils))⟩,
  ⟨(some 5), none, .mv (.c (.bool false))⟩], false, []⟩
def Tryd.l_ref6_FileIn : LCode := (.seq (.reg Tryd.r_ref6_FileIn_0) (.seq (.seq (.reg Tryd.r_ref6_FileIn_1) (.block 0 (.loop (.seq (.seq (.reg Tryd.r_ref6_FileIn_2) (.cond (.t 11) .skip (.exit 0))) (.seq (.block 1 (.seq (.reg Tryd.r_ref6_FileIn_3) (.cond (.t 21) (.seq (.reg Tryd.r_ref6_FileIn_4) .ret) .skip))) (.reg Tryd.r_ref6_FileIn_5)))))) (.seq (.reg Tryd.r_ref6_FileIn_6) .ret)))
theorem Tryd.c_ref6_FileIn : fnComp Tryd.prog 68 = some (28, Tryd.l_ref6_FileIn, [.t 4, .t 5]) := by kernel_rfl
def Tryd.r_ref6_FileSum_0 : LReg := ⟨[⟨(some 2), none, .box 46 1 (.t 0)⟩,
  ⟨(some 4), none, .mv (.c (.int .i64 (0)))⟩], false, []⟩
def Tryd.r_ref6_FileSum_1 : LReg := ⟨[⟨(some 8), none, .load 1 true (.t 2)⟩,
  ⟨(some 9), none, .mv (.t 1)⟩,
  ⟨(some 10), none, .call 68 [(.t 8), (.t 9)]⟩,
  ⟨(some 7), none, .mv (.t 10)⟩,
  ⟨(some 11), none, .extract 0 (.t 7)⟩,
  ⟨(some 12), none, .extract 1 (.t 7)⟩,
  ⟨(some 5), none, .mv (.t 11)⟩,
  ⟨(some 6), none, .mv (.t 12)⟩], false, []⟩
def Tryd.r_ref6_FileSum_2 : LReg := ⟨[⟨(some 13), none, .mv (.t 6)⟩,
  ⟨(some 14), none, .un .not (.t 13)⟩], false, []⟩
def Tryd.r_ref6_FileSum_3 : LReg := ⟨[⟨(some 4), none, .mv (.c (.int .i64 (-1)))⟩], false, []⟩
def Tryd.r_ref6_FileSum_4 : LReg := ⟨[⟨(some 15), none, .mv (.t 5)⟩,
  ⟨(some 16), none, .call 67 [(.t 15)]⟩,
  ⟨(some 4), none, .mv (.t 16)⟩], false, []⟩
def Tryd.l_ref6_FileSum : LCode := (.seq (.reg Tryd.r_ref6_FileSum_0) (.seq (.reg Tryd.r_ref6_FileSum_1) (.seq (.seq (.reg Tryd.r_ref6_FileSum_2) (.cond (.t 14) (.seq (.reg Tryd.r_ref6_FileSum_3) .ret) .skip)) (.seq (.reg Tryd.r_ref6_FileSum_4) .ret))))
theorem Tryd.c_ref6_FileSum : fnComp Tryd.prog 81 = some (17, Tryd.l_ref6_FileSum, [.t 4]) := by kernel_rfl
def Tryd.r_ref6_Wrong_0 : LReg := ⟨[⟨(some 3), none, .box 46 1 (.t 1)⟩,
  ⟨(some 4), none, .mv (.c (.nils))⟩], false, []⟩
def Tryd.r_ref6_Wrong_1 : LReg := ⟨[⟨(some 5), none, .mv (.c (.nils))⟩], false, []⟩
def Tryd.r_ref6_Wrong_2 : LReg := ⟨[⟨(some 6), none, .mv (.c (.int .i64 (0)))⟩], false, []⟩
def Tryd.r_ref6_Wrong_3 : LReg := ⟨[⟨(some 7), none, .mv (.t 6)⟩,
  ⟨(some 8), none, .mv (.t 0)⟩,
  ⟨(some 9), none, .len (.t 8)⟩,
  ⟨(some 10), none, .bin .lss (.t 7) (.t 9)⟩], false, []⟩
def Tryd.r_ref6_Wrong_4 : LReg := ⟨[⟨(some 13), none, .load 1 true (.t 3)⟩,
  ⟨(some 14), none, .mv (.t 0)⟩,
  ⟨(some 15), none, .mv (.t 6)⟩,
  ⟨(some 16), none, .idx 2 (.t 14) (.t 15)⟩,
  ⟨(some 17), none, .fieldAddr 0 (.t 16)⟩,
  ⟨(some 18), none, .load 1 false (.t 17)⟩,
  ⟨(some 19), none, .call 81 [(.t 13), (.t 18)]⟩,
  ⟨(some 20), none, .mv (.t 0)⟩,
  ⟨(some 21), none, .mv (.t 6)⟩,
  ⟨(some 22), none, .idx 2 (.t 20) (.t 21)⟩,
  ⟨(some 23), none, .fieldAddr 1 (.t 22)⟩,
  ⟨(some 24), none, .load 1 false (.t 23)⟩,
  ⟨(some 25), none, .bin .neq (.t 19) (.t 24)⟩], true, [(0, 3), (0, 4), (0, 5), (0, 9), (3, 9), (4, 9), (5, 9), (6, 9), (0, 10), (3, 10), (4, 10), (5, 10), (6, 10), (0, 11), (3, 11), (4, 11), (5, 11), (6, 11)]⟩
def Tryd.r_ref6_Wrong_5 : LReg := ⟨[⟨(some 26), none, .mv (.t 5)⟩,
  ⟨(some 27), none, .mv (.t 6)⟩,
  ⟨(some 28), none, .mkSlice 3 1 1 [.int .i64 (0)] [(0, (.t 27))]⟩,
  ⟨(some 29), none, .append 3 1 8 (.t 26) (.t 28)⟩,
  ⟨(some 5), none, .mv (.t 29)⟩], false, []⟩
def Tryd.r_ref6_Wrong_6 : LReg := ⟨[⟨(some 11), none, .mv (.t 6)⟩,
  ⟨(some 12), none, .bin .add (.t 11) (.c (.int .i64 (1)))⟩,
  ⟨(some 6), none, .mv (.t 12)⟩], false, []⟩
def Tryd.r_ref6_Wrong_7 : LReg := ⟨[⟨(some 30), none, .mv (.t 5)⟩,
  ⟨(some 4), none, .mv (.t 30)⟩], false, []⟩
def Tryd.l_ref6_Wrong : LCode := (.seq (.reg Tryd.r_ref6_Wrong_0) (.seq (.reg Tryd.r_ref6_Wrong_1) (.seq (.seq (.reg Tryd.r_ref6_Wrong_2) (.block 0 (.loop (.seq (.seq (.reg Tryd.r_ref6_Wrong_3) (.cond (.t 10) .skip (.exit 0))) (.seq (.block 1 (.seq (.reg Tryd.r_ref6_Wrong_4) (.cond (.t 25) (.reg Tryd.r_ref6_Wrong_5) .skip))) (.reg Tryd.r_ref6_Wrong_6)))))) (.seq (.reg Tryd.r_ref6_Wrong_7) .ret))))
theorem Tryd.c_ref6_Wrong : fnComp Tryd.prog 40 = some (31, Tryd.l_ref6_Wrong, [.t 4]) := by kernel_rfl
def Tryd.r_law6_BomMatchesSpec_0 : LReg := ⟨[⟨(some 3), none, .box 46 1 (.t 1)⟩,
  ⟨(some 4), none, .mv (.c (.bool false))⟩], false, []⟩
def Tryd.r_law6_BomMatchesSpec_1 : LReg := ⟨[⟨(some 8), none, .mv (.t 0)⟩,
  ⟨(some 9), none, .call 34 [(.t 8)]⟩,
  ⟨(some 5), none, .alloc 25 2 [.int .i64 (0), .int .i64 (0)]⟩,
  ⟨none, none, .store 2 (.t 5) (.t 9)⟩], false, []⟩
def Tryd.r_law6_BomMatchesSpec_2 : LReg := ⟨[⟨(some 10), none, .call 35 []⟩,
  ⟨(some 11), none, .un .not (.t 10)⟩,
  ⟨(some 12), none, .mv (.t 11)⟩,
  ⟨(some 13), (some (12, false)), .mv (.t 0)⟩,
  ⟨(some 14), (some (12, false)), .call 36 [(.t 13)]⟩,
  ⟨(some 15), (some (12, false)), .load 2 true (.t 5)⟩,
  ⟨(some 16), (some (12, false)), .eqs true [0, 0] (.t 14) (.t 15)⟩,
  ⟨(some 17), none, .pick (.t 12) (.c (.bool true)) (.t 16)⟩], true, [(4, 5)]⟩
def Tryd.r_law6_BomMatchesSpec_3 : LReg := ⟨[⟨(some 4), none, .mv (.c (.bool false))⟩], false, []⟩
def Tryd.r_law6_BomMatchesSpec_4 : LReg := ⟨[⟨(some 18), none, .fieldAddr 0 (.t 5)⟩,
  ⟨(some 19), none, .load 1 false (.t 18)⟩,
  ⟨(some 20), none, .bin .eql (.t 19) (.c (.int .i64 (0)))⟩], false, []⟩
def Tryd.r_law6_BomMatchesSpec_5 : LReg := ⟨[⟨(some 21), none, .load 1 true (.t 3)⟩,
  ⟨(some 22), none, .call 37 [(.t 21), (.c (.int .i64 (-2)))]⟩,
  ⟨none, none, .store 2 (.t 5) (.t 22)⟩], false, []⟩
def Tryd.r_law6_BomMatchesSpec_6 : LReg := ⟨[⟨(some 24), none, .mv (.t 0)⟩,
  ⟨(some 25), none, .load 1 true (.t 3)⟩,
  ⟨(some 26), none, .call 38 [(.t 24), (.t 25)]⟩,
  ⟨(some 23), none, .mv (.t 26)⟩,
  ⟨(some 27), none, .extract 0 (.t 23)⟩,
  ⟨(some 28), none, .extract 1 (.t 23)⟩,
  ⟨(some 7), none, .alloc 25 2 [.int .i64 (0), .int .i64 (0)]⟩,
  ⟨(some 6), none, .mv (.t 27)⟩,
  ⟨none, none, .store 2 (.t 7) (.t 28)⟩], false, []⟩
def Tryd.r_law6_BomMatchesSpec_7 : LReg := ⟨[⟨(some 29), none, .load 2 true (.t 7)⟩,
  ⟨(some 30), none, .load 2 true (.t 5)⟩,
  ⟨(some 31), none, .eqs false [0, 0] (.t 29) (.t 30)⟩,
  ⟨(some 32), none, .mv (.t 31)⟩,
  ⟨(some 33), (some (32, true)), .fieldAddr 0 (.t 5)⟩,
  ⟨(some 34), (some (32, true)), .load 1 false (.t 33)⟩,
  ⟨(some 35), (some (32, true)), .bin .neq (.t 34) (.c (.int .i64 (0)))⟩,
  ⟨(some 36), (some (32, true)), .mv (.t 35)⟩,
  ⟨(some 37), (some (36, true)), .mv (.t 6)⟩,
  ⟨(some 38), (some (36, true)), .len (.t 37)⟩,
  ⟨(some 39), (some (36, true)), .bin .eql (.t 38) (.c (.int .i64 (0)))⟩,
  ⟨(some 40), (some (32, true)), .pick (.t 36) (.t 39) (.c (.bool false))⟩,
  ⟨(some 41), (some (32, true)), .mv (.t 40)⟩,
  ⟨(some 42), (some (41, false)), .fieldAddr 0 (.t 5)⟩,
  ⟨(some 43), (some (41, false)), .load 1 false (.t 42)⟩,
  ⟨(some 44), (some (41, false)), .bin .eql (.t 43) (.c (.int .i64 (0)))⟩,
  ⟨(some 45), (some (41, false)), .mv (.t 44)⟩,
  ⟨(some 46), (some (45, true)), .mv (.t 6)⟩,
  ⟨(some 47), (some (45, true)), .mv (.t 0)⟩,
  ⟨(some 48), (some (45, true)), .load 1 true (.t 3)⟩,
  ⟨(some 49), (some (45, true)), .call 40 [(.t 47), (.t 48)]⟩,
  ⟨(some 50), (some (45, true)), .call 39 [(.t 46), (.t 49)]⟩,
  ⟨(some 51), (some (41, false)), .pick (.t 45) (.t 50) (.c (.bool false))⟩,
  ⟨(some 52), (some (32, true)), .pick (.t 41) (.c (.bool true)) (.t 51)⟩,
  ⟨(some 53), none, .pick (.t 32) (.t 52) (.c (.bool false))⟩,
  ⟨(some 4), none, .mv (.t 53)⟩], false, []⟩
def Tryd.l_law6_BomMatchesSpec : LCode := (.seq (.reg Tryd.r_law6_BomMatchesSpec_0) (.seq (.reg Tryd.r_law6_BomMatchesSpec_1) (.seq (.seq (.reg Tryd.r_law6_BomMatchesSpec_2) (.cond (.t 17) (.seq (.reg Tryd.r_law6_BomMatchesSpec_3) .ret) .skip)) (.seq (.seq (.reg Tryd.r_law6_BomMatchesSpec_4) (.cond (.t 20) (.reg Tryd.r_law6_BomMatchesSpec_5) .skip)) (.seq (.reg Tryd.r_law6_BomMatchesSpec_6) (.seq (.reg Tryd.r_law6_BomMatchesSpec_7) .ret))))))
theorem Tryd.c_law6_BomMatchesSpec : fnComp Tryd.prog 9 = some (54, Tryd.l_law6_BomMatchesSpec, [.t 4]) := by kernel_rfl
def Tryd.r_ref6_Billed_0 : LReg := ⟨[⟨(some 3), none, .box 46 1 (.t 1)⟩,
  ⟨(some 4), none, .mv (.c (.nils))⟩], false, []⟩
def Tryd.r_ref6_Billed_1 : LReg := ⟨[⟨(some 5), none, .mv (.c (.nils))⟩], false, []⟩
def Tryd.r_ref6_Billed_2 : LReg := ⟨[⟨(some 6), none, .mv (.c (.int .i64 (0)))⟩], false, []⟩
def Tryd.r_ref6_Billed_3 : LReg := ⟨[⟨(some 7), none, .mv (.t 6)⟩,
  ⟨(some 8), none, .mv (.t 0)⟩,
  ⟨(some 9), none, .len (.t 8)⟩,
  ⟨(some 10), none, .bin .lss (.t 7) (.t 9)⟩], false, []⟩
def Tryd.r_ref6_Billed_4 : LReg := ⟨[⟨(some 13), none, .mv (.t 5)⟩,
  ⟨(some 14), none, .mv (.t 0)⟩,
  ⟨(some 15), none, .mv (.t 6)⟩,
  ⟨(some 16), none, .idx 1 (.t 14) (.t 15)⟩,
  ⟨(some 17), none, .load 1 false (.t 16)⟩,
  ⟨(some 18), none, .load 1 true (.t 3)⟩,
  ⟨(some 19), none, .mv (.t 0)⟩,
  ⟨(some 20), none, .mv (.t 6)⟩,
  ⟨(some 21), none, .idx 1 (.t 19) (.t 20)⟩,
  ⟨(some 22), none, .load 1 false (.t 21)⟩,
  ⟨(some 23), none, .call 81 [(.t 18), (.t 22)]⟩,
  ⟨(some 24), none, .build [.str [], .int .i64 (0)] [(0, 1, (.t 17)), (1, 1, (.t 23))]⟩,
  ⟨(some 25), none, .mkSlice 117 2 1 [.str [], .int .i64 (0)] [(0, (.t 24))]⟩,
  ⟨(some 26), none, .append 117 2 24 (.t 13) (.t 25)⟩,
  ⟨(some 5), none, .mv (.t 26)⟩], true, [(3, 5), (4, 5), (3, 8), (4, 8), (5, 8), (3, 9), (4, 9), (5, 9), (3, 10), (4, 10)]⟩
def Tryd.r_ref6_Billed_5 : LReg := ⟨[⟨(some 11), none, .mv (.t 6)⟩,
  ⟨(some 12), none, .bin .add (.t 11) (.c (.int .i64 (1)))⟩,
  ⟨(some 6), none, .mv (.t 12)⟩], false, []⟩
def Tryd.r_ref6_Billed_6 : LReg := ⟨[⟨(some 27), none, .mv (.t 5)⟩,
  ⟨(some 4), none, .mv (.t 27)⟩], false, []⟩
def Tryd.l_ref6_Billed : LCode := (.seq (.reg Tryd.r_ref6_Billed_0) (.seq (.reg Tryd.r_ref6_Billed_1) (.seq (.seq (.reg Tryd.r_ref6_Billed_2) (.block 0 (.loop (.seq (.seq (.reg Tryd.r_ref6_Billed_3) (.cond (.t 10) .skip (.exit 0))) (.seq (.block 1 (.reg Tryd.r_ref6_Billed_4)) (.reg Tryd.r_ref6_Billed_5)))))) (.seq (.reg Tryd.r_ref6_Billed_6) .ret))))
theorem Tryd.c_ref6_Billed : fnComp Tryd.prog 44 = some (28, Tryd.l_ref6_Billed, [.t 4]) := by kernel_rfl
def Tryd.r_law6_BomMakeMatchesSpec_0 : LReg := ⟨[⟨(some 3), none, .box 46 1 (.t 1)⟩,
  ⟨(some 4), none, .mv (.c (.bool false))⟩], false, []⟩
def Tryd.r_law6_BomMakeMatchesSpec_1 : LReg := ⟨[⟨(some 8), none, .mv (.t 0)⟩,
  ⟨(some 9), none, .call 41 [(.t 8)]⟩,
  ⟨(some 5), none, .alloc 25 2 [.int .i64 (0), .int .i64 (0)]⟩,
  ⟨none, none, .store 2 (.t 5) (.t 9)⟩], false, []⟩
def Tryd.r_law6_BomMakeMatchesSpec_2 : LReg := ⟨[⟨(some 10), none, .fieldAddr 0 (.t 5)⟩,
  ⟨(some 11), none, .load 1 false (.t 10)⟩,
  ⟨(some 12), none, .bin .eql (.t 11) (.c (.int .i64 (0)))⟩], false, []⟩
def Tryd.r_law6_BomMakeMatchesSpec_3 : LReg := ⟨[⟨(some 13), none, .load 1 true (.t 3)⟩,
  ⟨(some 14), none, .call 37 [(.t 13), (.c (.int .i64 (-2)))]⟩,
  ⟨none, none, .store 2 (.t 5) (.t 14)⟩], false, []⟩
def Tryd.r_law6_BomMakeMatchesSpec_4 : LReg := ⟨[⟨(some 16), none, .mv (.t 0)⟩,
  ⟨(some 17), none, .load 1 true (.t 3)⟩,
  ⟨(some 18), none, .call 42 [(.t 16), (.t 17)]⟩,
  ⟨(some 15), none, .mv (.t 18)⟩,
  ⟨(some 19), none, .extract 0 (.t 15)⟩,
  ⟨(some 20), none, .extract 1 (.t 15)⟩,
  ⟨(some 7), none, .alloc 25 2 [.int .i64 (0), .int .i64 (0)]⟩,
  ⟨(some 6), none, .mv (.t 19)⟩,
  ⟨none, none, .store 2 (.t 7) (.t 20)⟩], false, []⟩
def Tryd.r_law6_BomMakeMatchesSpec_5 : LReg := ⟨[⟨(some 21), none, .call 35 []⟩,
  ⟨(some 22), none, .mv (.t 21)⟩,
  ⟨(some 23), (some (22, true)), .load 2 true (.t 7)⟩,
  ⟨(some 24), (some (22, true)), .load 2 true (.t 5)⟩,
  ⟨(some 25), (some (22, true)), .eqs false [0, 0] (.t 23) (.t 24)⟩,
  ⟨(some 26), none, .pick (.t 22) (.t 25) (.c (.bool false))⟩,
  ⟨(some 27), none, .mv (.t 26)⟩,
  ⟨(some 28), (some (27, true)), .fieldAddr 0 (.t 5)⟩,
  ⟨(some 29), (some (27, true)), .load 1 false (.t 28)⟩,
  ⟨(some 30), (some (27, true)), .bin .neq (.t 29) (.c (.int .i64 (0)))⟩,
  ⟨(some 31), (some (27, true)), .mv (.t 30)⟩,
  ⟨(some 32), (some (31, true)), .mv (.t 6)⟩,
  ⟨(some 33), (some (31, true)), .len (.t 32)⟩,
  ⟨(some 34), (some (31, true)), .bin .eql (.t 33) (.c (.int .i64 (0)))⟩,
  ⟨(some 35), (some (27, true)), .pick (.t 31) (.t 34) (.c (.bool false))⟩,
  ⟨(some 36), (some (27, true)), .mv (.t 35)⟩,
  ⟨(some 37), (some (36, false)), .fieldAddr 0 (.t 5)⟩,
  ⟨(some 38), (some (36, false)), .load 1 false (.t 37)⟩,
  ⟨(some 39), (some (36, false)), .bin .eql (.t 38) (.c (.int .i64 (0)))⟩,
  ⟨(some 40), (some (36, false)), .mv (.t 39)⟩,
  ⟨(some 41), (some (40, true)), .mv (.t 6)⟩,
  ⟨(some 42), (some (40, true)), .mv (.t 0)⟩,
  ⟨(some 43), (some (40, true)), .load 1 true (.t 3)⟩,
  ⟨(some 44), (some (40, true)), .call 44 [(.t 42), (.t 43)]⟩,
  ⟨(some 45), (some (40, true)), .call 43 [(.t 41), (.t 44)]⟩,
  ⟨(some 46), (some (36, false)), .pick (.t 40) (.t 45) (.c (.bool false))⟩,
  ⟨(some 47), (some (27, true)), .pick (.t 36) (.c (.bool true)) (.t 46)⟩,
  ⟨(some 48), none, .pick (.t 27) (.t 47) (.c (.bool false))⟩,
  ⟨(some 4), none, .mv (.t 48)⟩], false, []⟩
def Tryd.l_law6_BomMakeMatchesSpec : LCode := (.seq (.reg Tryd.r_law6_BomMakeMatchesSpec_0) (.seq (.reg Tryd.r_law6_BomMakeMatchesSpec_1) (.seq (.seq (.reg Tryd.r_law6_BomMakeMatchesSpec_2) (.cond (.t 12) (.reg Tryd.r_law6_BomMakeMatchesSpec_3) .skip)) (.seq (.reg Tryd.r_law6_BomMakeMatchesSpec_4) (.seq (.reg Tryd.r_law6_BomMakeMatchesSpec_5) .ret)))))
theorem Tryd.c_law6_BomMakeMatchesSpec : fnComp Tryd.prog 10 = some (49, Tryd.l_law6_BomMakeMatchesSpec, [.t 4]) := by kernel_rfl
def Tryd.r_ref6_Merged_0 : LReg := ⟨[⟨(some 4), none, .mv (.c (.nils))⟩,
  ⟨(some 5), none, .mv (.c (.bool false))⟩], false, []⟩
def Tryd.r_ref6_Merged_1 : LReg := ⟨[⟨(some 6), none, .mv (.c (.nils))⟩], false, []⟩
def Tryd.r_ref6_Merged_2 : LReg := ⟨[⟨(some 7), none, .mv (.c (.int .i64 (0)))⟩], false, []⟩
def Tryd.r_ref6_Merged_3 : LReg := ⟨[⟨(some 8), none, .mv (.c (.int .i64 (0)))⟩], false, []⟩
def Tryd.r_ref6_Merged_4 : LReg := ⟨[⟨(some 9), none, .mv (.t 7)⟩,
  ⟨(some 10), none, .mv (.t 0)⟩,
  ⟨(some 11), none, .len (.t 10)⟩,
  ⟨(some 12), none, .bin .lss (.t 9) (.t 11)⟩,
  ⟨(some 13), none, .mv (.t 12)⟩,
  ⟨(some 14), (some (13, false)), .mv (.t 8)⟩,
  ⟨(some 15), (some (13, false)), .mv (.t 1)⟩,
  ⟨(some 16), (some (13, false)), .len (.t 15)⟩,
  ⟨(some 17), (some (13, false)), .bin .lss (.t 14) (.t 16)⟩,
  ⟨(some 18), none, .pick (.t 13) (.c (.bool true)) (.t 17)⟩], false, []⟩
def Tryd.r_ref6_Merged_5 : LReg := ⟨[⟨(some 19), none, .mv (.t 7)⟩,
  ⟨(some 20), none, .mv (.t 0)⟩,
  ⟨(some 21), none, .len (.t 20)⟩,
  ⟨(some 22), none, .bin .eql (.t 19) (.t 21)⟩,
  ⟨(some 23), none, .mv (.t 22)⟩,
  ⟨(some 24), (some (23, false)), .mv (.t 8)⟩,
  ⟨(some 25), (some (23, false)), .mv (.t 1)⟩,
  ⟨(some 26), (some (23, false)), .len (.t 25)⟩,
  ⟨(some 27), (some (23, false)), .bin .lss (.t 24) (.t 26)⟩,
  ⟨(some 28), (some (23, false)), .mv (.t 27)⟩,
  ⟨(some 29), (some (28, true)), .mv (.t 1)⟩,
  ⟨(some 30), (some (28, true)), .mv (.t 8)⟩,
  ⟨(some 31), (some (28, true)), .idx 2 (.t 29) (.t 30)⟩,
  ⟨(some 32), (some (28, true)), .fieldAddr 0 (.t 31)⟩,
  ⟨(some 33), (some (28, true)), .load 1 false (.t 32)⟩,
  ⟨(some 34), (some (28, true)), .mv (.t 0)⟩,
  ⟨(some 35), (some (28, true)), .mv (.t 7)⟩,
  ⟨(some 36), (some (28, true)), .idx 2 (.t 34) (.t 35)⟩,
  ⟨(some 37), (some (28, true)), .fieldAddr 0 (.t 36)⟩,
  ⟨(some 38), (some (28, true)), .load 1 false (.t 37)⟩,
  ⟨(some 39), (some (28, true)), .bin .lss (.t 33) (.t 38)⟩,
  ⟨(some 40), (some (23, false)), .pick (.t 28) (.t 39) (.c (.bool false))⟩,
  ⟨(some 41), none, .pick (.t 23) (.c (.bool true)) (.t 40)⟩], true, [(12, 17), (13, 17), (14, 17), (12, 18), (13, 18), (14, 18), (12, 19), (13, 19), (14, 19)]⟩
def Tryd.r_ref6_Merged_6 : LReg := ⟨[⟨(some 42), none, .mv (.t 6)⟩,
  ⟨(some 43), none, .mv (.t 1)⟩,
  ⟨(some 44), none, .mv (.t 8)⟩,
  ⟨(some 45), none, .idx 2 (.t 43) (.t 44)⟩,
  ⟨(some 46), none, .load 2 true (.t 45)⟩,
  ⟨(some 47), none, .mkSlice 117 2 1 [.str [], .int .i64 (0)] [(0, (.t 46))]⟩,
  ⟨(some 48), none, .append 117 2 24 (.t 42) (.t 47)⟩,
  ⟨(some 6), none, .mv (.t 48)⟩], false, []⟩
def Tryd.r_ref6_Merged_7 : LReg := ⟨[⟨(some 49), none, .mv (.t 8)⟩,
  ⟨(some 50), none, .bin .add (.t 49) (.c (.int .i64 (1)))⟩,
  ⟨(some 8), none, .mv (.t 50)⟩], false, []⟩
def Tryd.r_ref6_Merged_8 : LReg := ⟨[⟨(some 51), none, .mv (.t 8)⟩,
  ⟨(some 52), none, .mv (.t 1)⟩,
  ⟨(some 53), none, .len (.t 52)⟩,
  ⟨(some 54), none, .bin .eql (.t 51) (.t 53)⟩,
  ⟨(some 55), none, .mv (.t 54)⟩,
  ⟨(some 56), (some (55, false)), .mv (.t 0)⟩,
  ⟨(some 57), (some (55, false)), .mv (.t 7)⟩,
  ⟨(some 58), (some (55, false)), .idx 2 (.t 56) (.t 57)⟩,
  ⟨(some 59), (some (55, false)), .fieldAddr 0 (.t 58)⟩,
  ⟨(some 60), (some (55, false)), .load 1 false (.t 59)⟩,
  ⟨(some 61), (some (55, false)), .mv (.t 1)⟩,
  ⟨(some 62), (some (55, false)), .mv (.t 8)⟩,
  ⟨(some 63), (some (55, false)), .idx 2 (.t 61) (.t 62)⟩,
  ⟨(some 64), (some (55, false)), .fieldAddr 0 (.t 63)⟩,
  ⟨(some 65), (some (55, false)), .load 1 false (.t 64)⟩,
  ⟨(some 66), (some (55, false)), .bin .lss (.t 60) (.t 65)⟩,
  ⟨(some 67), none, .pick (.t 55) (.c (.bool true)) (.t 66)⟩], true, [(7, 12), (8, 12), (9, 12), (7, 13), (8, 13), (9, 13), (7, 14), (8, 14), (9, 14)]⟩
def Tryd.r_ref6_Merged_9 : LReg := ⟨[⟨(some 68), none, .mv (.t 6)⟩,
  ⟨(some 69), none, .mv (.t 0)⟩,
  ⟨(some 70), none, .mv (.t 7)⟩,
  ⟨(some 71), none, .idx 2 (.t 69) (.t 70)⟩,
  ⟨(some 72), none, .load 2 true (.t 71)⟩,
  ⟨(some 73), none, .mkSlice 117 2 1 [.str [], .int .i64 (0)] [(0, (.t 72))]⟩,
  ⟨(some 74), none, .append 117 2 24 (.t 68) (.t 73)⟩,
  ⟨(some 6), none, .mv (.t 74)⟩], false, []⟩
def Tryd.r_ref6_Merged_10 : LReg := ⟨[⟨(some 75), none, .mv (.t 7)⟩,
  ⟨(some 76), none, .bin .add (.t 75) (.c (.int .i64 (1)))⟩,
  ⟨(some 7), none, .mv (.t 76)⟩], false, []⟩
def Tryd.r_ref6_Merged_11 : LReg := ⟨[⟨(some 77), none, .mv (.t 0)⟩,
  ⟨(some 78), none, .mv (.t 7)⟩,
  ⟨(some 79), none, .idx 2 (.t 77) (.t 78)⟩,
  ⟨(some 80), none, .fieldAddr 1 (.t 79)⟩,
  ⟨(some 81), none, .load 1 false (.t 80)⟩,
  ⟨(some 82), none, .mv (.t 1)⟩,
  ⟨(some 83), none, .mv (.t 8)⟩,
  ⟨(some 84), none, .idx 2 (.t 82) (.t 83)⟩,
  ⟨(some 85), none, .fieldAddr 1 (.t 84)⟩,
  ⟨(some 86), none, .load 1 false (.t 85)⟩,
  ⟨(some 87), none, .bin .neq (.t 81) (.t 86)⟩], true, [(2, 7), (3, 7), (4, 7), (2, 8), (3, 8), (4, 8), (2, 9), (3, 9), (4, 9)]⟩
def Tryd.r_ref6_Merged_12 : LReg := ⟨[⟨(some 4), none, .mv (.c (.nils))⟩,
  ⟨(some 5), none, .mv (.c (.bool false))⟩], false, []⟩
def Tryd.r_ref6_Merged_13 : LReg := ⟨[⟨(some 88), none, .mv (.t 6)⟩,
  ⟨(some 89), none, .mv (.t 0)⟩,
  ⟨(some 90), none, .mv (.t 7)⟩,
  ⟨(some 91), none, .idx 2 (.t 89) (.t 90)⟩,
  ⟨(some 92), none, .load 2 true (.t 91)⟩,
  ⟨(some 93), none, .mkSlice 117 2 1 [.str [], .int .i64 (0)] [(0, (.t 92))]⟩,
  ⟨(some 94), none, .append 117 2 24 (.t 88) (.t 93)⟩,
  ⟨(some 6), none, .mv (.t 94)⟩], false, []⟩
def Tryd.r_ref6_Merged_14 : LReg := ⟨[⟨(some 95), none, .mv (.t 7)⟩,
  ⟨(some 96), none, .bin .add (.t 95) (.c (.int .i64 (1)))⟩,
  ⟨(some 7), none, .mv (.t 96)⟩], false, []⟩
def Tryd.r_ref6_Merged_15 : LReg := ⟨[⟨(some 97), none, .mv (.t 8)⟩,
  ⟨(some 98), none, .bin .add (.t 97) (.c (.int .i64 (1)))⟩,
  ⟨(some 8), none, .mv (.t 98)⟩], false, []⟩
def Tryd.r_ref6_Merged_16 : LReg := ⟨[⟨(some 99), none, .mv (.t 6)⟩,
  ⟨(some 4), none, .mv (.t 99)⟩,
  ⟨(some 5), none, .mv (.c (.bool true))⟩], false, []⟩
def Tryd.l_ref6_Merged : LCode := (.seq (.reg Tryd.r_ref6_Merged_0) (.seq (.reg Tryd.r_ref6_Merged_1) (.seq (.reg Tryd.r_ref6_Merged_2) (.seq (.reg Tryd.r_ref6_Merged_3) (.seq (.block 0 (.loop (.seq (.seq (.reg Tryd.r_ref6_Merged_4) (.cond (.t 18) .skip (.exit 0))) (.block 1 (.seq (.reg Tryd.r_ref6_Merged_5) (.cond (.t 41) (.seq (.reg Tryd.r_ref6_Merged_6) (.reg Tryd.r_ref6_Merged_7)) (.seq (.reg Tryd.r_ref6_Merged_8) (.cond (.t 67) (.seq (.reg Tryd.r_ref6_Merged_9) (.reg Tryd.r_ref6_Merged_10)) (.seq (.seq (.reg Tryd.r_ref6_Merged_11) (.cond (.t 87) (.seq (.reg Tryd.r_ref6_Merged_12) .ret) .skip)) (.seq (.reg Tryd.r_ref6_Merged_13) (.seq (.reg Tryd.r_ref6_Merged_14) (.reg Tryd.r_ref6_Merged_15)))))))))))) (.seq (.reg Tryd.r_ref6_Merged_16) .ret))))))
theorem Tryd.c_ref6_Merged : fnComp Tryd.prog 45 = some (100, Tryd.l_ref6_Merged, [.t 4, .t 5]) := by kernel_rfl
def Tryd.r_law6_BomMergeMatchesSpec_0 : LReg := ⟨[⟨(some 4), none, .mv (.c (.bool false))⟩], false, []⟩
def Tryd.r_law6_BomMergeMatchesSpec_1 : LReg := ⟨[⟨(some 11), none, .mv (.t 0)⟩,
  ⟨(some 12), none, .call 34 [(.t 11)]⟩,
  ⟨(some 5), none, .alloc 25 2 [.int .i64 (0), .int .i64 (0)]⟩,
  ⟨none, none, .store 2 (.t 5) (.t 12)⟩], false, []⟩
def Tryd.r_law6_BomMergeMatchesSpec_2 : LReg := ⟨[⟨(some 13), none, .fieldAddr 0 (.t 5)⟩,
  ⟨(some 14), none, .load 1 false (.t 13)⟩,
  ⟨(some 15), none, .bin .eql (.t 14) (.c (.int .i64 (0)))⟩,
  ⟨(some 16), none, .mv (.t 15)⟩,
  ⟨(some 17), (some (16, true)), .mv (.t 1)⟩,
  ⟨(some 18), (some (16, true)), .call 34 [(.t 17)]⟩,
  ⟨(some 19), (some (16, true)), .field 0 1 false (.t 18)⟩,
  ⟨(some 20), (some (16, true)), .bin .neq (.t 19) (.c (.int .i64 (0)))⟩,
  ⟨(some 21), none, .pick (.t 16) (.t 20) (.c (.bool false))⟩], false, []⟩
def Tryd.r_law6_BomMergeMatchesSpec_3 : LReg := ⟨[⟨(some 22), none, .mv (.t 1)⟩,
  ⟨(some 23), none, .call 34 [(.t 22)]⟩,
  ⟨(some 24), none, .field 0 1 false (.t 23)⟩,
  ⟨(some 25), none, .call 19 [(.t 24), (.c (.int .i64 (-2)))]⟩,
  ⟨none, none, .store 2 (.t 5) (.t 25)⟩], false, []⟩
def Tryd.r_law6_BomMergeMatchesSpec_4 : LReg := ⟨[⟨(some 6), none, .mv (.c (.nils))⟩], false, []⟩
def Tryd.r_law6_BomMergeMatchesSpec_5 : LReg := ⟨[⟨(some 7), none, .mv (.c (.bool false))⟩], false, []⟩
def Tryd.r_law6_BomMergeMatchesSpec_6 : LReg := ⟨[⟨(some 26), none, .fieldAddr 0 (.t 5)⟩,
  ⟨(some 27), none, .load 1 false (.t 26)⟩,
  ⟨(some 28), none, .bin .eql (.t 27) (.c (.int .i64 (0)))⟩], false, []⟩
def Tryd.r_law6_BomMergeMatchesSpec_7 : LReg := ⟨[⟨(some 30), none, .mv (.t 0)⟩,
  ⟨(some 31), none, .mv (.t 1)⟩,
  ⟨(some 32), none, .call 45 [(.t 30), (.t 31)]⟩,
  ⟨(some 29), none, .mv (.t 32)⟩,
  ⟨(some 33), none, .extract 0 (.t 29)⟩,
  ⟨(some 34), none, .extract 1 (.t 29)⟩,
  ⟨(some 6), none, .mv (.t 33)⟩,
  ⟨(some 7), none, .mv (.t 34)⟩], false, []⟩
def Tryd.r_law6_BomMergeMatchesSpec_8 : LReg := ⟨[⟨(some 35), none, .mv (.t 7)⟩,
  ⟨(some 36), none, .mv (.t 35)⟩,
  ⟨(some 37), (some (36, true)), .mv (.t 6)⟩,
  ⟨(some 38), (some (36, true)), .len (.t 37)⟩,
  ⟨(some 39), (some (36, true)), .bin .gtr (.t 38) (.c (.int .i64 (24)))⟩,
  ⟨(some 40), none, .pick (.t 36) (.t 39) (.c (.bool false))⟩], false, []⟩
def Tryd.r_law6_BomMergeMatchesSpec_9 : LReg := ⟨[⟨(some 41), none, .call 19 [(.c (.int .i64 (10))), (.c (.int .i64 (-3)))]⟩,
  ⟨none, none, .store 2 (.t 5) (.t 41)⟩], false, []⟩
def Tryd.r_law6_BomMergeMatchesSpec_10 : LReg := ⟨[⟨(some 7), none, .mv (.c (.bool false))⟩], false, []⟩
def Tryd.r_law6_BomMergeMatchesSpec_11 : LReg := ⟨[⟨(some 43), none, .mv (.t 0)⟩,
  ⟨(some 44), none, .mv (.t 1)⟩,
  ⟨(some 45), none, .call 46 [(.t 43), (.t 44)]⟩,
  ⟨(some 42), none, .mv (.t 45)⟩,
  ⟨(some 46), none, .extract 0 (.t 42)⟩,
  ⟨(some 47), none, .extract 1 (.t 42)⟩,
  ⟨(some 48), none, .extract 2 (.t 42)⟩,
  ⟨(some 10), none, .alloc 25 2 [.int .i64 (0), .int .i64 (0)]⟩,
  ⟨(some 8), none, .mv (.t 46)⟩,
  ⟨(some 9), none, .mv (.t 47)⟩,
  ⟨none, none, .store 2 (.t 10) (.t 48)⟩], false, []⟩
def Tryd.r_law6_BomMergeMatchesSpec_12 : LReg := ⟨[⟨(some 49), none, .call 35 []⟩,
  ⟨(some 50), none, .mv (.t 49)⟩,
  ⟨(some 51), (some (50, true)), .load 2 true (.t 10)⟩,
  ⟨(some 52), (some (50, true)), .load 2 true (.t 5)⟩,
  ⟨(some 53), (some (50, true)), .eqs false [0, 0] (.t 51) (.t 52)⟩,
  ⟨(some 54), none, .pick (.t 50) (.t 53) (.c (.bool false))⟩,
  ⟨(some 55), none, .mv (.t 54)⟩,
  ⟨(some 56), (some (55, true)), .mv (.t 9)⟩,
  ⟨(some 57), (some (55, true)), .mv (.t 7)⟩,
  ⟨(some 58), (some (55, true)), .eqb false (.t 56) (.t 57)⟩,
  ⟨(some 59), none, .pick (.t 55) (.t 58) (.c (.bool false))⟩,
  ⟨(some 60), none, .mv (.t 59)⟩,
  ⟨(some 61), (some (60, true)), .mv (.t 7)⟩,
  ⟨(some 62), (some (60, true)), .un .not (.t 61)⟩,
  ⟨(some 63), (some (60, true)), .mv (.t 62)⟩,
  ⟨(some 64), (some (63, true)), .mv (.t 8)⟩,
  ⟨(some 65), (some (63, true)), .len (.t 64)⟩,
  ⟨(some 66), (some (63, true)), .bin .eql (.t 65) (.c (.int .i64 (0)))⟩,
  ⟨(some 67), (some (60, true)), .pick (.t 63) (.t 66) (.c (.bool false))⟩,
  ⟨(some 68), (some (60, true)), .mv (.t 67)⟩,
  ⟨(some 69), (some (68, false)), .mv (.t 7)⟩,
  ⟨(some 70), (some (68, false)), .mv (.t 69)⟩,
  ⟨(some 71), (some (70, true)), .mv (.t 8)⟩,
  ⟨(some 72), (some (70, true)), .mv (.t 6)⟩,
  ⟨(some 73), (some (70, true)), .call 43 [(.t 71), (.t 72)]⟩,
  ⟨(some 74), (some (68, false)), .pick (.t 70) (.t 73) (.c (.bool false))⟩,
  ⟨(some 75), (some (60, true)), .pick (.t 68) (.c (.bool true)) (.t 74)⟩,
  ⟨(some 76), none, .pick (.t 60) (.t 75) (.c (.bool false))⟩,
  ⟨(some 4), none, .mv (.t 76)⟩], false, []⟩
def Tryd.l_law6_BomMergeMatchesSpec : LCode := (.seq (.reg Tryd.r_law6_BomMergeMatchesSpec_0) (.seq (.reg Tryd.r_law6_BomMergeMatchesSpec_1) (.seq (.seq (.reg Tryd.r_law6_BomMergeMatchesSpec_2) (.cond (.t 21) (.reg Tryd.r_law6_BomMergeMatchesSpec_3) .skip)) (.seq (.reg Tryd.r_law6_BomMergeMatchesSpec_4) (.seq (.reg Tryd.r_law6_BomMergeMatchesSpec_5) (.seq (.seq (.reg Tryd.r_law6_BomMergeMatchesSpec_6) (.cond (.t 28) (.reg Tryd.r_law6_BomMergeMatchesSpec_7) .skip)) (.seq (.seq (.reg Tryd.r_law6_BomMergeMatchesSpec_8) (.cond (.t 40) (.seq (.reg Tryd.r_law6_BomMergeMatchesSpec_9) (.reg Tryd.r_law6_BomMergeMatchesSpec_10)) .skip)) (.seq (.reg Tryd.r_law6_BomMergeMatchesSpec_11) (.seq (.reg Tryd.r_law6_BomMergeMatchesSpec_12) .ret)))))))))
theorem Tryd.c_law6_BomMergeMatchesSpec : fnComp Tryd.prog 11 = some (77, Tryd.l_law6_BomMergeMatchesSpec, [.t 4]) := by kernel_rfl
def Tryd.r_law6_BomMadeDescribesItsTree_0 : LReg := ⟨[⟨(some 4), none, .box 46 1 (.t 1)⟩,
  ⟨(some 5), none, .box 46 1 (.t 2)⟩,
  ⟨(some 6), none, .mv (.c (.bool false))⟩], false, []⟩
def Tryd.r_law6_BomMadeDescribesItsTree_1 : LReg := ⟨[⟨(some 16), none, .mv (.t 0)⟩,
  ⟨(some 17), none, .load 1 true (.t 4)⟩,
  ⟨(some 18), none, .call 42 [(.t 16), (.t 17)]⟩,
  ⟨(some 15), none, .mv (.t 18)⟩,
  ⟨(some 19), none, .extract 0 (.t 15)⟩,
  ⟨(some 20), none, .extract 1 (.t 15)⟩,
  ⟨(some 8), none, .alloc 25 2 [.int .i64 (0), .int .i64 (0)]⟩,
  ⟨(some 7), none, .mv (.t 19)⟩,
  ⟨none, none, .store 2 (.t 8) (.t 20)⟩], false, []⟩
def Tryd.r_law6_BomMadeDescribesItsTree_2 : LReg := ⟨[⟨(some 21), none, .call 35 []⟩,
  ⟨(some 22), none, .un .not (.t 21)⟩,
  ⟨(some 23), none, .mv (.t 22)⟩,
  ⟨(some 24), (some (23, false)), .fieldAddr 0 (.t 8)⟩,
  ⟨(some 25), (some (23, false)), .load 1 false (.t 24)⟩,
  ⟨(some 26), (some (23, false)), .bin .neq (.t 25) (.c (.int .i64 (0)))⟩,
  ⟨(some 27), none, .pick (.t 23) (.c (.bool true)) (.t 26)⟩], false, []⟩
def Tryd.r_law6_BomMadeDescribesItsTree_3 : LReg := ⟨[⟨(some 28), none, .call 35 []⟩,
  ⟨(some 29), none, .mv (.t 28)⟩,
  ⟨(some 30), (some (29, true)), .mv (.t 7)⟩,
  ⟨(some 31), (some (29, true)), .len (.t 30)⟩,
  ⟨(some 32), (some (29, true)), .bin .eql (.t 31) (.c (.int .i64 (0)))⟩,
  ⟨(some 33), none, .pick (.t 29) (.t 32) (.c (.bool false))⟩,
  ⟨(some 6), none, .mv (.t 33)⟩], false, []⟩
def Tryd.r_law6_BomMadeDescribesItsTree_4 : LReg := ⟨[⟨(some 35), none, .mv (.t 7)⟩,
  ⟨(some 36), none, .load 1 true (.t 4)⟩,
  ⟨(some 37), none, .call 38 [(.t 35), (.t 36)]⟩,
  ⟨(some 34), none, .mv (.t 37)⟩,
  ⟨(some 38), none, .extract 0 (.t 34)⟩,
  ⟨(some 39), none, .extract 1 (.t 34)⟩,
  ⟨(some 10), none, .alloc 25 2 [.int .i64 (0), .int .i64 (0)]⟩,
  ⟨(some 9), none, .mv (.t 38)⟩,
  ⟨none, none, .store 2 (.t 10) (.t 39)⟩], false, []⟩
def Tryd.r_law6_BomMadeDescribesItsTree_5 : LReg := ⟨[⟨(some 41), none, .mv (.t 0)⟩,
  ⟨(some 42), none, .load 1 true (.t 5)⟩,
  ⟨(some 43), none, .call 42 [(.t 41), (.t 42)]⟩,
  ⟨(some 40), none, .mv (.t 43)⟩,
  ⟨(some 44), none, .extract 0 (.t 40)⟩,
  ⟨(some 45), none, .extract 1 (.t 40)⟩,
  ⟨(some 12), none, .alloc 25 2 [.int .i64 (0), .int .i64 (0)]⟩,
  ⟨(some 11), none, .mv (.t 44)⟩,
  ⟨none, none, .store 2 (.t 12) (.t 45)⟩], false, []⟩
def Tryd.r_law6_BomMadeDescribesItsTree_6 : LReg := ⟨[⟨(some 47), none, .mv (.t 7)⟩,
  ⟨(some 48), none, .load 1 true (.t 5)⟩,
  ⟨(some 49), none, .call 38 [(.t 47), (.t 48)]⟩,
  ⟨(some 46), none, .mv (.t 49)⟩,
  ⟨(some 50), none, .extract 0 (.t 46)⟩,
  ⟨(some 51), none, .extract 1 (.t 46)⟩,
  ⟨(some 14), none, .alloc 25 2 [.int .i64 (0), .int .i64 (0)]⟩,
  ⟨(some 13), none, .mv (.t 50)⟩,
  ⟨none, none, .store 2 (.t 14) (.t 51)⟩], false, []⟩
def Tryd.r_law6_BomMadeDescribesItsTree_7 : LReg := ⟨[⟨(some 52), none, .fieldAddr 0 (.t 10)⟩,
  ⟨(some 53), none, .load 1 false (.t 52)⟩,
  ⟨(some 54), none, .bin .neq (.t 53) (.c (.int .i64 (0)))⟩,
  ⟨(some 55), none, .mv (.t 54)⟩,
  ⟨(some 56), (some (55, false)), .mv (.t 9)⟩,
  ⟨(some 57), (some (55, false)), .len (.t 56)⟩,
  ⟨(some 58), (some (55, false)), .bin .gtr (.t 57) (.c (.int .i64 (0)))⟩,
  ⟨(some 59), none, .pick (.t 55) (.c (.bool true)) (.t 58)⟩,
  ⟨(some 60), none, .mv (.t 59)⟩,
  ⟨(some 61), (some (60, false)), .load 2 true (.t 12)⟩,
  ⟨(some 62), (some (60, false)), .load 2 true (.t 14)⟩,
  ⟨(some 63), (some (60, false)), .eqs true [0, 0] (.t 61) (.t 62)⟩,
  ⟨(some 64), none, .pick (.t 60) (.c (.bool true)) (.t 63)⟩], false, []⟩
def Tryd.r_law6_BomMadeDescribesItsTree_8 : LReg := ⟨[⟨(some 6), none, .mv (.c (.bool false))⟩], false, []⟩
def Tryd.r_law6_BomMadeDescribesItsTree_9 : LReg := ⟨[⟨(some 65), none, .fieldAddr 0 (.t 12)⟩,
  ⟨(some 66), none, .load 1 false (.t 65)⟩,
  ⟨(some 67), none, .bin .neq (.t 66) (.c (.int .i64 (0)))⟩,
  ⟨(some 68), none, .mv (.t 67)⟩,
  ⟨(some 69), (some (68, false)), .mv (.t 13)⟩,
  ⟨(some 70), (some (68, false)), .len (.t 69)⟩,
  ⟨(some 71), (some (68, false)), .bin .eql (.t 70) (.c (.int .i64 (0)))⟩,
  ⟨(some 72), (some (68, false)), .mv (.t 7)⟩,
  ⟨(some 73), (some (68, false)), .mv (.t 11)⟩,
  ⟨(some 74), (some (68, false)), .call 43 [(.t 72), (.t 73)]⟩,
  ⟨(some 75), (some (68, false)), .eqb false (.t 71) (.t 74)⟩,
  ⟨(some 76), none, .pick (.t 68) (.c (.bool true)) (.t 75)⟩,
  ⟨(some 6), none, .mv (.t 76)⟩], false, []⟩
def Tryd.l_law6_BomMadeDescribesItsTree : LCode := (.seq (.reg Tryd.r_law6_BomMadeDescribesItsTree_0) (.seq (.reg Tryd.r_law6_BomMadeDescribesItsTree_1) (.seq (.seq (.reg Tryd.r_law6_BomMadeDescribesItsTree_2) (.cond (.t 27) (.seq (.reg Tryd.r_law6_BomMadeDescribesItsTree_3) .ret) .skip)) (.seq (.reg Tryd.r_law6_BomMadeDescribesItsTree_4) (.seq (.reg Tryd.r_law6_BomMadeDescribesItsTree_5) (.seq (.reg Tryd.r_law6_BomMadeDescribesItsTree_6) (.seq (.seq (.reg Tryd.r_law6_BomMadeDescribesItsTree_7) (.cond (.t 64) (.seq (.reg Tryd.r_law6_BomMadeDescribesItsTree_8) .ret) .skip)) (.seq (.reg Tryd.r_law6_BomMadeDescribesItsTree_9) .ret))))))))
theorem Tryd.c_law6_BomMadeDescribesItsTree : fnComp Tryd.prog 12 = some (77, Tryd.l_law6_BomMadeDescribesItsTree, [.t 6]) := by kernel_rfl
def Tryd.r_law6_BomMergedDescribesBoth_0 : LReg := ⟨[⟨(some 5), none, .box 46 1 (.t 2)⟩,
  ⟨(some 6), none, .mv (.c (.bool false))⟩], false, []⟩
def Tryd.r_law6_BomMergedDescribesBoth_1 : LReg := ⟨[⟨(some 20), none, .mv (.t 0)⟩,
  ⟨(some 21), none, .mv (.t 1)⟩,
  ⟨(some 22), none, .call 46 [(.t 20), (.t 21)]⟩,
  ⟨(some 19), none, .mv (.t 22)⟩,
  ⟨(some 23), none, .extract 0 (.t 19)⟩,
  ⟨(some 24), none, .extract 1 (.t 19)⟩,
  ⟨(some 25), none, .extract 2 (.t 19)⟩,
  ⟨(some 9), none, .alloc 25 2 [.int .i64 (0), .int .i64 (0)]⟩,
  ⟨(some 7), none, .mv (.t 23)⟩,
  ⟨(some 8), none, .mv (.t 24)⟩,
  ⟨none, none, .store 2 (.t 9) (.t 25)⟩], false, []⟩
def Tryd.r_law6_BomMergedDescribesBoth_2 : LReg := ⟨[⟨(some 27), none, .mv (.t 1)⟩,
  ⟨(some 28), none, .mv (.t 0)⟩,
  ⟨(some 29), none, .call 46 [(.t 27), (.t 28)]⟩,
  ⟨(some 26), none, .mv (.t 29)⟩,
  ⟨(some 30), none, .extract 0 (.t 26)⟩,
  ⟨(some 31), none, .extract 1 (.t 26)⟩,
  ⟨(some 32), none, .extract 2 (.t 26)⟩,
  ⟨(some 12), none, .alloc 25 2 [.int .i64 (0), .int .i64 (0)]⟩,
  ⟨(some 10), none, .mv (.t 30)⟩,
  ⟨(some 11), none, .mv (.t 31)⟩,
  ⟨none, none, .store 2 (.t 12) (.t 32)⟩], false, []⟩
def Tryd.r_law6_BomMergedDescribesBoth_3 : LReg := ⟨[⟨(some 33), none, .call 35 []⟩,
  ⟨(some 34), none, .un .not (.t 33)⟩,
  ⟨(some 35), none, .mv (.t 34)⟩,
  ⟨(some 36), (some (35, false)), .fieldAddr 0 (.t 9)⟩,
  ⟨(some 37), (some (35, false)), .load 1 false (.t 36)⟩,
  ⟨(some 38), (some (35, false)), .bin .eql (.t 37) (.c (.int .i64 (0)))⟩,
  ⟨(some 39), (some (35, false)), .fieldAddr 0 (.t 12)⟩,
  ⟨(some 40), (some (35, false)), .load 1 false (.t 39)⟩,
  ⟨(some 41), (some (35, false)), .bin .eql (.t 40) (.c (.int .i64 (0)))⟩,
  ⟨(some 42), (some (35, false)), .eqb true (.t 38) (.t 41)⟩,
  ⟨(some 43), none, .pick (.t 35) (.c (.bool true)) (.t 42)⟩,
  ⟨(some 44), none, .mv (.t 43)⟩,
  ⟨(some 45), (some (44, false)), .mv (.t 8)⟩,
  ⟨(some 46), (some (44, false)), .mv (.t 11)⟩,
  ⟨(some 47), (some (44, false)), .eqb true (.t 45) (.t 46)⟩,
  ⟨(some 48), none, .pick (.t 44) (.c (.bool true)) (.t 47)⟩,
  ⟨(some 49), none, .mv (.t 48)⟩,
  ⟨(some 50), (some (49, false)), .mv (.t 7)⟩,
  ⟨(some 51), (some (49, false)), .mv (.t 10)⟩,
  ⟨(some 52), (some (49, false)), .call 43 [(.t 50), (.t 51)]⟩,
  ⟨(some 53), (some (49, false)), .un .not (.t 52)⟩,
  ⟨(some 54), none, .pick (.t 49) (.c (.bool true)) (.t 53)⟩], false, []⟩
def Tryd.r_law6_BomMergedDescribesBoth_4 : LReg := ⟨[⟨(some 6), none, .mv (.c (.bool false))⟩], false, []⟩
def Tryd.r_law6_BomMergedDescribesBoth_5 : LReg := ⟨[⟨(some 56), none, .mv (.t 0)⟩,
  ⟨(some 57), none, .load 1 true (.t 5)⟩,
  ⟨(some 58), none, .call 38 [(.t 56), (.t 57)]⟩,
  ⟨(some 55), none, .mv (.t 58)⟩,
  ⟨(some 59), none, .extract 0 (.t 55)⟩,
  ⟨(some 60), none, .extract 1 (.t 55)⟩,
  ⟨(some 14), none, .alloc 25 2 [.int .i64 (0), .int .i64 (0)]⟩,
  ⟨(some 13), none, .mv (.t 59)⟩,
  ⟨none, none, .store 2 (.t 14) (.t 60)⟩], false, []⟩
def Tryd.r_law6_BomMergedDescribesBoth_6 : LReg := ⟨[⟨(some 62), none, .mv (.t 1)⟩,
  ⟨(some 63), none, .load 1 true (.t 5)⟩,
  ⟨(some 64), none, .call 38 [(.t 62), (.t 63)]⟩,
  ⟨(some 61), none, .mv (.t 64)⟩,
  ⟨(some 65), none, .extract 0 (.t 61)⟩,
  ⟨(some 66), none, .extract 1 (.t 61)⟩,
  ⟨(some 16), none, .alloc 25 2 [.int .i64 (0), .int .i64 (0)]⟩,
  ⟨(some 15), none, .mv (.t 65)⟩,
  ⟨none, none, .store 2 (.t 16) (.t 66)⟩], false, []⟩
def Tryd.r_law6_BomMergedDescribesBoth_7 : LReg := ⟨[⟨(some 68), none, .mv (.t 7)⟩,
  ⟨(some 69), none, .load 1 true (.t 5)⟩,
  ⟨(some 70), none, .call 38 [(.t 68), (.t 69)]⟩,
  ⟨(some 67), none, .mv (.t 70)⟩,
  ⟨(some 71), none, .extract 0 (.t 67)⟩,
  ⟨(some 72), none, .extract 1 (.t 67)⟩,
  ⟨(some 18), none, .alloc 25 2 [.int .i64 (0), .int .i64 (0)]⟩,
  ⟨(some 17), none, .mv (.t 71)⟩,
  ⟨none, none, .store 2 (.t 18) (.t 72)⟩], false, []⟩
def Tryd.r_law6_BomMergedDescribesBoth_8 : LReg := ⟨[⟨(some 73), none, .fieldAddr 0 (.t 9)⟩,
  ⟨(some 74), none, .load 1 false (.t 73)⟩,
  ⟨(some 75), none, .bin .neq (.t 74) (.c (.int .i64 (0)))⟩,
  ⟨(some 76), none, .mv (.t 75)⟩,
  ⟨(some 77), (some (76, false)), .fieldAddr 0 (.t 14)⟩,
  ⟨(some 78), (some (76, false)), .load 1 false (.t 77)⟩,
  ⟨(some 79), (some (76, false)), .bin .neq (.t 78) (.c (.int .i64 (0)))⟩,
  ⟨(some 80), none, .pick (.t 76) (.c (.bool true)) (.t 79)⟩,
  ⟨(some 81), none, .mv (.t 80)⟩,
  ⟨(some 82), (some (81, false)), .fieldAddr 0 (.t 16)⟩,
  ⟨(some 83), (some (81, false)), .load 1 false (.t 82)⟩,
  ⟨(some 84), (some (81, false)), .bin .neq (.t 83) (.c (.int .i64 (0)))⟩,
  ⟨(some 85), none, .pick (.t 81) (.c (.bool true)) (.t 84)⟩], false, []⟩
def Tryd.r_law6_BomMergedDescribesBoth_9 : LReg := ⟨[⟨(some 86), none, .fieldAddr 0 (.t 9)⟩,
  ⟨(some 87), none, .load 1 false (.t 86)⟩,
  ⟨(some 88), none, .bin .eql (.t 87) (.c (.int .i64 (0)))⟩,
  ⟨(some 89), none, .mv (.t 88)⟩,
  ⟨(some 90), (some (89, false)), .mv (.t 8)⟩,
  ⟨(some 91), (some (89, false)), .un .not (.t 90)⟩,
  ⟨(some 92), (some (89, false)), .mv (.t 91)⟩,
  ⟨(some 93), (some (92, true)), .mv (.t 7)⟩,
  ⟨(some 94), (some (92, true)), .len (.t 93)⟩,
  ⟨(some 95), (some (92, true)), .bin .eql (.t 94) (.c (.int .i64 (0)))⟩,
  ⟨(some 96), (some (89, false)), .pick (.t 92) (.t 95) (.c (.bool false))⟩,
  ⟨(some 97), none, .pick (.t 89) (.c (.bool true)) (.t 96)⟩,
  ⟨(some 6), none, .mv (.t 97)⟩], false, []⟩
def Tryd.r_law6_BomMergedDescribesBoth_10 : LReg := ⟨[⟨(some 98), none, .mv (.t 8)⟩,
  ⟨(some 99), none, .un .not (.t 98)⟩], false, []⟩
def Tryd.r_law6_BomMergedDescribesBoth_11 : LReg := ⟨[⟨(some 100), none, .mv (.t 7)⟩,
  ⟨(some 101), none, .len (.t 100)⟩,
  ⟨(some 102), none, .bin .eql (.t 101) (.c (.int .i64 (0)))⟩,
  ⟨(some 103), none, .mv (.t 102)⟩,
  ⟨(some 104), (some (103, true)), .mv (.t 13)⟩,
  ⟨(some 105), (some (103, true)), .len (.t 104)⟩,
  ⟨(some 106), (some (103, true)), .bin .gtr (.t 105) (.c (.int .i64 (0)))⟩,
  ⟨(some 107), (some (103, true)), .mv (.t 106)⟩,
  ⟨(some 108), (some (107, false)), .mv (.t 15)⟩,
  ⟨(some 109), (some (107, false)), .len (.t 108)⟩,
  ⟨(some 110), (some (107, false)), .bin .gtr (.t 109) (.c (.int .i64 (0)))⟩,
  ⟨(some 111), (some (103, true)), .pick (.t 107) (.c (.bool true)) (.t 110)⟩,
  ⟨(some 112), none, .pick (.t 103) (.t 111) (.c (.bool false))⟩,
  ⟨(some 6), none, .mv (.t 112)⟩], false, []⟩
def Tryd.r_law6_BomMergedDescribesBoth_12 : LReg := ⟨[⟨(some 113), none, .fieldAddr 0 (.t 18)⟩,
  ⟨(some 114), none, .load 1 false (.t 113)⟩,
  ⟨(some 115), none, .bin .eql (.t 114) (.c (.int .i64 (0)))⟩,
  ⟨(some 116), none, .mv (.t 115)⟩,
  ⟨(some 117), (some (116, true)), .mv (.t 17)⟩,
  ⟨(some 118), (some (116, true)), .len (.t 117)⟩,
  ⟨(some 119), (some (116, true)), .bin .eql (.t 118) (.c (.int .i64 (0)))⟩,
  ⟨(some 120), (some (116, true)), .mv (.t 13)⟩,
  ⟨(some 121), (some (116, true)), .len (.t 120)⟩,
  ⟨(some 122), (some (116, true)), .bin .eql (.t 121) (.c (.int .i64 (0)))⟩,
  ⟨(some 123), (some (116, true)), .mv (.t 122)⟩,
  ⟨(some 124), (some (123, true)), .mv (.t 15)⟩,
  ⟨(some 125), (some (123, true)), .len (.t 124)⟩,
  ⟨(some 126), (some (123, true)), .bin .eql (.t 125) (.c (.int .i64 (0)))⟩,
  ⟨(some 127), (some (116, true)), .pick (.t 123) (.t 126) (.c (.bool false))⟩,
  ⟨(some 128), (some (116, true)), .eqb false (.t 119) (.t 127)⟩,
  ⟨(some 129), none, .pick (.t 116) (.t 128) (.c (.bool false))⟩,
  ⟨(some 6), none, .mv (.t 129)⟩], false, []⟩
def Tryd.l_law6_BomMergedDescribesBoth : LCode := (.seq (.reg Tryd.r_law6_BomMergedDescribesBoth_0) (.seq (.reg Tryd.r_law6_BomMergedDescribesBoth_1) (.seq (.reg Tryd.r_law6_BomMergedDescribesBoth_2) (.seq (.seq (.reg Tryd.r_law6_BomMergedDescribesBoth_3) (.cond (.t 54) (.seq (.reg Tryd.r_law6_BomMergedDescribesBoth_4) .ret) .skip)) (.seq (.reg Tryd.r_law6_BomMergedDescribesBoth_5) (.seq (.reg Tryd.r_law6_BomMergedDescribesBoth_6) (.seq (.reg Tryd.r_law6_BomMergedDescribesBoth_7) (.seq (.seq (.reg Tryd.r_law6_BomMergedDescribesBoth_8) (.cond (.t 85) (.seq (.reg Tryd.r_law6_BomMergedDescribesBoth_9) .ret) .skip)) (.seq (.seq (.reg Tryd.r_law6_BomMergedDescribesBoth_10) (.cond (.t 99) (.seq (.reg Tryd.r_law6_BomMergedDescribesBoth_11) .ret) .skip)) (.seq (.reg Tryd.r_law6_BomMergedDescribesBoth_12) .ret))))))))))
theorem Tryd.c_law6_BomMergedDescribesBoth : fnComp Tryd.prog 13 = some (130, Tryd.l_law6_BomMergedDescribesBoth, [.t 6]) := by kernel_rfl
def Tryd.r_ref6_HasString_0 : LReg := ⟨[⟨(some 4), none, .mv (.c (.bool false))⟩], false, []⟩
def Tryd.r_ref6_HasString_1 : LReg := ⟨[⟨(some 5), none, .mv (.c (.int .i64 (0)))⟩], false, []⟩
def Tryd.r_ref6_HasString_2 : LReg := ⟨[⟨(some 6), none, .mv (.t 5)⟩,
  ⟨(some 7), none, .mv (.t 0)⟩,
  ⟨(some 8), none, .len (.t 7)⟩,
  ⟨(some 9), none, .bin .lss (.t 6) (.t 8)⟩], false, []⟩
def Tryd.r_ref6_HasString_3 : LReg := ⟨[⟨(some 12), none, .mv (.t 0)⟩,
  ⟨(some 13), none, .mv (.t 5)⟩,
  ⟨(some 14), none, .idx 1 (.t 12) (.t 13)⟩,
  ⟨(some 15), none, .load 1 false (.t 14)⟩,
  ⟨(some 16), none, .mv (.t 1)⟩,
  ⟨(some 17), none, .bin .eql (.t 15) (.t 16)⟩], false, []⟩
def Tryd.r_ref6_HasString_4 : LReg := ⟨[⟨(some 4), none, .mv (.c (.bool true))⟩], false, []⟩
def Tryd.r_ref6_HasString_5 : LReg := ⟨[⟨(some 10), none, .mv (.t 5)⟩,
  ⟨(some 11), none, .bin .add (.t 10) (.c (.int .i64 (1)))⟩,
  ⟨(some 5), none, .mv (.t 11)⟩], false, []⟩
def Tryd.r_ref6_HasString_6 : LReg := ⟨[⟨(some 4), none, .mv (.c (.bool false))⟩], false, []⟩
def Tryd.l_ref6_HasString : LCode := (.seq (.reg Tryd.r_ref6_HasString_0) (.seq (.seq (.reg Tryd.r_ref6_HasString_1) (.block 0 (.loop (.seq (.seq (.reg Tryd.r_ref6_HasString_2) (.cond (.t 9) .skip (.exit 0))) (.seq (.block 1 (.seq (.reg Tryd.r_ref6_HasString_3) (.cond (.t 17) (.seq (.reg Tryd.r_ref6_HasString_4) .ret) .skip))) (.reg Tryd.r_ref6_HasString_5)))))) (.seq (.reg Tryd.r_ref6_HasString_6) .ret)))
theorem Tryd.c_ref6_HasString : fnComp Tryd.prog 89 = some (18, Tryd.l_ref6_HasString, [.t 4]) := by kernel_rfl
def Tryd.r_ref6_Restricted_0 : LReg := ⟨[⟨(some 2), none, .box 46 1 (.t 0)⟩,
  ⟨(some 4), none, .alloc 46 1 [.nils]⟩], false, []⟩
def Tryd.r_ref6_Restricted_1 : LReg := ⟨[⟨(some 5), none, .alloc 46 1 [.nils]⟩], false, []⟩
def Tryd.r_ref6_Restricted_2 : LReg := ⟨[⟨(some 6), none, .mv (.c (.int .i64 (0)))⟩], false, []⟩
def Tryd.r_ref6_Restricted_3 : LReg := ⟨[⟨(some 7), none, .mv (.t 6)⟩,
  ⟨(some 8), none, .fieldAddr 0 (.t 2)⟩,
  ⟨(some 9), none, .load 1 false (.t 8)⟩,
  ⟨(some 10), none, .len (.t 9)⟩,
  ⟨(some 11), none, .bin .lss (.t 7) (.t 10)⟩], false, []⟩
def Tryd.r_ref6_Restricted_4 : LReg := ⟨[⟨(some 14), none, .mv (.t 1)⟩,
  ⟨(some 15), none, .fieldAddr 0 (.t 2)⟩,
  ⟨(some 16), none, .load 1 false (.t 15)⟩,
  ⟨(some 17), none, .mv (.t 6)⟩,
  ⟨(some 18), none, .idx 2 (.t 16) (.t 17)⟩,
  ⟨(some 19), none, .fieldAddr 0 (.t 18)⟩,
  ⟨(some 20), none, .load 1 false (.t 19)⟩,
  ⟨(some 21), none, .call 89 [(.t 14), (.t 20)]⟩], false, []⟩
def Tryd.r_ref6_Restricted_5 : LReg := ⟨[⟨(some 22), none, .fieldAddr 0 (.t 5)⟩,
  ⟨(some 23), none, .load 1 false (.t 22)⟩,
  ⟨(some 24), none, .fieldAddr 0 (.t 2)⟩,
  ⟨(some 25), none, .load 1 false (.t 24)⟩,
  ⟨(some 26), none, .mv (.t 6)⟩,
  ⟨(some 27), none, .idx 2 (.t 25) (.t 26)⟩,
  ⟨(some 28), none, .load 2 true (.t 27)⟩,
  ⟨(some 29), none, .mkSlice 103 2 1 [.str [], .nils] [(0, (.t 28))]⟩,
  ⟨(some 30), none, .append 103 2 40 (.t 23) (.t 29)⟩,
  ⟨(some 31), none, .fieldAddr 0 (.t 5)⟩,
  ⟨none, none, .store 1 (.t 31) (.t 30)⟩], true, [(0, 2), (1, 2), (0, 3), (1, 3), (0, 5), (1, 5), (0, 6), (1, 6), (0, 7), (1, 7)]⟩
def Tryd.r_ref6_Restricted_6 : LReg := ⟨[⟨(some 12), none, .mv (.t 6)⟩,
  ⟨(some 13), none, .bin .add (.t 12) (.c (.int .i64 (1)))⟩,
  ⟨(some 6), none, .mv (.t 13)⟩], false, []⟩
def Tryd.r_ref6_Restricted_7 : LReg := ⟨[⟨(some 32), none, .load 1 true (.t 5)⟩,
  ⟨none, none, .store 1 (.t 4) (.t 32)⟩], false, []⟩
def Tryd.l_ref6_Restricted : LCode := (.seq (.reg Tryd.r_ref6_Restricted_0) (.seq (.reg Tryd.r_ref6_Restricted_1) (.seq (.seq (.reg Tryd.r_ref6_Restricted_2) (.block 0 (.loop (.seq (.seq (.reg Tryd.r_ref6_Restricted_3) (.cond (.t 11) .skip (.exit 0))) (.seq (.block 1 (.seq (.reg Tryd.r_ref6_Restricted_4) (.cond (.t 21) (.reg Tryd.r_ref6_Restricted_5) .skip))) (.reg Tryd.r_ref6_Restricted_6)))))) (.seq (.reg Tryd.r_ref6_Restricted_7) .ret))))
theorem Tryd.c_ref6_Restricted : fnComp Tryd.prog 47 = some (33, Tryd.l_ref6_Restricted, [.cell 4 1 true]) := by kernel_rfl
def Tryd.r_law6_BomOtherFilesDoNotMatter_0 : LReg := ⟨[⟨(some 3), none, .box 46 1 (.t 1)⟩,
  ⟨(some 4), none, .mv (.c (.bool false))⟩], false, []⟩
def Tryd.r_law6_BomOtherFilesDoNotMatter_1 : LReg := ⟨[⟨(some 10), none, .mv (.t 0)⟩,
  ⟨(some 11), none, .load 1 true (.t 3)⟩,
  ⟨(some 12), none, .call 42 [(.t 10), (.t 11)]⟩,
  ⟨(some 9), none, .mv (.t 12)⟩,
  ⟨(some 13), none, .extract 0 (.t 9)⟩,
  ⟨(some 14), none, .extract 1 (.t 9)⟩,
  ⟨(some 6), none, .alloc 25 2 [.int .i64 (0), .int .i64 (0)]⟩,
  ⟨(some 5), none, .mv (.t 13)⟩,
  ⟨none, none, .store 2 (.t 6) (.t 14)⟩], false, []⟩
def Tryd.r_law6_BomOtherFilesDoNotMatter_2 : LReg := ⟨[⟨(some 15), none, .call 35 []⟩,
  ⟨(some 16), none, .un .not (.t 15)⟩,
  ⟨(some 17), none, .mv (.t 16)⟩,
  ⟨(some 18), (some (17, false)), .fieldAddr 0 (.t 6)⟩,
  ⟨(some 19), (some (17, false)), .load 1 false (.t 18)⟩,
  ⟨(some 20), (some (17, false)), .bin .neq (.t 19) (.c (.int .i64 (0)))⟩,
  ⟨(some 21), none, .pick (.t 17) (.c (.bool true)) (.t 20)⟩], false, []⟩
def Tryd.r_law6_BomOtherFilesDoNotMatter_3 : LReg := ⟨[⟨(some 22), none, .call 35 []⟩,
  ⟨(some 23), none, .mv (.t 22)⟩,
  ⟨(some 24), (some (23, true)), .mv (.t 5)⟩,
  ⟨(some 25), (some (23, true)), .len (.t 24)⟩,
  ⟨(some 26), (some (23, true)), .bin .eql (.t 25) (.c (.int .i64 (0)))⟩,
  ⟨(some 27), none, .pick (.t 23) (.t 26) (.c (.bool false))⟩,
  ⟨(some 4), none, .mv (.t 27)⟩], false, []⟩
def Tryd.r_law6_BomOtherFilesDoNotMatter_4 : LReg := ⟨[⟨(some 29), none, .mv (.t 0)⟩,
  ⟨(some 30), none, .load 1 true (.t 3)⟩,
  ⟨(some 31), none, .mv (.t 0)⟩,
  ⟨(some 32), none, .call 47 [(.t 30), (.t 31)]⟩,
  ⟨(some 33), none, .call 42 [(.t 29), (.t 32)]⟩,
  ⟨(some 28), none, .mv (.t 33)⟩,
  ⟨(some 34), none, .extract 0 (.t 28)⟩,
  ⟨(some 35), none, .extract 1 (.t 28)⟩,
  ⟨(some 8), none, .alloc 25 2 [.int .i64 (0), .int .i64 (0)]⟩,
  ⟨(some 7), none, .mv (.t 34)⟩,
  ⟨none, none, .store 2 (.t 8) (.t 35)⟩], false, []⟩
def Tryd.r_law6_BomOtherFilesDoNotMatter_5 : LReg := ⟨[⟨(some 36), none, .fieldAddr 0 (.t 8)⟩,
  ⟨(some 37), none, .load 1 false (.t 36)⟩,
  ⟨(some 38), none, .bin .eql (.t 37) (.c (.int .i64 (0)))⟩,
  ⟨(some 39), none, .mv (.t 38)⟩,
  ⟨(some 40), (some (39, true)), .mv (.t 5)⟩,
  ⟨(some 41), (some (39, true)), .mv (.t 7)⟩,
  ⟨(some 42), (some (39, true)), .call 43 [(.t 40), (.t 41)]⟩,
  ⟨(some 43), none, .pick (.t 39) (.t 42) (.c (.bool false))⟩,
  ⟨(some 4), none, .mv (.t 43)⟩], false, []⟩
def Tryd.l_law6_BomOtherFilesDoNotMatter : LCode := (.seq (.reg Tryd.r_law6_BomOtherFilesDoNotMatter_0) (.seq (.reg Tryd.r_law6_BomOtherFilesDoNotMatter_1) (.seq (.seq (.reg Tryd.r_law6_BomOtherFilesDoNotMatter_2) (.cond (.t 21) (.seq (.reg Tryd.r_law6_BomOtherFilesDoNotMatter_3) .ret) .skip)) (.seq (.reg Tryd.r_law6_BomOtherFilesDoNotMatter_4) (.seq (.reg Tryd.r_law6_BomOtherFilesDoNotMatter_5) .ret)))))
theorem Tryd.c_law6_BomOtherFilesDoNotMatter : fnComp Tryd.prog 14 = some (44, Tryd.l_law6_BomOtherFilesDoNotMatter, [.t 4]) := by kernel_rfl
end Go.Proofs.YtlkknmhhefjmjaaDoor
