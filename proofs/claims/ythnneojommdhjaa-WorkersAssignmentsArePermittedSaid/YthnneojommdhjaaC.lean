/- The code of the functions, as the evaluator reads it. Laid by a program (wip/gen/dec.py). -/
import Derived.Test.YthnneojommdhjaaProg
import Derived.Test.YthnneojommdhjaaPwFam
import Derived.KernelRfl
namespace Go.Proofs.Ythnneojommdhjaa
open Go.PW Go
theorem hm : Try.prog.follows .mixedOrders = true := by kernel_rfl
/- 28 changeforge/workers.fill -/
def Try.r_workers_fill_0 : LReg := ⟨[⟨(some 4), none, .mv (.c (.nils))⟩], false, []⟩
def Try.r_workers_fill_1 : LReg := ⟨[⟨(some 7), none, .mv (.t 0)⟩,
  ⟨(some 8), none, .make 3 1 8 [.int .i64 (0)] (.t 7)⟩,
  ⟨(some 5), none, .mv (.t 8)⟩], false, []⟩
def Try.r_workers_fill_2 : LReg := ⟨[⟨(some 9), none, .mv (.t 5)⟩,
  ⟨(some 10), none, .len (.t 9)⟩,
  ⟨(some 11), none, .mv (.c (.int .i64 (0)))⟩], false, []⟩
def Try.r_workers_fill_3 : LReg := ⟨[⟨(some 12), none, .bin .lss (.t 11) (.t 10)⟩], false, []⟩
def Try.r_workers_fill_4 : LReg := ⟨[⟨(some 13), none, .mv (.t 11)⟩,
  ⟨(some 6), none, .mv (.t 13)⟩], false, []⟩
def Try.r_workers_fill_5 : LReg := ⟨[⟨(some 14), none, .mv (.t 5)⟩,
  ⟨(some 15), none, .mv (.t 6)⟩,
  ⟨(some 16), none, .mv (.t 1)⟩,
  ⟨(some 17), none, .idx 1 (.t 14) (.t 15)⟩,
  ⟨none, none, .store 1 (.t 17) (.t 16)⟩], false, []⟩
def Try.r_workers_fill_6 : LReg := ⟨[⟨(some 18), none, .bin .add (.t 11) (.c (.int .i64 (1)))⟩,
  ⟨(some 11), none, .mv (.t 18)⟩], false, []⟩
def Try.r_workers_fill_7 : LReg := ⟨[⟨(some 19), none, .mv (.t 5)⟩,
  ⟨(some 4), none, .mv (.t 19)⟩], false, []⟩
def Try.l_workers_fill : LCode := (.seq (.reg Try.r_workers_fill_0) (.seq (.reg Try.r_workers_fill_1) (.seq (.seq (.reg Try.r_workers_fill_2) (.block 0 (.loop (.seq (.reg Try.r_workers_fill_3) (.seq (.cond (.t 12) .skip (.exit 0)) (.seq (.block 1 (.seq (.reg Try.r_workers_fill_4) (.reg Try.r_workers_fill_5))) (.reg Try.r_workers_fill_6))))))) (.seq (.reg Try.r_workers_fill_7) .ret))))
theorem Try.c_workers_fill : fnComp Try.prog 28 = some (20, Try.l_workers_fill, [.t 4]) := by kernel_rfl

/- 30 (*changeforge/workers.farm).form -/
def Try.r_workers_farm_form_0 : LReg := ⟨[⟨(some 3), none, .box 44 4 (.t 1)⟩,
  ⟨(some 4), none, .mv (.c (.int .i64 (0)))⟩], false, []⟩
def Try.r_workers_farm_form_1 : LReg := ⟨[⟨(some 7), none, .fieldAddr 0 (.t 3)⟩,
  ⟨(some 8), none, .load 1 false (.t 7)⟩,
  ⟨(some 9), none, .bin .eql (.t 8) (.c (.int .i64 (1)))⟩,
  ⟨(some 10), none, .fieldAddr 0 (.t 3)⟩,
  ⟨(some 11), none, .load 1 false (.t 10)⟩,
  ⟨(some 12), none, .bin .eql (.t 11) (.c (.int .i64 (2)))⟩,
  ⟨(some 5), none, .mv (.t 9)⟩,
  ⟨(some 6), none, .mv (.t 12)⟩], true, [(0, 3), (1, 3), (0, 4), (1, 4)]⟩
def Try.r_workers_farm_form_2 : LReg := ⟨[⟨(some 14), none, .fieldAddr 0 (.t 3)⟩,
  ⟨(some 15), none, .load 1 false (.t 14)⟩,
  ⟨(some 16), none, .bin .lss (.t 15) (.c (.int .i64 (1)))⟩,
  ⟨(some 17), none, .mv (.t 16)⟩,
  ⟨(some 18), (some (17, false)), .fieldAddr 0 (.t 3)⟩,
  ⟨(some 19), (some (17, false)), .load 1 false (.t 18)⟩,
  ⟨(some 20), (some (17, false)), .bin .gtr (.t 19) (.c (.int .i64 (4)))⟩,
  ⟨(some 21), none, .pick (.t 17) (.c (.bool true)) (.t 20)⟩,
  ⟨(some 13), none, .mv (.t 21)⟩], false, []⟩
def Try.r_workers_farm_form_3 : LReg := ⟨[⟨(some 4), none, .mv (.c (.int .i64 (4)))⟩], false, []⟩
def Try.r_workers_farm_form_4 : LReg := ⟨[⟨(some 23), none, .fieldAddr 1 (.t 3)⟩,
  ⟨(some 24), none, .load 1 false (.t 23)⟩,
  ⟨(some 25), none, .bin .lss (.t 24) (.c (.int .i64 (0)))⟩,
  ⟨(some 26), none, .mv (.t 25)⟩,
  ⟨(some 27), (some (26, false)), .fieldAddr 1 (.t 3)⟩,
  ⟨(some 28), (some (26, false)), .load 1 false (.t 27)⟩,
  ⟨(some 29), (some (26, false)), .mv (.t 0)⟩,
  ⟨(some 30), (some (26, false)), .nilCheck (.t 29)⟩,
  ⟨(some 31), (some (26, false)), .fieldAddr 1 (.t 30)⟩,
  ⟨(some 32), (some (26, false)), .load 1 false (.t 31)⟩,
  ⟨(some 33), (some (26, false)), .len (.t 32)⟩,
  ⟨(some 34), (some (26, false)), .bin .geq (.t 28) (.t 33)⟩,
  ⟨(some 35), none, .pick (.t 26) (.c (.bool true)) (.t 34)⟩,
  ⟨(some 22), none, .mv (.t 35)⟩], true, [(4, 7), (5, 7), (4, 8), (5, 8), (4, 9), (5, 9), (4, 10), (5, 10)]⟩
def Try.r_workers_farm_form_5 : LReg := ⟨[⟨(some 4), none, .mv (.c (.int .i64 (3)))⟩], false, []⟩
def Try.r_workers_farm_form_6 : LReg := ⟨[⟨(some 37), none, .mv (.t 5)⟩,
  ⟨(some 38), none, .un .not (.t 37)⟩,
  ⟨(some 39), none, .mv (.t 38)⟩,
  ⟨(some 40), (some (39, true)), .fieldAddr 2 (.t 3)⟩,
  ⟨(some 41), (some (39, true)), .load 1 false (.t 40)⟩,
  ⟨(some 42), (some (39, true)), .bin .neq (.t 41) (.c (.int .i64 (0)))⟩,
  ⟨(some 43), none, .pick (.t 39) (.t 42) (.c (.bool false))⟩,
  ⟨(some 44), none, .mv (.t 43)⟩,
  ⟨(some 45), (some (44, false)), .mv (.t 6)⟩,
  ⟨(some 46), (some (44, false)), .un .not (.t 45)⟩,
  ⟨(some 47), (some (44, false)), .mv (.t 46)⟩,
  ⟨(some 48), (some (47, true)), .fieldAddr 3 (.t 3)⟩,
  ⟨(some 49), (some (47, true)), .load 1 false (.t 48)⟩,
  ⟨(some 50), (some (47, true)), .bin .neq (.t 49) (.c (.int .i64 (0)))⟩,
  ⟨(some 51), (some (44, false)), .pick (.t 47) (.t 50) (.c (.bool false))⟩,
  ⟨(some 52), none, .pick (.t 44) (.c (.bool true)) (.t 51)⟩,
  ⟨(some 36), none, .mv (.t 52)⟩], false, []⟩
def Try.r_workers_farm_form_7 : LReg := ⟨[⟨(some 4), none, .mv (.c (.int .i64 (5)))⟩], false, []⟩
def Try.r_workers_farm_form_8 : LReg := ⟨[⟨(some 54), none, .mv (.t 5)⟩,
  ⟨(some 55), none, .mv (.t 54)⟩,
  ⟨(some 56), (some (55, true)), .fieldAddr 2 (.t 3)⟩,
  ⟨(some 57), (some (55, true)), .load 1 false (.t 56)⟩,
  ⟨(some 58), (some (55, true)), .bin .lss (.t 57) (.c (.int .i64 (0)))⟩,
  ⟨(some 59), (some (55, true)), .mv (.t 58)⟩,
  ⟨(some 60), (some (59, false)), .fieldAddr 2 (.t 3)⟩,
  ⟨(some 61), (some (59, false)), .load 1 false (.t 60)⟩,
  ⟨(some 62), (some (59, false)), .mv (.t 0)⟩,
  ⟨(some 63), (some (59, false)), .nilCheck (.t 62)⟩,
  ⟨(some 64), (some (59, false)), .fieldAddr 3 (.t 63)⟩,
  ⟨(some 65), (some (59, false)), .load 1 false (.t 64)⟩,
  ⟨(some 66), (some (59, false)), .len (.t 65)⟩,
  ⟨(some 67), (some (59, false)), .bin .geq (.t 61) (.t 66)⟩,
  ⟨(some 68), (some (55, true)), .pick (.t 59) (.c (.bool true)) (.t 67)⟩,
  ⟨(some 69), none, .pick (.t 55) (.t 68) (.c (.bool false))⟩,
  ⟨(some 70), none, .mv (.t 69)⟩,
  ⟨(some 71), (some (70, false)), .mv (.t 6)⟩,
  ⟨(some 72), (some (70, false)), .mv (.t 71)⟩,
  ⟨(some 73), (some (72, true)), .fieldAddr 3 (.t 3)⟩,
  ⟨(some 74), (some (72, true)), .load 1 false (.t 73)⟩,
  ⟨(some 75), (some (72, true)), .bin .lss (.t 74) (.c (.int .i64 (0)))⟩,
  ⟨(some 76), (some (72, true)), .mv (.t 75)⟩,
  ⟨(some 77), (some (76, false)), .fieldAddr 3 (.t 3)⟩,
  ⟨(some 78), (some (76, false)), .load 1 false (.t 77)⟩,
  ⟨(some 79), (some (76, false)), .bin .gtr (.t 78) (.c (.int .i64 (1000000000)))⟩,
  ⟨(some 80), (some (72, true)), .pick (.t 76) (.c (.bool true)) (.t 79)⟩,
  ⟨(some 81), (some (70, false)), .pick (.t 72) (.t 80) (.c (.bool false))⟩,
  ⟨(some 82), none, .pick (.t 70) (.c (.bool true)) (.t 81)⟩,
  ⟨(some 53), none, .mv (.t 82)⟩], true, [(6, 9), (7, 9), (6, 10), (7, 10), (6, 11), (7, 11), (6, 12), (7, 12)]⟩
def Try.r_workers_farm_form_9 : LReg := ⟨[⟨(some 4), none, .mv (.c (.int .i64 (3)))⟩], false, []⟩
def Try.r_workers_farm_form_10 : LReg := ⟨[⟨(some 4), none, .mv (.c (.int .i64 (0)))⟩], false, []⟩
def Try.l_workers_farm_form : LCode := (.seq (.reg Try.r_workers_farm_form_0) (.seq (.reg Try.r_workers_farm_form_1) (.seq (.block 0 (.seq (.reg Try.r_workers_farm_form_2) (.cond (.t 13) (.seq (.reg Try.r_workers_farm_form_3) .ret) (.seq (.reg Try.r_workers_farm_form_4) (.cond (.t 22) (.seq (.reg Try.r_workers_farm_form_5) .ret) (.seq (.reg Try.r_workers_farm_form_6) (.cond (.t 36) (.seq (.reg Try.r_workers_farm_form_7) .ret) (.seq (.reg Try.r_workers_farm_form_8) (.cond (.t 53) (.seq (.reg Try.r_workers_farm_form_9) .ret) .skip))))))))) (.seq (.reg Try.r_workers_farm_form_10) .ret))))
theorem Try.c_workers_farm_form : fnComp Try.prog 30 = some (83, Try.l_workers_farm_form, [.t 4]) := by kernel_rfl

/- 31 (*changeforge/workers.farm).accept -/
def Try.r_workers_farm_accept_0 : LReg := ⟨[⟨(some 6), none, .mv (.c (.int .i64 (0)))⟩], false, []⟩
def Try.r_workers_farm_accept_1 : LReg := ⟨[⟨(some 9), none, .mv (.t 0)⟩,
  ⟨(some 10), none, .nilCheck (.t 9)⟩,
  ⟨(some 11), none, .fieldAddr 2 (.t 10)⟩,
  ⟨(some 12), none, .load 1 false (.t 11)⟩,
  ⟨(some 13), none, .mv (.t 1)⟩,
  ⟨(some 14), none, .idx 1 (.t 12) (.t 13)⟩,
  ⟨(some 15), none, .load 1 false (.t 14)⟩,
  ⟨(some 16), none, .len (.t 15)⟩,
  ⟨(some 17), none, .mv (.c (.int .i64 (0)))⟩], false, []⟩
def Try.r_workers_farm_accept_2 : LReg := ⟨[⟨(some 18), none, .bin .lss (.t 17) (.t 16)⟩], false, []⟩
def Try.r_workers_farm_accept_3 : LReg := ⟨[⟨(some 19), none, .idx 1 (.t 15) (.t 17)⟩,
  ⟨(some 20), none, .load 1 false (.t 19)⟩,
  ⟨(some 8), none, .mv (.t 20)⟩], false, []⟩
def Try.r_workers_farm_accept_4 : LReg := ⟨[⟨(some 21), none, .mv (.t 8)⟩,
  ⟨(some 22), none, .mv (.t 2)⟩,
  ⟨(some 23), none, .bin .eql (.t 21) (.t 22)⟩], false, []⟩
def Try.r_workers_farm_accept_5 : LReg := ⟨[⟨(some 24), none, .mv (.t 6)⟩,
  ⟨(some 25), none, .bin .add (.t 24) (.c (.int .i64 (1)))⟩,
  ⟨(some 6), none, .mv (.t 25)⟩], false, []⟩
def Try.r_workers_farm_accept_6 : LReg := ⟨[⟨(some 26), none, .bin .add (.t 17) (.c (.int .i64 (1)))⟩,
  ⟨(some 17), none, .mv (.t 26)⟩], false, []⟩
def Try.r_workers_farm_accept_7 : LReg := ⟨[⟨(some 27), none, .mv (.t 6)⟩,
  ⟨(some 28), none, .mv (.t 0)⟩,
  ⟨(some 29), none, .nilCheck (.t 28)⟩,
  ⟨(some 30), none, .fieldAddr 0 (.t 29)⟩,
  ⟨(some 31), none, .load 1 false (.t 30)⟩,
  ⟨(some 32), none, .bin .geq (.t 27) (.t 31)⟩,
  ⟨(some 33), none, .mv (.t 32)⟩,
  ⟨(some 34), (some (33, true)), .mv (.t 0)⟩,
  ⟨(some 35), (some (33, true)), .nilCheck (.t 34)⟩,
  ⟨(some 36), (some (33, true)), .fieldAddr 3 (.t 35)⟩,
  ⟨(some 37), (some (33, true)), .load 1 false (.t 36)⟩,
  ⟨(some 38), (some (33, true)), .mv (.t 1)⟩,
  ⟨(some 39), (some (33, true)), .idx 1 (.t 37) (.t 38)⟩,
  ⟨(some 40), (some (33, true)), .load 1 false (.t 39)⟩,
  ⟨(some 41), (some (33, true)), .bin .lss (.t 40) (.c (.int .i64 (0)))⟩,
  ⟨(some 42), none, .pick (.t 33) (.t 41) (.c (.bool false))⟩], false, []⟩
def Try.r_workers_farm_accept_8 : LReg := ⟨[⟨(some 43), none, .mv (.t 0)⟩,
  ⟨(some 44), none, .nilCheck (.t 43)⟩,
  ⟨(some 45), none, .fieldAddr 3 (.t 44)⟩,
  ⟨(some 46), none, .load 1 false (.t 45)⟩,
  ⟨(some 47), none, .mv (.t 1)⟩,
  ⟨(some 48), none, .mv (.t 2)⟩,
  ⟨(some 49), none, .idx 1 (.t 46) (.t 47)⟩,
  ⟨none, none, .store 1 (.t 49) (.t 48)⟩], false, []⟩
def Try.l_workers_farm_accept : LCode := (.seq (.reg Try.r_workers_farm_accept_0) (.seq (.seq (.reg Try.r_workers_farm_accept_1) (.block 0 (.loop (.seq (.reg Try.r_workers_farm_accept_2) (.seq (.cond (.t 18) .skip (.exit 0)) (.seq (.block 1 (.seq (.reg Try.r_workers_farm_accept_3) (.seq (.reg Try.r_workers_farm_accept_4) (.cond (.t 23) (.reg Try.r_workers_farm_accept_5) .skip)))) (.reg Try.r_workers_farm_accept_6))))))) (.seq (.reg Try.r_workers_farm_accept_7) (.cond (.t 42) (.reg Try.r_workers_farm_accept_8) .skip))))
theorem Try.c_workers_farm_accept : fnComp Try.prog 31 = some (50, Try.l_workers_farm_accept, []) := by kernel_rfl

/- 29 (*changeforge/workers.farm).step -/
def Try.r_workers_farm_step_0 : LReg := ⟨[⟨(some 3), none, .box 44 4 (.t 1)⟩,
  ⟨(some 4), none, .mv (.c (.int .i64 (0)))⟩], false, []⟩
def Try.r_workers_farm_step_1 : LReg := ⟨[⟨(some 8), none, .mv (.t 0)⟩,
  ⟨(some 9), none, .load 4 true (.t 3)⟩,
  ⟨(some 10), none, .call 30 [(.t 8), (.t 9)]⟩,
  ⟨(some 5), none, .mv (.t 10)⟩], false, []⟩
def Try.r_workers_farm_step_2 : LReg := ⟨[⟨(some 11), none, .mv (.t 5)⟩,
  ⟨(some 12), none, .bin .neq (.t 11) (.c (.int .i64 (0)))⟩], false, []⟩
def Try.r_workers_farm_step_3 : LReg := ⟨[⟨(some 13), none, .mv (.t 5)⟩,
  ⟨(some 4), none, .mv (.t 13)⟩], false, []⟩
def Try.r_workers_farm_step_4 : LReg := ⟨[⟨(some 14), none, .mv (.t 0)⟩,
  ⟨(some 15), none, .nilCheck (.t 14)⟩,
  ⟨(some 16), none, .fieldAddr 1 (.t 15)⟩,
  ⟨(some 17), none, .load 1 false (.t 16)⟩,
  ⟨(some 18), none, .fieldAddr 1 (.t 3)⟩,
  ⟨(some 19), none, .load 1 false (.t 18)⟩,
  ⟨(some 20), none, .idx 1 (.t 17) (.t 19)⟩,
  ⟨(some 6), none, .mv (.t 20)⟩], true, [(1, 4), (2, 4), (3, 4), (1, 5), (2, 5), (3, 5)]⟩
def Try.r_workers_farm_step_5 : LReg := ⟨[⟨(some 21), none, .fieldAddr 0 (.t 3)⟩,
  ⟨(some 22), none, .load 1 false (.t 21)⟩], false, []⟩
def Try.r_workers_farm_step_6 : LReg := ⟨[⟨(some 30), none, .bin .eql (.t 22) (.c (.int .i64 (1)))⟩,
  ⟨(some 29), none, .mv (.t 30)⟩], false, []⟩
def Try.r_workers_farm_step_7 : LReg := ⟨[⟨(some 31), none, .mv (.t 6)⟩,
  ⟨(some 32), none, .nilCheck (.t 31)⟩,
  ⟨(some 33), none, .load 1 false (.t 32)⟩,
  ⟨(some 34), none, .bin .neq (.t 33) (.c (.int .i64 (-1)))⟩], false, []⟩
def Try.r_workers_farm_step_8 : LReg := ⟨[⟨(some 4), none, .mv (.c (.int .i64 (11)))⟩], false, []⟩
def Try.r_workers_farm_step_9 : LReg := ⟨[⟨(some 35), none, .mv (.t 0)⟩,
  ⟨(some 36), none, .nilCheck (.t 35)⟩,
  ⟨(some 37), none, .fieldAddr 2 (.t 36)⟩,
  ⟨(some 38), none, .load 1 false (.t 37)⟩,
  ⟨(some 39), none, .fieldAddr 2 (.t 3)⟩,
  ⟨(some 40), none, .load 1 false (.t 39)⟩,
  ⟨(some 41), none, .idx 1 (.t 38) (.t 40)⟩,
  ⟨(some 42), none, .load 1 false (.t 41)⟩,
  ⟨(some 43), none, .fieldAddr 1 (.t 3)⟩,
  ⟨(some 44), none, .load 1 false (.t 43)⟩,
  ⟨(some 45), none, .idx 1 (.t 42) (.t 44)⟩,
  ⟨(some 46), none, .load 1 false (.t 45)⟩,
  ⟨(some 47), none, .bin .geq (.t 46) (.c (.int .i64 (0)))⟩], true, [(1, 4), (2, 4), (3, 4), (1, 5), (2, 5), (3, 5), (1, 8), (2, 8), (3, 8), (4, 8), (5, 8), (6, 8), (7, 8), (1, 9), (2, 9), (3, 9), (4, 9), (5, 9), (6, 9), (7, 9)]⟩
def Try.r_workers_farm_step_10 : LReg := ⟨[⟨(some 4), none, .mv (.c (.int .i64 (7)))⟩], false, []⟩
def Try.r_workers_farm_step_11 : LReg := ⟨[⟨(some 48), none, .mv (.t 6)⟩,
  ⟨(some 49), none, .fieldAddr 2 (.t 3)⟩,
  ⟨(some 50), none, .load 1 false (.t 49)⟩,
  ⟨(some 51), none, .nilCheck (.t 48)⟩,
  ⟨none, none, .store 1 (.t 51) (.t 50)⟩], false, []⟩
def Try.r_workers_farm_step_12 : LReg := ⟨[⟨(some 53), none, .bin .eql (.t 22) (.c (.int .i64 (2)))⟩,
  ⟨(some 52), none, .mv (.t 53)⟩], false, []⟩
def Try.r_workers_farm_step_13 : LReg := ⟨[⟨(some 54), none, .mv (.t 6)⟩,
  ⟨(some 55), none, .nilCheck (.t 54)⟩,
  ⟨(some 56), none, .load 1 false (.t 55)⟩,
  ⟨(some 57), none, .bin .lss (.t 56) (.c (.int .i64 (0)))⟩], false, []⟩
def Try.r_workers_farm_step_14 : LReg := ⟨[⟨(some 4), none, .mv (.c (.int .i64 (11)))⟩], false, []⟩
def Try.r_workers_farm_step_15 : LReg := ⟨[⟨(some 58), none, .mv (.t 6)⟩,
  ⟨(some 59), none, .nilCheck (.t 58)⟩,
  ⟨(some 60), none, .load 1 false (.t 59)⟩,
  ⟨(some 7), none, .mv (.t 60)⟩], false, []⟩
def Try.r_workers_farm_step_16 : LReg := ⟨[⟨(some 61), none, .mv (.t 0)⟩,
  ⟨(some 62), none, .nilCheck (.t 61)⟩,
  ⟨(some 63), none, .fieldAddr 2 (.t 62)⟩,
  ⟨(some 64), none, .load 1 false (.t 63)⟩,
  ⟨(some 65), none, .mv (.t 7)⟩,
  ⟨(some 66), none, .idx 1 (.t 64) (.t 65)⟩,
  ⟨(some 67), none, .load 1 false (.t 66)⟩,
  ⟨(some 68), none, .fieldAddr 1 (.t 3)⟩,
  ⟨(some 69), none, .load 1 false (.t 68)⟩,
  ⟨(some 70), none, .fieldAddr 3 (.t 3)⟩,
  ⟨(some 71), none, .load 1 false (.t 70)⟩,
  ⟨(some 72), none, .idx 1 (.t 67) (.t 69)⟩,
  ⟨none, none, .store 1 (.t 72) (.t 71)⟩], true, [(1, 7), (2, 7), (3, 7), (5, 7), (6, 7), (1, 8), (2, 8), (3, 8), (5, 8), (6, 8), (1, 9), (2, 9), (3, 9), (5, 9), (6, 9), (7, 9), (8, 9), (1, 10), (2, 10), (3, 10), (5, 10), (6, 10), (7, 10), (8, 10)]⟩
def Try.r_workers_farm_step_17 : LReg := ⟨[⟨(some 73), none, .mv (.t 6)⟩,
  ⟨(some 74), none, .nilCheck (.t 73)⟩,
  ⟨none, none, .store 1 (.t 74) (.c (.int .i64 (-1)))⟩], false, []⟩
def Try.r_workers_farm_step_18 : LReg := ⟨[⟨(some 75), none, .mv (.t 0)⟩,
  ⟨(some 76), none, .mv (.t 7)⟩,
  ⟨(some 77), none, .fieldAddr 3 (.t 3)⟩,
  ⟨(some 78), none, .load 1 false (.t 77)⟩,
  ⟨(some 79), none, .call 31 [(.t 75), (.t 76), (.t 78)]⟩], false, []⟩
def Try.r_workers_farm_step_19 : LReg := ⟨[⟨(some 81), none, .bin .eql (.t 22) (.c (.int .i64 (3)))⟩,
  ⟨(some 80), none, .mv (.t 81)⟩], false, []⟩
def Try.r_workers_farm_step_20 : LReg := ⟨[⟨(some 82), none, .mv (.t 6)⟩,
  ⟨(some 83), none, .nilCheck (.t 82)⟩,
  ⟨(some 84), none, .load 1 false (.t 83)⟩,
  ⟨(some 85), none, .bin .eql (.t 84) (.c (.int .i64 (-2)))⟩], false, []⟩
def Try.r_workers_farm_step_21 : LReg := ⟨[⟨(some 4), none, .mv (.c (.int .i64 (11)))⟩], false, []⟩
def Try.r_workers_farm_step_22 : LReg := ⟨[⟨(some 86), none, .mv (.t 6)⟩,
  ⟨(some 87), none, .nilCheck (.t 86)⟩,
  ⟨none, none, .store 1 (.t 87) (.c (.int .i64 (-2)))⟩], false, []⟩
def Try.r_workers_farm_step_23 : LReg := ⟨[⟨(some 23), none, .mv (.t 6)⟩,
  ⟨(some 24), none, .nilCheck (.t 23)⟩,
  ⟨(some 25), none, .load 1 false (.t 24)⟩,
  ⟨(some 26), none, .bin .neq (.t 25) (.c (.int .i64 (-2)))⟩], false, []⟩
def Try.r_workers_farm_step_24 : LReg := ⟨[⟨(some 4), none, .mv (.c (.int .i64 (11)))⟩], false, []⟩
def Try.r_workers_farm_step_25 : LReg := ⟨[⟨(some 27), none, .mv (.t 6)⟩,
  ⟨(some 28), none, .nilCheck (.t 27)⟩,
  ⟨none, none, .store 1 (.t 28) (.c (.int .i64 (-1)))⟩], false, []⟩
def Try.r_workers_farm_step_26 : LReg := ⟨[⟨(some 4), none, .mv (.c (.int .i64 (0)))⟩], false, []⟩
def Try.l_workers_farm_step : LCode := (.seq (.reg Try.r_workers_farm_step_0) (.seq (.seq (.reg Try.r_workers_farm_step_1) (.seq (.reg Try.r_workers_farm_step_2) (.cond (.t 12) (.seq (.reg Try.r_workers_farm_step_3) .ret) .skip))) (.seq (.reg Try.r_workers_farm_step_4) (.seq (.seq (.reg Try.r_workers_farm_step_5) (.block 0 (.seq (.reg Try.r_workers_farm_step_6) (.cond (.t 29) (.seq (.seq (.reg Try.r_workers_farm_step_7) (.cond (.t 34) (.seq (.reg Try.r_workers_farm_step_8) .ret) .skip)) (.seq (.seq (.reg Try.r_workers_farm_step_9) (.cond (.t 47) (.seq (.reg Try.r_workers_farm_step_10) .ret) .skip)) (.reg Try.r_workers_farm_step_11))) (.seq (.reg Try.r_workers_farm_step_12) (.cond (.t 52) (.seq (.seq (.reg Try.r_workers_farm_step_13) (.cond (.t 57) (.seq (.reg Try.r_workers_farm_step_14) .ret) .skip)) (.seq (.reg Try.r_workers_farm_step_15) (.seq (.reg Try.r_workers_farm_step_16) (.seq (.reg Try.r_workers_farm_step_17) (.reg Try.r_workers_farm_step_18))))) (.seq (.reg Try.r_workers_farm_step_19) (.cond (.t 80) (.seq (.seq (.reg Try.r_workers_farm_step_20) (.cond (.t 85) (.seq (.reg Try.r_workers_farm_step_21) .ret) .skip)) (.reg Try.r_workers_farm_step_22)) (.seq (.seq (.reg Try.r_workers_farm_step_23) (.cond (.t 26) (.seq (.reg Try.r_workers_farm_step_24) .ret) .skip)) (.reg Try.r_workers_farm_step_25)))))))))) (.seq (.reg Try.r_workers_farm_step_26) .ret)))))
theorem Try.c_workers_farm_step : fnComp Try.prog 29 = some (88, Try.l_workers_farm_step, [.t 4]) := by kernel_rfl

/- 26 changeforge/workers.play -/
def Try.r_workers_play_0 : LReg := ⟨[⟨(some 8), none, .mv (.c (.pnil))⟩,
  ⟨(some 9), none, .alloc 25 2 [.int .i64 (0), .int .i64 (0)]⟩], false, []⟩
def Try.r_workers_play_1 : LReg := ⟨[⟨(some 14), none, .mv (.t 0)⟩,
  ⟨(some 15), none, .bin .lss (.t 14) (.c (.int .i64 (0)))⟩,
  ⟨(some 16), none, .mv (.t 15)⟩,
  ⟨(some 17), (some (16, false)), .mv (.t 0)⟩,
  ⟨(some 18), (some (16, false)), .bin .gtr (.t 17) (.c (.int .i64 (12)))⟩,
  ⟨(some 19), none, .pick (.t 16) (.c (.bool true)) (.t 18)⟩,
  ⟨(some 20), none, .mv (.t 19)⟩,
  ⟨(some 21), (some (20, false)), .mv (.t 1)⟩,
  ⟨(some 22), (some (20, false)), .bin .lss (.t 21) (.c (.int .i64 (1)))⟩,
  ⟨(some 23), none, .pick (.t 20) (.c (.bool true)) (.t 22)⟩,
  ⟨(some 24), none, .mv (.t 23)⟩,
  ⟨(some 25), (some (24, false)), .mv (.t 1)⟩,
  ⟨(some 26), (some (24, false)), .bin .gtr (.t 25) (.c (.int .i64 (8)))⟩,
  ⟨(some 27), none, .pick (.t 24) (.c (.bool true)) (.t 26)⟩,
  ⟨(some 28), none, .mv (.t 27)⟩,
  ⟨(some 29), (some (28, false)), .mv (.t 2)⟩,
  ⟨(some 30), (some (28, false)), .bin .lss (.t 29) (.c (.int .i64 (1)))⟩,
  ⟨(some 31), none, .pick (.t 28) (.c (.bool true)) (.t 30)⟩,
  ⟨(some 32), none, .mv (.t 31)⟩,
  ⟨(some 33), (some (32, false)), .mv (.t 2)⟩,
  ⟨(some 34), (some (32, false)), .mv (.t 1)⟩,
  ⟨(some 35), (some (32, false)), .bin .gtr (.t 33) (.t 34)⟩,
  ⟨(some 36), none, .pick (.t 32) (.c (.bool true)) (.t 35)⟩], false, []⟩
def Try.r_workers_play_2 : LReg := ⟨[⟨(some 37), none, .build [.int .i64 (0), .int .i64 (0)] [(0, 1, (.c (.int .i64 (3)))), (1, 1, (.c (.int .i64 (-1))))]⟩,
  ⟨(some 8), none, .mv (.c (.pnil))⟩,
  ⟨none, none, .store 2 (.t 9) (.t 37)⟩], false, []⟩
def Try.r_workers_play_3 : LReg := ⟨[⟨(some 38), none, .mv (.t 3)⟩,
  ⟨(some 39), none, .len (.t 38)⟩,
  ⟨(some 40), none, .bin .gtr (.t 39) (.c (.int .i64 (40)))⟩], false, []⟩
def Try.r_workers_play_4 : LReg := ⟨[⟨(some 41), none, .build [.int .i64 (0), .int .i64 (0)] [(0, 1, (.c (.int .i64 (2)))), (1, 1, (.c (.int .i64 (-1))))]⟩,
  ⟨(some 8), none, .mv (.c (.pnil))⟩,
  ⟨none, none, .store 2 (.t 9) (.t 41)⟩], false, []⟩
def Try.r_workers_play_5 : LReg := ⟨[⟨(some 42), none, .mv (.t 2)⟩,
  ⟨(some 43), none, .mv (.t 1)⟩,
  ⟨(some 44), none, .call 28 [(.t 43), (.c (.int .i64 (-1)))]⟩,
  ⟨(some 45), none, .mv (.t 0)⟩,
  ⟨(some 46), none, .call 28 [(.t 45), (.c (.int .i64 (-1)))]⟩,
  ⟨(some 47), none, .build [.int .i64 (0), .nils, .nils, .nils] [(0, 1, (.t 42)), (1, 1, (.t 44)), (3, 1, (.t 46))]⟩,
  ⟨(some 48), none, .box 55 4 (.t 47)⟩,
  ⟨(some 10), none, .mv (.t 48)⟩], false, []⟩
def Try.r_workers_play_6 : LReg := ⟨[⟨(some 49), none, .mv (.t 0)⟩,
  ⟨(some 50), none, .mv (.c (.int .i64 (0)))⟩], false, []⟩
def Try.r_workers_play_7 : LReg := ⟨[⟨(some 51), none, .bin .lss (.t 50) (.t 49)⟩], false, []⟩
def Try.r_workers_play_8 : LReg := ⟨[⟨(some 52), none, .mv (.t 10)⟩,
  ⟨(some 53), none, .mv (.t 10)⟩,
  ⟨(some 54), none, .nilCheck (.t 53)⟩,
  ⟨(some 55), none, .fieldAddr 2 (.t 54)⟩,
  ⟨(some 56), none, .load 1 false (.t 55)⟩,
  ⟨(some 57), none, .mv (.t 1)⟩,
  ⟨(some 58), none, .call 28 [(.t 57), (.c (.int .i64 (-1)))]⟩,
  ⟨(some 59), none, .mkSlice 27 1 1 [.nils] [(0, (.t 58))]⟩,
  ⟨(some 60), none, .append 27 1 24 (.t 56) (.t 59)⟩,
  ⟨(some 61), none, .nilCheck (.t 52)⟩,
  ⟨(some 62), none, .fieldAddr 2 (.t 61)⟩,
  ⟨none, none, .store 1 (.t 62) (.t 60)⟩], true, [(2, 6), (3, 6), (4, 6), (2, 7), (3, 7), (4, 7)]⟩
def Try.r_workers_play_9 : LReg := ⟨[⟨(some 63), none, .bin .add (.t 50) (.c (.int .i64 (1)))⟩,
  ⟨(some 50), none, .mv (.t 63)⟩], false, []⟩
def Try.r_workers_play_10 : LReg := ⟨[⟨(some 64), none, .mv (.t 3)⟩,
  ⟨(some 65), none, .len (.t 64)⟩,
  ⟨(some 66), none, .mv (.c (.int .i64 (0)))⟩], false, []⟩
def Try.r_workers_play_11 : LReg := ⟨[⟨(some 67), none, .bin .lss (.t 66) (.t 65)⟩], false, []⟩
def Try.r_workers_play_12 : LReg := ⟨[⟨(some 68), none, .mv (.t 66)⟩,
  ⟨(some 69), none, .idx 4 (.t 64) (.t 66)⟩,
  ⟨(some 70), none, .load 4 true (.t 69)⟩,
  ⟨(some 12), none, .alloc 44 4 [.int .i64 (0), .int .i64 (0), .int .i64 (0), .int .i64 (0)]⟩,
  ⟨(some 11), none, .mv (.t 68)⟩,
  ⟨none, none, .store 4 (.t 12) (.t 70)⟩], false, []⟩
def Try.r_workers_play_13 : LReg := ⟨[⟨(some 71), none, .mv (.t 10)⟩,
  ⟨(some 72), none, .load 4 true (.t 12)⟩,
  ⟨(some 73), none, .call 29 [(.t 71), (.t 72)]⟩,
  ⟨(some 13), none, .mv (.t 73)⟩], false, []⟩
def Try.r_workers_play_14 : LReg := ⟨[⟨(some 74), none, .mv (.t 13)⟩,
  ⟨(some 75), none, .bin .neq (.t 74) (.c (.int .i64 (0)))⟩], false, []⟩
def Try.r_workers_play_15 : LReg := ⟨[⟨(some 76), none, .mv (.t 13)⟩,
  ⟨(some 77), none, .mv (.t 11)⟩,
  ⟨(some 78), none, .build [.int .i64 (0), .int .i64 (0)] [(0, 1, (.t 76)), (1, 1, (.t 77))]⟩,
  ⟨(some 8), none, .mv (.c (.pnil))⟩,
  ⟨none, none, .store 2 (.t 9) (.t 78)⟩], false, []⟩
def Try.r_workers_play_16 : LReg := ⟨[⟨(some 79), none, .bin .add (.t 66) (.c (.int .i64 (1)))⟩,
  ⟨(some 66), none, .mv (.t 79)⟩], false, []⟩
def Try.r_workers_play_17 : LReg := ⟨[⟨(some 80), none, .mv (.t 10)⟩,
  ⟨(some 81), none, .build [.int .i64 (0), .int .i64 (0)] []⟩,
  ⟨(some 8), none, .mv (.t 80)⟩,
  ⟨none, none, .store 2 (.t 9) (.t 81)⟩], false, []⟩
def Try.l_workers_play : LCode := (.seq (.reg Try.r_workers_play_0) (.seq (.seq (.reg Try.r_workers_play_1) (.cond (.t 36) (.seq (.reg Try.r_workers_play_2) .ret) .skip)) (.seq (.seq (.reg Try.r_workers_play_3) (.cond (.t 40) (.seq (.reg Try.r_workers_play_4) .ret) .skip)) (.seq (.reg Try.r_workers_play_5) (.seq (.seq (.reg Try.r_workers_play_6) (.block 0 (.loop (.seq (.reg Try.r_workers_play_7) (.seq (.cond (.t 51) .skip (.exit 0)) (.seq (.block 1 (.reg Try.r_workers_play_8)) (.reg Try.r_workers_play_9))))))) (.seq (.seq (.reg Try.r_workers_play_10) (.block 2 (.loop (.seq (.reg Try.r_workers_play_11) (.seq (.cond (.t 67) .skip (.exit 2)) (.seq (.block 3 (.seq (.reg Try.r_workers_play_12) (.seq (.reg Try.r_workers_play_13) (.seq (.reg Try.r_workers_play_14) (.cond (.t 75) (.seq (.reg Try.r_workers_play_15) .ret) .skip))))) (.reg Try.r_workers_play_16))))))) (.seq (.reg Try.r_workers_play_17) .ret)))))))
theorem Try.c_workers_play : fnComp Try.prog 26 = some (82, Try.l_workers_play, [.t 8, .cell 9 2 true]) := by kernel_rfl

/- 11 changeforge/workers.Play -/
def Try.r_workers_Play_0 : LReg := ⟨[⟨(some 8), none, .mv (.c (.nils))⟩,
  ⟨(some 9), none, .alloc 25 2 [.int .i64 (0), .int .i64 (0)]⟩], false, []⟩
def Try.r_workers_Play_1 : LReg := ⟨[⟨(some 13), none, .mv (.t 0)⟩,
  ⟨(some 14), none, .mv (.t 1)⟩,
  ⟨(some 15), none, .mv (.t 2)⟩,
  ⟨(some 16), none, .mv (.t 3)⟩,
  ⟨(some 17), none, .call 26 [(.t 13), (.t 14), (.t 15), (.t 16)]⟩,
  ⟨(some 12), none, .mv (.t 17)⟩,
  ⟨(some 18), none, .extract 0 (.t 12)⟩,
  ⟨(some 19), none, .extract 1 (.t 12)⟩,
  ⟨(some 11), none, .alloc 25 2 [.int .i64 (0), .int .i64 (0)]⟩,
  ⟨(some 10), none, .mv (.t 18)⟩,
  ⟨none, none, .store 2 (.t 11) (.t 19)⟩], false, []⟩
def Try.r_workers_Play_2 : LReg := ⟨[⟨(some 20), none, .load 2 true (.t 11)⟩,
  ⟨(some 21), none, .build [.int .i64 (0), .int .i64 (0)] []⟩,
  ⟨(some 22), none, .eqs true [0, 0] (.t 20) (.t 21)⟩], false, []⟩
def Try.r_workers_Play_3 : LReg := ⟨[⟨(some 23), none, .load 2 true (.t 11)⟩,
  ⟨(some 8), none, .mv (.c (.nils))⟩,
  ⟨none, none, .store 2 (.t 9) (.t 23)⟩], true, []⟩
def Try.r_workers_Play_4 : LReg := ⟨[⟨(some 24), none, .mv (.t 10)⟩,
  ⟨(some 25), none, .nilCheck (.t 24)⟩,
  ⟨(some 26), none, .fieldAddr 3 (.t 25)⟩,
  ⟨(some 27), none, .load 1 false (.t 26)⟩,
  ⟨(some 28), none, .build [.int .i64 (0), .int .i64 (0)] []⟩,
  ⟨(some 8), none, .mv (.t 27)⟩,
  ⟨none, none, .store 2 (.t 9) (.t 28)⟩], false, []⟩
def Try.l_workers_Play : LCode := (.seq (.reg Try.r_workers_Play_0) (.seq (.reg Try.r_workers_Play_1) (.seq (.seq (.reg Try.r_workers_Play_2) (.cond (.t 22) (.seq (.reg Try.r_workers_Play_3) .ret) .skip)) (.seq (.reg Try.r_workers_Play_4) .ret))))
theorem Try.c_workers_Play : fnComp Try.prog 11 = some (29, Try.l_workers_Play, [.t 8, .cell 9 2 true]) := by kernel_rfl

/- 14 changeforge/changeforgelaw6.fault -/
def Try.r_law6_fault_0 : LReg := ⟨[⟨(some 4), none, .alloc 25 2 [.int .i64 (0), .int .i64 (0)]⟩], false, []⟩
def Try.r_law6_fault_1 : LReg := ⟨[⟨(some 5), none, .mv (.t 0)⟩,
  ⟨(some 6), none, .mv (.t 1)⟩,
  ⟨(some 7), none, .build [.int .i64 (0), .int .i64 (0)] [(0, 1, (.t 5)), (1, 1, (.t 6))]⟩,
  ⟨none, none, .store 2 (.t 4) (.t 7)⟩], false, []⟩
def Try.l_law6_fault : LCode := (.seq (.reg Try.r_law6_fault_0) (.seq (.reg Try.r_law6_fault_1) .ret))
theorem Try.c_law6_fault : fnComp Try.prog 14 = some (8, Try.l_law6_fault, [.cell 4 2 true]) := by kernel_rfl

/- 15 changeforge/workers.Reports -/
def Try.r_workers_Reports_0 : LReg := ⟨[⟨(some 10), none, .mv (.c (.nils))⟩,
  ⟨(some 11), none, .alloc 25 2 [.int .i64 (0), .int .i64 (0)]⟩], false, []⟩
def Try.r_workers_Reports_1 : LReg := ⟨[⟨(some 15), none, .mv (.t 0)⟩,
  ⟨(some 16), none, .mv (.t 1)⟩,
  ⟨(some 17), none, .mv (.t 2)⟩,
  ⟨(some 18), none, .mv (.t 3)⟩,
  ⟨(some 19), none, .call 26 [(.t 15), (.t 16), (.t 17), (.t 18)]⟩,
  ⟨(some 14), none, .mv (.t 19)⟩,
  ⟨(some 20), none, .extract 0 (.t 14)⟩,
  ⟨(some 21), none, .extract 1 (.t 14)⟩,
  ⟨(some 13), none, .alloc 25 2 [.int .i64 (0), .int .i64 (0)]⟩,
  ⟨(some 12), none, .mv (.t 20)⟩,
  ⟨none, none, .store 2 (.t 13) (.t 21)⟩], false, []⟩
def Try.r_workers_Reports_2 : LReg := ⟨[⟨(some 22), none, .load 2 true (.t 13)⟩,
  ⟨(some 23), none, .build [.int .i64 (0), .int .i64 (0)] []⟩,
  ⟨(some 24), none, .eqs true [0, 0] (.t 22) (.t 23)⟩], false, []⟩
def Try.r_workers_Reports_3 : LReg := ⟨[⟨(some 25), none, .load 2 true (.t 13)⟩,
  ⟨(some 10), none, .mv (.c (.nils))⟩,
  ⟨none, none, .store 2 (.t 11) (.t 25)⟩], true, []⟩
def Try.r_workers_Reports_4 : LReg := ⟨[⟨(some 26), none, .mv (.t 4)⟩,
  ⟨(some 27), none, .bin .lss (.t 26) (.c (.int .i64 (0)))⟩,
  ⟨(some 28), none, .mv (.t 27)⟩,
  ⟨(some 29), (some (28, false)), .mv (.t 4)⟩,
  ⟨(some 30), (some (28, false)), .mv (.t 0)⟩,
  ⟨(some 31), (some (28, false)), .bin .geq (.t 29) (.t 30)⟩,
  ⟨(some 32), none, .pick (.t 28) (.c (.bool true)) (.t 31)⟩], false, []⟩
def Try.r_workers_Reports_5 : LReg := ⟨[⟨(some 33), none, .build [.int .i64 (0), .int .i64 (0)] [(0, 1, (.c (.int .i64 (3)))), (1, 1, (.c (.int .i64 (-2))))]⟩,
  ⟨(some 10), none, .mv (.c (.nils))⟩,
  ⟨none, none, .store 2 (.t 11) (.t 33)⟩], false, []⟩
def Try.r_workers_Reports_6 : LReg := ⟨[⟨(some 34), none, .mv (.t 12)⟩,
  ⟨(some 35), none, .nilCheck (.t 34)⟩,
  ⟨(some 36), none, .fieldAddr 2 (.t 35)⟩,
  ⟨(some 37), none, .load 1 false (.t 36)⟩,
  ⟨(some 38), none, .mv (.t 4)⟩,
  ⟨(some 39), none, .idx 1 (.t 37) (.t 38)⟩,
  ⟨(some 40), none, .load 1 false (.t 39)⟩,
  ⟨(some 41), none, .build [.int .i64 (0), .int .i64 (0)] []⟩,
  ⟨(some 10), none, .mv (.t 40)⟩,
  ⟨none, none, .store 2 (.t 11) (.t 41)⟩], false, []⟩
def Try.l_workers_Reports : LCode := (.seq (.reg Try.r_workers_Reports_0) (.seq (.reg Try.r_workers_Reports_1) (.seq (.seq (.reg Try.r_workers_Reports_2) (.cond (.t 24) (.seq (.reg Try.r_workers_Reports_3) .ret) .skip)) (.seq (.seq (.reg Try.r_workers_Reports_4) (.cond (.t 32) (.seq (.reg Try.r_workers_Reports_5) .ret) .skip)) (.seq (.reg Try.r_workers_Reports_6) .ret)))))
theorem Try.c_workers_Reports : fnComp Try.prog 15 = some (42, Try.l_workers_Reports, [.t 10, .cell 11 2 true]) := by kernel_rfl

/- 17 changeforge/workers.Next -/
def Try.r_workers_Next_0 : LReg := ⟨[⟨(some 8), none, .mv (.c (.int .i64 (0)))⟩,
  ⟨(some 9), none, .mv (.c (.int .i64 (0)))⟩,
  ⟨(some 10), none, .mv (.c (.bool false))⟩,
  ⟨(some 11), none, .alloc 25 2 [.int .i64 (0), .int .i64 (0)]⟩], false, []⟩
def Try.r_workers_Next_1 : LReg := ⟨[⟨(some 17), none, .mv (.t 0)⟩,
  ⟨(some 18), none, .mv (.t 1)⟩,
  ⟨(some 19), none, .mv (.t 2)⟩,
  ⟨(some 20), none, .mv (.t 3)⟩,
  ⟨(some 21), none, .call 26 [(.t 17), (.t 18), (.t 19), (.t 20)]⟩,
  ⟨(some 16), none, .mv (.t 21)⟩,
  ⟨(some 22), none, .extract 0 (.t 16)⟩,
  ⟨(some 23), none, .extract 1 (.t 16)⟩,
  ⟨(some 13), none, .alloc 25 2 [.int .i64 (0), .int .i64 (0)]⟩,
  ⟨(some 12), none, .mv (.t 22)⟩,
  ⟨none, none, .store 2 (.t 13) (.t 23)⟩], false, []⟩
def Try.r_workers_Next_2 : LReg := ⟨[⟨(some 24), none, .load 2 true (.t 13)⟩,
  ⟨(some 25), none, .build [.int .i64 (0), .int .i64 (0)] []⟩,
  ⟨(some 26), none, .eqs true [0, 0] (.t 24) (.t 25)⟩], false, []⟩
def Try.r_workers_Next_3 : LReg := ⟨[⟨(some 27), none, .load 2 true (.t 13)⟩,
  ⟨(some 8), none, .mv (.c (.int .i64 (0)))⟩,
  ⟨(some 9), none, .mv (.c (.int .i64 (0)))⟩,
  ⟨(some 10), none, .mv (.c (.bool false))⟩,
  ⟨none, none, .store 2 (.t 11) (.t 27)⟩], true, []⟩
def Try.r_workers_Next_4 : LReg := ⟨[⟨(some 28), none, .mv (.t 0)⟩,
  ⟨(some 29), none, .mv (.c (.int .i64 (0)))⟩], false, []⟩
def Try.r_workers_Next_5 : LReg := ⟨[⟨(some 30), none, .bin .lss (.t 29) (.t 28)⟩], false, []⟩
def Try.r_workers_Next_6 : LReg := ⟨[⟨(some 31), none, .mv (.t 29)⟩,
  ⟨(some 14), none, .mv (.t 31)⟩], false, []⟩
def Try.r_workers_Next_7 : LReg := ⟨[⟨(some 32), none, .mv (.t 1)⟩,
  ⟨(some 33), none, .mv (.c (.int .i64 (0)))⟩], false, []⟩
def Try.r_workers_Next_8 : LReg := ⟨[⟨(some 34), none, .bin .lss (.t 33) (.t 32)⟩], false, []⟩
def Try.r_workers_Next_9 : LReg := ⟨[⟨(some 35), none, .mv (.t 33)⟩,
  ⟨(some 15), none, .mv (.t 35)⟩], false, []⟩
def Try.r_workers_Next_10 : LReg := ⟨[⟨(some 36), none, .mv (.t 12)⟩,
  ⟨(some 37), none, .nilCheck (.t 36)⟩,
  ⟨(some 38), none, .fieldAddr 3 (.t 37)⟩,
  ⟨(some 39), none, .load 1 false (.t 38)⟩,
  ⟨(some 40), none, .mv (.t 14)⟩,
  ⟨(some 41), none, .idx 1 (.t 39) (.t 40)⟩,
  ⟨(some 42), none, .load 1 false (.t 41)⟩,
  ⟨(some 43), none, .bin .lss (.t 42) (.c (.int .i64 (0)))⟩,
  ⟨(some 44), none, .mv (.t 43)⟩,
  ⟨(some 45), (some (44, true)), .mv (.t 12)⟩,
  ⟨(some 46), (some (44, true)), .nilCheck (.t 45)⟩,
  ⟨(some 47), (some (44, true)), .fieldAddr 1 (.t 46)⟩,
  ⟨(some 48), (some (44, true)), .load 1 false (.t 47)⟩,
  ⟨(some 49), (some (44, true)), .mv (.t 15)⟩,
  ⟨(some 50), (some (44, true)), .idx 1 (.t 48) (.t 49)⟩,
  ⟨(some 51), (some (44, true)), .load 1 false (.t 50)⟩,
  ⟨(some 52), (some (44, true)), .bin .eql (.t 51) (.c (.int .i64 (-1)))⟩,
  ⟨(some 53), none, .pick (.t 44) (.t 52) (.c (.bool false))⟩,
  ⟨(some 54), none, .mv (.t 53)⟩,
  ⟨(some 55), (some (54, true)), .mv (.t 12)⟩,
  ⟨(some 56), (some (54, true)), .nilCheck (.t 55)⟩,
  ⟨(some 57), (some (54, true)), .fieldAddr 2 (.t 56)⟩,
  ⟨(some 58), (some (54, true)), .load 1 false (.t 57)⟩,
  ⟨(some 59), (some (54, true)), .mv (.t 14)⟩,
  ⟨(some 60), (some (54, true)), .idx 1 (.t 58) (.t 59)⟩,
  ⟨(some 61), (some (54, true)), .load 1 false (.t 60)⟩,
  ⟨(some 62), (some (54, true)), .mv (.t 15)⟩,
  ⟨(some 63), (some (54, true)), .idx 1 (.t 61) (.t 62)⟩,
  ⟨(some 64), (some (54, true)), .load 1 false (.t 63)⟩,
  ⟨(some 65), (some (54, true)), .bin .lss (.t 64) (.c (.int .i64 (0)))⟩,
  ⟨(some 66), none, .pick (.t 54) (.t 65) (.c (.bool false))⟩], false, []⟩
def Try.r_workers_Next_11 : LReg := ⟨[⟨(some 67), none, .mv (.t 14)⟩,
  ⟨(some 68), none, .mv (.t 15)⟩,
  ⟨(some 69), none, .build [.int .i64 (0), .int .i64 (0)] []⟩,
  ⟨(some 8), none, .mv (.t 67)⟩,
  ⟨(some 9), none, .mv (.t 68)⟩,
  ⟨(some 10), none, .mv (.c (.bool true))⟩,
  ⟨none, none, .store 2 (.t 11) (.t 69)⟩], false, []⟩
def Try.r_workers_Next_12 : LReg := ⟨[⟨(some 70), none, .bin .add (.t 33) (.c (.int .i64 (1)))⟩,
  ⟨(some 33), none, .mv (.t 70)⟩], false, []⟩
def Try.r_workers_Next_13 : LReg := ⟨[⟨(some 71), none, .bin .add (.t 29) (.c (.int .i64 (1)))⟩,
  ⟨(some 29), none, .mv (.t 71)⟩], false, []⟩
def Try.r_workers_Next_14 : LReg := ⟨[⟨(some 72), none, .build [.int .i64 (0), .int .i64 (0)] []⟩,
  ⟨(some 8), none, .mv (.c (.int .i64 (0)))⟩,
  ⟨(some 9), none, .mv (.c (.int .i64 (0)))⟩,
  ⟨(some 10), none, .mv (.c (.bool false))⟩,
  ⟨none, none, .store 2 (.t 11) (.t 72)⟩], false, []⟩
def Try.l_workers_Next : LCode := (.seq (.reg Try.r_workers_Next_0) (.seq (.reg Try.r_workers_Next_1) (.seq (.seq (.reg Try.r_workers_Next_2) (.cond (.t 26) (.seq (.reg Try.r_workers_Next_3) .ret) .skip)) (.seq (.seq (.reg Try.r_workers_Next_4) (.block 0 (.loop (.seq (.reg Try.r_workers_Next_5) (.seq (.cond (.t 30) .skip (.exit 0)) (.seq (.block 1 (.seq (.reg Try.r_workers_Next_6) (.seq (.reg Try.r_workers_Next_7) (.block 2 (.loop (.seq (.reg Try.r_workers_Next_8) (.seq (.cond (.t 34) .skip (.exit 2)) (.seq (.block 3 (.seq (.reg Try.r_workers_Next_9) (.seq (.reg Try.r_workers_Next_10) (.cond (.t 66) (.seq (.reg Try.r_workers_Next_11) .ret) .skip)))) (.reg Try.r_workers_Next_12))))))))) (.reg Try.r_workers_Next_13))))))) (.seq (.reg Try.r_workers_Next_14) .ret)))))
theorem Try.c_workers_Next : fnComp Try.prog 17 = some (73, Try.l_workers_Next, [.t 8, .t 9, .t 10, .cell 11 2 true]) := by kernel_rfl

/- 21 changeforge/changeforgelaw6.shift -/
def Try.r_law6_shift_0 : LReg := ⟨[⟨(some 0), none, .mv (.c (.nils))⟩], false, []⟩
def Try.r_law6_shift_1 : LReg := ⟨[⟨(some 1), none, .build [.int .i64 (0), .int .i64 (0), .int .i64 (0), .int .i64 (0)] [(0, 1, (.c (.int .i64 (1))))]⟩,
  ⟨(some 2), none, .build [.int .i64 (0), .int .i64 (0), .int .i64 (0), .int .i64 (0)] [(0, 1, (.c (.int .i64 (2)))), (3, 1, (.c (.int .i64 (8))))]⟩,
  ⟨(some 3), none, .build [.int .i64 (0), .int .i64 (0), .int .i64 (0), .int .i64 (0)] [(0, 1, (.c (.int .i64 (1)))), (1, 1, (.c (.int .i64 (1))))]⟩,
  ⟨(some 4), none, .build [.int .i64 (0), .int .i64 (0), .int .i64 (0), .int .i64 (0)] [(0, 1, (.c (.int .i64 (2)))), (1, 1, (.c (.int .i64 (1)))), (3, 1, (.c (.int .i64 (7))))]⟩,
  ⟨(some 5), none, .build [.int .i64 (0), .int .i64 (0), .int .i64 (0), .int .i64 (0)] [(0, 1, (.c (.int .i64 (1)))), (1, 1, (.c (.int .i64 (2))))]⟩,
  ⟨(some 6), none, .build [.int .i64 (0), .int .i64 (0), .int .i64 (0), .int .i64 (0)] [(0, 1, (.c (.int .i64 (2)))), (1, 1, (.c (.int .i64 (2)))), (3, 1, (.c (.int .i64 (7))))]⟩,
  ⟨(some 7), none, .mkSlice 44 4 6 [.int .i64 (0), .int .i64 (0), .int .i64 (0), .int .i64 (0)] [(0, (.t 1)), (1, (.t 2)), (2, (.t 3)), (3, (.t 4)), (4, (.t 5)), (5, (.t 6))]⟩,
  ⟨(some 0), none, .mv (.t 7)⟩], false, []⟩
def Try.l_law6_shift : LCode := (.seq (.reg Try.r_law6_shift_0) (.seq (.reg Try.r_law6_shift_1) .ret))
theorem Try.c_law6_shift : fnComp Try.prog 21 = some (8, Try.l_law6_shift, [.t 0]) := by kernel_rfl

/- 22 changeforge/changeforgeref5.Ints -/
def Try.r_ref5_Ints_0 : LReg := ⟨[⟨(some 4), none, .mv (.c (.bool false))⟩], false, []⟩
def Try.r_ref5_Ints_1 : LReg := ⟨[⟨(some 6), none, .mv (.t 0)⟩,
  ⟨(some 7), none, .len (.t 6)⟩,
  ⟨(some 8), none, .mv (.t 1)⟩,
  ⟨(some 9), none, .len (.t 8)⟩,
  ⟨(some 10), none, .bin .neq (.t 7) (.t 9)⟩], false, []⟩
def Try.r_ref5_Ints_2 : LReg := ⟨[⟨(some 4), none, .mv (.c (.bool false))⟩], false, []⟩
def Try.r_ref5_Ints_3 : LReg := ⟨[⟨(some 5), none, .mv (.c (.int .i64 (0)))⟩], false, []⟩
def Try.r_ref5_Ints_4 : LReg := ⟨[⟨(some 11), none, .mv (.t 5)⟩,
  ⟨(some 12), none, .mv (.t 0)⟩,
  ⟨(some 13), none, .len (.t 12)⟩,
  ⟨(some 14), none, .bin .lss (.t 11) (.t 13)⟩], false, []⟩
def Try.r_ref5_Ints_5 : LReg := ⟨[⟨(some 17), none, .mv (.t 0)⟩,
  ⟨(some 18), none, .mv (.t 5)⟩,
  ⟨(some 19), none, .idx 1 (.t 17) (.t 18)⟩,
  ⟨(some 20), none, .load 1 false (.t 19)⟩,
  ⟨(some 21), none, .mv (.t 1)⟩,
  ⟨(some 22), none, .mv (.t 5)⟩,
  ⟨(some 23), none, .idx 1 (.t 21) (.t 22)⟩,
  ⟨(some 24), none, .load 1 false (.t 23)⟩,
  ⟨(some 25), none, .bin .neq (.t 20) (.t 24)⟩], true, [(2, 6), (3, 6), (2, 7), (3, 7)]⟩
def Try.r_ref5_Ints_6 : LReg := ⟨[⟨(some 4), none, .mv (.c (.bool false))⟩], false, []⟩
def Try.r_ref5_Ints_7 : LReg := ⟨[⟨(some 15), none, .mv (.t 5)⟩,
  ⟨(some 16), none, .bin .add (.t 15) (.c (.int .i64 (1)))⟩,
  ⟨(some 5), none, .mv (.t 16)⟩], false, []⟩
def Try.r_ref5_Ints_8 : LReg := ⟨[⟨(some 4), none, .mv (.c (.bool true))⟩], false, []⟩
def Try.l_ref5_Ints : LCode := (.seq (.reg Try.r_ref5_Ints_0) (.seq (.seq (.reg Try.r_ref5_Ints_1) (.cond (.t 10) (.seq (.reg Try.r_ref5_Ints_2) .ret) .skip)) (.seq (.seq (.reg Try.r_ref5_Ints_3) (.block 0 (.loop (.seq (.seq (.reg Try.r_ref5_Ints_4) (.cond (.t 14) .skip (.exit 0))) (.seq (.block 1 (.seq (.reg Try.r_ref5_Ints_5) (.cond (.t 25) (.seq (.reg Try.r_ref5_Ints_6) .ret) .skip))) (.reg Try.r_ref5_Ints_7)))))) (.seq (.reg Try.r_ref5_Ints_8) .ret))))
theorem Try.c_ref5_Ints : fnComp Try.prog 22 = some (26, Try.l_ref5_Ints, [.t 4]) := by kernel_rfl

/- 9 changeforge/changeforgelaw6.farms -/
def Try.r_law6_farms_0 : LReg := ⟨[⟨(some 0), none, .mv (.c (.bool false))⟩], false, []⟩
def Try.r_law6_farms_1 : LReg := ⟨[⟨(some 12), none, .call 21 []⟩,
  ⟨(some 13), none, .call 11 [(.c (.int .i64 (1))), (.c (.int .i64 (3))), (.c (.int .i64 (2))), (.t 12)]⟩,
  ⟨(some 11), none, .mv (.t 13)⟩,
  ⟨(some 14), none, .extract 0 (.t 11)⟩,
  ⟨(some 15), none, .extract 1 (.t 11)⟩,
  ⟨(some 2), none, .alloc 25 2 [.int .i64 (0), .int .i64 (0)]⟩,
  ⟨(some 1), none, .mv (.t 14)⟩,
  ⟨none, none, .store 2 (.t 2) (.t 15)⟩], false, []⟩
def Try.r_law6_farms_2 : LReg := ⟨[⟨(some 17), none, .call 21 []⟩,
  ⟨(some 18), none, .slice 4 (.t 17) none (some (.c (.int .i64 (2))))⟩,
  ⟨(some 19), none, .call 15 [(.c (.int .i64 (1))), (.c (.int .i64 (3))), (.c (.int .i64 (2))), (.t 18), (.c (.int .i64 (0)))]⟩,
  ⟨(some 16), none, .mv (.t 19)⟩,
  ⟨(some 20), none, .extract 0 (.t 16)⟩,
  ⟨(some 21), none, .extract 1 (.t 16)⟩,
  ⟨(some 4), none, .alloc 25 2 [.int .i64 (0), .int .i64 (0)]⟩,
  ⟨(some 3), none, .mv (.t 20)⟩,
  ⟨none, none, .store 2 (.t 4) (.t 21)⟩], false, []⟩
def Try.r_law6_farms_3 : LReg := ⟨[⟨(some 23), none, .call 21 []⟩,
  ⟨(some 24), none, .slice 4 (.t 23) none (some (.c (.int .i64 (2))))⟩,
  ⟨(some 25), none, .call 17 [(.c (.int .i64 (1))), (.c (.int .i64 (3))), (.c (.int .i64 (2))), (.t 24)]⟩,
  ⟨(some 22), none, .mv (.t 25)⟩,
  ⟨(some 26), none, .extract 0 (.t 22)⟩,
  ⟨(some 27), none, .extract 1 (.t 22)⟩,
  ⟨(some 28), none, .extract 2 (.t 22)⟩,
  ⟨(some 29), none, .extract 3 (.t 22)⟩,
  ⟨(some 8), none, .alloc 25 2 [.int .i64 (0), .int .i64 (0)]⟩,
  ⟨(some 5), none, .mv (.t 26)⟩,
  ⟨(some 6), none, .mv (.t 27)⟩,
  ⟨(some 7), none, .mv (.t 28)⟩,
  ⟨none, none, .store 2 (.t 8) (.t 29)⟩], false, []⟩
def Try.r_law6_farms_4 : LReg := ⟨[⟨(some 31), none, .call 21 []⟩,
  ⟨(some 32), none, .slice 4 (.t 31) (some (.c (.int .i64 (1)))) none⟩,
  ⟨(some 33), none, .call 11 [(.c (.int .i64 (1))), (.c (.int .i64 (3))), (.c (.int .i64 (2))), (.t 32)]⟩,
  ⟨(some 30), none, .mv (.t 33)⟩,
  ⟨(some 34), none, .extract 0 (.t 30)⟩,
  ⟨(some 35), none, .extract 1 (.t 30)⟩,
  ⟨(some 10), none, .alloc 25 2 [.int .i64 (0), .int .i64 (0)]⟩,
  ⟨(some 9), none, .mv (.t 34)⟩,
  ⟨none, none, .store 2 (.t 10) (.t 35)⟩], false, []⟩
def Try.r_law6_farms_5 : LReg := ⟨[⟨(some 36), none, .fieldAddr 0 (.t 2)⟩,
  ⟨(some 37), none, .load 1 false (.t 36)⟩,
  ⟨(some 38), none, .bin .eql (.t 37) (.c (.int .i64 (0)))⟩,
  ⟨(some 39), none, .mv (.t 38)⟩,
  ⟨(some 40), (some (39, true)), .fieldAddr 0 (.t 4)⟩,
  ⟨(some 41), (some (39, true)), .load 1 false (.t 40)⟩,
  ⟨(some 42), (some (39, true)), .bin .eql (.t 41) (.c (.int .i64 (0)))⟩,
  ⟨(some 43), none, .pick (.t 39) (.t 42) (.c (.bool false))⟩,
  ⟨(some 44), none, .mv (.t 43)⟩,
  ⟨(some 45), (some (44, true)), .fieldAddr 0 (.t 8)⟩,
  ⟨(some 46), (some (44, true)), .load 1 false (.t 45)⟩,
  ⟨(some 47), (some (44, true)), .bin .eql (.t 46) (.c (.int .i64 (0)))⟩,
  ⟨(some 48), none, .pick (.t 44) (.t 47) (.c (.bool false))⟩,
  ⟨(some 49), none, .mv (.t 48)⟩,
  ⟨(some 50), (some (49, true)), .load 2 true (.t 10)⟩,
  ⟨(some 51), (some (49, true)), .call 14 [(.c (.int .i64 (11))), (.c (.int .i64 (0)))]⟩,
  ⟨(some 52), (some (49, true)), .eqs false [0, 0] (.t 50) (.t 51)⟩,
  ⟨(some 53), none, .pick (.t 49) (.t 52) (.c (.bool false))⟩,
  ⟨(some 54), none, .mv (.t 53)⟩,
  ⟨(some 55), (some (54, true)), .mv (.t 1)⟩,
  ⟨(some 56), (some (54, true)), .mkSlice 3 1 1 [.int .i64 (0)] [(0, (.c (.int .i64 (7))))]⟩,
  ⟨(some 57), (some (54, true)), .call 22 [(.t 55), (.t 56)]⟩,
  ⟨(some 58), none, .pick (.t 54) (.t 57) (.c (.bool false))⟩,
  ⟨(some 59), none, .mv (.t 58)⟩,
  ⟨(some 60), (some (59, true)), .mv (.t 3)⟩,
  ⟨(some 61), (some (59, true)), .mkSlice 3 1 3 [.int .i64 (0)] [(0, (.c (.int .i64 (8)))), (1, (.c (.int .i64 (-1)))), (2, (.c (.int .i64 (-1))))]⟩,
  ⟨(some 62), (some (59, true)), .call 22 [(.t 60), (.t 61)]⟩,
  ⟨(some 63), none, .pick (.t 59) (.t 62) (.c (.bool false))⟩,
  ⟨(some 64), none, .mv (.t 63)⟩,
  ⟨(some 65), (some (64, true)), .mv (.t 5)⟩,
  ⟨(some 66), (some (64, true)), .bin .eql (.t 65) (.c (.int .i64 (0)))⟩,
  ⟨(some 67), none, .pick (.t 64) (.t 66) (.c (.bool false))⟩,
  ⟨(some 68), none, .mv (.t 67)⟩,
  ⟨(some 69), (some (68, true)), .mv (.t 6)⟩,
  ⟨(some 70), (some (68, true)), .bin .eql (.t 69) (.c (.int .i64 (1)))⟩,
  ⟨(some 71), none, .pick (.t 68) (.t 70) (.c (.bool false))⟩,
  ⟨(some 72), none, .mv (.t 71)⟩,
  ⟨(some 73), (some (72, true)), .mv (.t 7)⟩,
  ⟨(some 74), none, .pick (.t 72) (.t 73) (.c (.bool false))⟩,
  ⟨(some 0), none, .mv (.t 74)⟩], true, [(14, 15)]⟩
def Try.l_law6_farms : LCode := (.seq (.reg Try.r_law6_farms_0) (.seq (.reg Try.r_law6_farms_1) (.seq (.reg Try.r_law6_farms_2) (.seq (.reg Try.r_law6_farms_3) (.seq (.reg Try.r_law6_farms_4) (.seq (.reg Try.r_law6_farms_5) .ret))))))
theorem Try.c_law6_farms : fnComp Try.prog 9 = some (75, Try.l_law6_farms, [.t 0]) := by kernel_rfl

/- 24 changeforge/changeforgeref6.fault -/
def Try.r_ref6_fault_0 : LReg := ⟨[⟨(some 4), none, .alloc 25 2 [.int .i64 (0), .int .i64 (0)]⟩], false, []⟩
def Try.r_ref6_fault_1 : LReg := ⟨[⟨(some 5), none, .mv (.t 0)⟩,
  ⟨(some 6), none, .mv (.t 1)⟩,
  ⟨(some 7), none, .build [.int .i64 (0), .int .i64 (0)] [(0, 1, (.t 5)), (1, 1, (.t 6))]⟩,
  ⟨none, none, .store 2 (.t 4) (.t 7)⟩], false, []⟩
def Try.l_ref6_fault : LCode := (.seq (.reg Try.r_ref6_fault_0) (.seq (.reg Try.r_ref6_fault_1) .ret))
theorem Try.c_ref6_fault : fnComp Try.prog 24 = some (8, Try.l_ref6_fault, [.cell 4 2 true]) := by kernel_rfl

/- 27 changeforge/changeforgeref6.in -/
def Try.r_ref6_in_0 : LReg := ⟨[⟨(some 6), none, .mv (.c (.bool false))⟩], false, []⟩
def Try.r_ref6_in_1 : LReg := ⟨[⟨(some 7), none, .mv (.t 0)⟩,
  ⟨(some 8), none, .mv (.t 1)⟩,
  ⟨(some 9), none, .bin .geq (.t 7) (.t 8)⟩,
  ⟨(some 10), none, .mv (.t 9)⟩,
  ⟨(some 11), (some (10, true)), .mv (.t 0)⟩,
  ⟨(some 12), (some (10, true)), .mv (.t 2)⟩,
  ⟨(some 13), (some (10, true)), .bin .leq (.t 11) (.t 12)⟩,
  ⟨(some 14), none, .pick (.t 10) (.t 13) (.c (.bool false))⟩,
  ⟨(some 6), none, .mv (.t 14)⟩], false, []⟩
def Try.l_ref6_in : LCode := (.seq (.reg Try.r_ref6_in_0) (.seq (.reg Try.r_ref6_in_1) .ret))
theorem Try.c_ref6_in : fnComp Try.prog 27 = some (15, Try.l_ref6_in, [.t 6]) := by kernel_rfl

/- 23 changeforge/changeforgeref6.FarmFault -/
def Try.r_ref6_FarmFault_0 : LReg := ⟨[⟨(some 6), none, .alloc 25 2 [.int .i64 (0), .int .i64 (0)]⟩], false, []⟩
def Try.r_ref6_FarmFault_1 : LReg := ⟨[⟨(some 7), none, .mv (.t 0)⟩,
  ⟨(some 8), none, .call 27 [(.t 7), (.c (.int .i64 (0))), (.c (.int .i64 (12)))]⟩,
  ⟨(some 9), none, .un .not (.t 8)⟩,
  ⟨(some 10), none, .mv (.t 9)⟩,
  ⟨(some 11), (some (10, false)), .mv (.t 1)⟩,
  ⟨(some 12), (some (10, false)), .call 27 [(.t 11), (.c (.int .i64 (1))), (.c (.int .i64 (8)))]⟩,
  ⟨(some 13), (some (10, false)), .un .not (.t 12)⟩,
  ⟨(some 14), none, .pick (.t 10) (.c (.bool true)) (.t 13)⟩,
  ⟨(some 15), none, .mv (.t 14)⟩,
  ⟨(some 16), (some (15, false)), .mv (.t 2)⟩,
  ⟨(some 17), (some (15, false)), .mv (.t 1)⟩,
  ⟨(some 18), (some (15, false)), .call 27 [(.t 16), (.c (.int .i64 (1))), (.t 17)]⟩,
  ⟨(some 19), (some (15, false)), .un .not (.t 18)⟩,
  ⟨(some 20), none, .pick (.t 15) (.c (.bool true)) (.t 19)⟩], false, []⟩
def Try.r_ref6_FarmFault_2 : LReg := ⟨[⟨(some 21), none, .call 24 [(.c (.int .i64 (3))), (.c (.int .i64 (-1)))]⟩,
  ⟨none, none, .store 2 (.t 6) (.t 21)⟩], false, []⟩
def Try.r_ref6_FarmFault_3 : LReg := ⟨[⟨(some 22), none, .build [.int .i64 (0), .int .i64 (0)] []⟩,
  ⟨none, none, .store 2 (.t 6) (.t 22)⟩], false, []⟩
def Try.l_ref6_FarmFault : LCode := (.seq (.reg Try.r_ref6_FarmFault_0) (.seq (.seq (.reg Try.r_ref6_FarmFault_1) (.cond (.t 20) (.seq (.reg Try.r_ref6_FarmFault_2) .ret) .skip)) (.seq (.reg Try.r_ref6_FarmFault_3) .ret)))
theorem Try.c_ref6_FarmFault : fnComp Try.prog 23 = some (23, Try.l_ref6_FarmFault, [.cell 6 2 true]) := by kernel_rfl

/- 20 changeforge/changeforgeref6.WorkingOn -/
def Try.r_ref6_WorkingOn_0 : LReg := ⟨[⟨(some 4), none, .mv (.c (.int .i64 (0)))⟩], false, []⟩
def Try.r_ref6_WorkingOn_1 : LReg := ⟨[⟨(some 5), none, .mv (.c (.int .i64 (-1)))⟩], false, []⟩
def Try.r_ref6_WorkingOn_2 : LReg := ⟨[⟨(some 6), none, .mv (.c (.int .i64 (0)))⟩], false, []⟩
def Try.r_ref6_WorkingOn_3 : LReg := ⟨[⟨(some 8), none, .mv (.t 6)⟩,
  ⟨(some 9), none, .mv (.t 0)⟩,
  ⟨(some 10), none, .len (.t 9)⟩,
  ⟨(some 11), none, .bin .lss (.t 8) (.t 10)⟩], false, []⟩
def Try.r_ref6_WorkingOn_4 : LReg := ⟨[⟨(some 14), none, .mv (.t 0)⟩,
  ⟨(some 15), none, .mv (.t 6)⟩,
  ⟨(some 16), none, .idx 4 (.t 14) (.t 15)⟩,
  ⟨(some 17), none, .load 4 true (.t 16)⟩,
  ⟨(some 7), none, .alloc 44 4 [.int .i64 (0), .int .i64 (0), .int .i64 (0), .int .i64 (0)]⟩,
  ⟨none, none, .store 4 (.t 7) (.t 17)⟩], false, []⟩
def Try.r_ref6_WorkingOn_5 : LReg := ⟨[⟨(some 18), none, .fieldAddr 1 (.t 7)⟩,
  ⟨(some 19), none, .load 1 false (.t 18)⟩,
  ⟨(some 20), none, .mv (.t 1)⟩,
  ⟨(some 21), none, .bin .neq (.t 19) (.t 20)⟩], false, []⟩
def Try.r_ref6_WorkingOn_6 : LReg := ⟨[⟨(some 22), none, .fieldAddr 0 (.t 7)⟩,
  ⟨(some 23), none, .load 1 false (.t 22)⟩], false, []⟩
def Try.r_ref6_WorkingOn_7 : LReg := ⟨[⟨(some 25), none, .bin .eql (.t 23) (.c (.int .i64 (1)))⟩,
  ⟨(some 24), none, .mv (.t 25)⟩], false, []⟩
def Try.r_ref6_WorkingOn_8 : LReg := ⟨[⟨(some 26), none, .fieldAddr 2 (.t 7)⟩,
  ⟨(some 27), none, .load 1 false (.t 26)⟩,
  ⟨(some 5), none, .mv (.t 27)⟩], false, []⟩
def Try.r_ref6_WorkingOn_9 : LReg := ⟨[⟨(some 29), none, .bin .eql (.t 23) (.c (.int .i64 (3)))⟩,
  ⟨(some 28), none, .mv (.t 29)⟩], false, []⟩
def Try.r_ref6_WorkingOn_10 : LReg := ⟨[⟨(some 5), none, .mv (.c (.int .i64 (-2)))⟩], false, []⟩
def Try.r_ref6_WorkingOn_11 : LReg := ⟨[⟨(some 5), none, .mv (.c (.int .i64 (-1)))⟩], false, []⟩
def Try.r_ref6_WorkingOn_12 : LReg := ⟨[⟨(some 12), none, .mv (.t 6)⟩,
  ⟨(some 13), none, .bin .add (.t 12) (.c (.int .i64 (1)))⟩,
  ⟨(some 6), none, .mv (.t 13)⟩], false, []⟩
def Try.r_ref6_WorkingOn_13 : LReg := ⟨[⟨(some 30), none, .mv (.t 5)⟩,
  ⟨(some 4), none, .mv (.t 30)⟩], false, []⟩
def Try.l_ref6_WorkingOn : LCode := (.seq (.reg Try.r_ref6_WorkingOn_0) (.seq (.reg Try.r_ref6_WorkingOn_1) (.seq (.seq (.reg Try.r_ref6_WorkingOn_2) (.block 0 (.loop (.seq (.seq (.reg Try.r_ref6_WorkingOn_3) (.cond (.t 11) .skip (.exit 0))) (.seq (.block 1 (.seq (.reg Try.r_ref6_WorkingOn_4) (.seq (.seq (.reg Try.r_ref6_WorkingOn_5) (.cond (.t 21) (.exit 1) .skip)) (.seq (.reg Try.r_ref6_WorkingOn_6) (.block 2 (.seq (.reg Try.r_ref6_WorkingOn_7) (.cond (.t 24) (.reg Try.r_ref6_WorkingOn_8) (.seq (.reg Try.r_ref6_WorkingOn_9) (.cond (.t 28) (.reg Try.r_ref6_WorkingOn_10) (.reg Try.r_ref6_WorkingOn_11)))))))))) (.reg Try.r_ref6_WorkingOn_12)))))) (.seq (.reg Try.r_ref6_WorkingOn_13) .ret))))
theorem Try.c_ref6_WorkingOn : fnComp Try.prog 20 = some (31, Try.l_ref6_WorkingOn, [.t 4]) := by kernel_rfl

/- 16 changeforge/changeforgeref6.Reported -/
def Try.r_ref6_Reported_0 : LReg := ⟨[⟨(some 6), none, .mv (.c (.int .i64 (0)))⟩], false, []⟩
def Try.r_ref6_Reported_1 : LReg := ⟨[⟨(some 7), none, .mv (.c (.int .i64 (0)))⟩], false, []⟩
def Try.r_ref6_Reported_2 : LReg := ⟨[⟨(some 8), none, .mv (.t 7)⟩,
  ⟨(some 9), none, .mv (.t 0)⟩,
  ⟨(some 10), none, .len (.t 9)⟩,
  ⟨(some 11), none, .bin .lss (.t 8) (.t 10)⟩], false, []⟩
def Try.r_ref6_Reported_3 : LReg := ⟨[⟨(some 14), none, .mv (.t 0)⟩,
  ⟨(some 15), none, .mv (.t 7)⟩,
  ⟨(some 16), none, .idx 4 (.t 14) (.t 15)⟩,
  ⟨(some 17), none, .fieldAddr 0 (.t 16)⟩,
  ⟨(some 18), none, .load 1 false (.t 17)⟩,
  ⟨(some 19), none, .bin .eql (.t 18) (.c (.int .i64 (2)))⟩,
  ⟨(some 20), none, .mv (.t 19)⟩,
  ⟨(some 21), (some (20, true)), .mv (.t 0)⟩,
  ⟨(some 22), (some (20, true)), .mv (.t 7)⟩,
  ⟨(some 23), (some (20, true)), .idx 4 (.t 21) (.t 22)⟩,
  ⟨(some 24), (some (20, true)), .fieldAddr 1 (.t 23)⟩,
  ⟨(some 25), (some (20, true)), .load 1 false (.t 24)⟩,
  ⟨(some 26), (some (20, true)), .mv (.t 1)⟩,
  ⟨(some 27), (some (20, true)), .bin .eql (.t 25) (.t 26)⟩,
  ⟨(some 28), none, .pick (.t 20) (.t 27) (.c (.bool false))⟩,
  ⟨(some 29), none, .mv (.t 28)⟩,
  ⟨(some 30), (some (29, true)), .mv (.t 0)⟩,
  ⟨(some 31), (some (29, true)), .mv (.t 7)⟩,
  ⟨(some 32), (some (29, true)), .slice 4 (.t 30) none (some (.t 31))⟩,
  ⟨(some 33), (some (29, true)), .mv (.t 1)⟩,
  ⟨(some 34), (some (29, true)), .call 20 [(.t 32), (.t 33)]⟩,
  ⟨(some 35), (some (29, true)), .mv (.t 2)⟩,
  ⟨(some 36), (some (29, true)), .bin .eql (.t 34) (.t 35)⟩,
  ⟨(some 37), none, .pick (.t 29) (.t 36) (.c (.bool false))⟩], false, []⟩
def Try.r_ref6_Reported_4 : LReg := ⟨[⟨(some 38), none, .mv (.t 0)⟩,
  ⟨(some 39), none, .mv (.t 7)⟩,
  ⟨(some 40), none, .idx 4 (.t 38) (.t 39)⟩,
  ⟨(some 41), none, .fieldAddr 3 (.t 40)⟩,
  ⟨(some 42), none, .load 1 false (.t 41)⟩,
  ⟨(some 6), none, .mv (.t 42)⟩], false, []⟩
def Try.r_ref6_Reported_5 : LReg := ⟨[⟨(some 12), none, .mv (.t 7)⟩,
  ⟨(some 13), none, .bin .add (.t 12) (.c (.int .i64 (1)))⟩,
  ⟨(some 7), none, .mv (.t 13)⟩], false, []⟩
def Try.r_ref6_Reported_6 : LReg := ⟨[⟨(some 6), none, .mv (.c (.int .i64 (-1)))⟩], false, []⟩
def Try.l_ref6_Reported : LCode := (.seq (.reg Try.r_ref6_Reported_0) (.seq (.seq (.reg Try.r_ref6_Reported_1) (.block 0 (.loop (.seq (.seq (.reg Try.r_ref6_Reported_2) (.cond (.t 11) .skip (.exit 0))) (.seq (.block 1 (.seq (.reg Try.r_ref6_Reported_3) (.cond (.t 37) (.seq (.reg Try.r_ref6_Reported_4) .ret) .skip))) (.reg Try.r_ref6_Reported_5)))))) (.seq (.reg Try.r_ref6_Reported_6) .ret)))
theorem Try.c_ref6_Reported : fnComp Try.prog 16 = some (43, Try.l_ref6_Reported, [.t 6]) := by kernel_rfl

/- 25 changeforge/changeforgeref6.eventCode -/
def Try.r_ref6_eventCode_0 : LReg := ⟨[⟨(some 8), none, .mv (.c (.int .i64 (0)))⟩], false, []⟩
def Try.r_ref6_eventCode_1 : LReg := ⟨[⟨(some 11), none, .mv (.t 2)⟩,
  ⟨(some 12), none, .mv (.t 3)⟩,
  ⟨(some 13), none, .idx 4 (.t 11) (.t 12)⟩,
  ⟨(some 14), none, .load 4 true (.t 13)⟩,
  ⟨(some 9), none, .alloc 44 4 [.int .i64 (0), .int .i64 (0), .int .i64 (0), .int .i64 (0)]⟩,
  ⟨none, none, .store 4 (.t 9) (.t 14)⟩], false, []⟩
def Try.r_ref6_eventCode_2 : LReg := ⟨[⟨(some 15), none, .fieldAddr 0 (.t 9)⟩,
  ⟨(some 16), none, .load 1 false (.t 15)⟩,
  ⟨(some 17), none, .call 27 [(.t 16), (.c (.int .i64 (1))), (.c (.int .i64 (4)))]⟩,
  ⟨(some 18), none, .un .not (.t 17)⟩], false, []⟩
def Try.r_ref6_eventCode_3 : LReg := ⟨[⟨(some 8), none, .mv (.c (.int .i64 (4)))⟩], false, []⟩
def Try.r_ref6_eventCode_4 : LReg := ⟨[⟨(some 19), none, .fieldAddr 1 (.t 9)⟩,
  ⟨(some 20), none, .load 1 false (.t 19)⟩,
  ⟨(some 21), none, .mv (.t 1)⟩,
  ⟨(some 22), none, .bin .sub (.t 21) (.c (.int .i64 (1)))⟩,
  ⟨(some 23), none, .call 27 [(.t 20), (.c (.int .i64 (0))), (.t 22)]⟩,
  ⟨(some 24), none, .un .not (.t 23)⟩], false, []⟩
def Try.r_ref6_eventCode_5 : LReg := ⟨[⟨(some 8), none, .mv (.c (.int .i64 (3)))⟩], false, []⟩
def Try.r_ref6_eventCode_6 : LReg := ⟨[⟨(some 25), none, .fieldAddr 0 (.t 9)⟩,
  ⟨(some 26), none, .load 1 false (.t 25)⟩,
  ⟨(some 27), none, .bin .neq (.t 26) (.c (.int .i64 (1)))⟩,
  ⟨(some 28), none, .mv (.t 27)⟩,
  ⟨(some 29), (some (28, true)), .fieldAddr 2 (.t 9)⟩,
  ⟨(some 30), (some (28, true)), .load 1 false (.t 29)⟩,
  ⟨(some 31), (some (28, true)), .bin .neq (.t 30) (.c (.int .i64 (0)))⟩,
  ⟨(some 32), none, .pick (.t 28) (.t 31) (.c (.bool false))⟩,
  ⟨(some 33), none, .mv (.t 32)⟩,
  ⟨(some 34), (some (33, false)), .fieldAddr 0 (.t 9)⟩,
  ⟨(some 35), (some (33, false)), .load 1 false (.t 34)⟩,
  ⟨(some 36), (some (33, false)), .bin .neq (.t 35) (.c (.int .i64 (2)))⟩,
  ⟨(some 37), (some (33, false)), .mv (.t 36)⟩,
  ⟨(some 38), (some (37, true)), .fieldAddr 3 (.t 9)⟩,
  ⟨(some 39), (some (37, true)), .load 1 false (.t 38)⟩,
  ⟨(some 40), (some (37, true)), .bin .neq (.t 39) (.c (.int .i64 (0)))⟩,
  ⟨(some 41), (some (33, false)), .pick (.t 37) (.t 40) (.c (.bool false))⟩,
  ⟨(some 42), none, .pick (.t 33) (.c (.bool true)) (.t 41)⟩], false, []⟩
def Try.r_ref6_eventCode_7 : LReg := ⟨[⟨(some 8), none, .mv (.c (.int .i64 (5)))⟩], false, []⟩
def Try.r_ref6_eventCode_8 : LReg := ⟨[⟨(some 43), none, .fieldAddr 0 (.t 9)⟩,
  ⟨(some 44), none, .load 1 false (.t 43)⟩,
  ⟨(some 45), none, .bin .eql (.t 44) (.c (.int .i64 (1)))⟩,
  ⟨(some 46), none, .mv (.t 45)⟩,
  ⟨(some 47), (some (46, true)), .fieldAddr 2 (.t 9)⟩,
  ⟨(some 48), (some (46, true)), .load 1 false (.t 47)⟩,
  ⟨(some 49), (some (46, true)), .mv (.t 0)⟩,
  ⟨(some 50), (some (46, true)), .bin .sub (.t 49) (.c (.int .i64 (1)))⟩,
  ⟨(some 51), (some (46, true)), .call 27 [(.t 48), (.c (.int .i64 (0))), (.t 50)]⟩,
  ⟨(some 52), (some (46, true)), .un .not (.t 51)⟩,
  ⟨(some 53), none, .pick (.t 46) (.t 52) (.c (.bool false))⟩,
  ⟨(some 54), none, .mv (.t 53)⟩,
  ⟨(some 55), (some (54, false)), .fieldAddr 0 (.t 9)⟩,
  ⟨(some 56), (some (54, false)), .load 1 false (.t 55)⟩,
  ⟨(some 57), (some (54, false)), .bin .eql (.t 56) (.c (.int .i64 (2)))⟩,
  ⟨(some 58), (some (54, false)), .mv (.t 57)⟩,
  ⟨(some 59), (some (58, true)), .fieldAddr 3 (.t 9)⟩,
  ⟨(some 60), (some (58, true)), .load 1 false (.t 59)⟩,
  ⟨(some 61), (some (58, true)), .call 27 [(.t 60), (.c (.int .i64 (0))), (.c (.int .i64 (1000000000)))]⟩,
  ⟨(some 62), (some (58, true)), .un .not (.t 61)⟩,
  ⟨(some 63), (some (54, false)), .pick (.t 58) (.t 62) (.c (.bool false))⟩,
  ⟨(some 64), none, .pick (.t 54) (.c (.bool true)) (.t 63)⟩], false, []⟩
def Try.r_ref6_eventCode_9 : LReg := ⟨[⟨(some 8), none, .mv (.c (.int .i64 (3)))⟩], false, []⟩
def Try.r_ref6_eventCode_10 : LReg := ⟨[⟨(some 65), none, .mv (.t 2)⟩,
  ⟨(some 66), none, .mv (.t 3)⟩,
  ⟨(some 67), none, .slice 4 (.t 65) none (some (.t 66))⟩,
  ⟨(some 68), none, .fieldAddr 1 (.t 9)⟩,
  ⟨(some 69), none, .load 1 false (.t 68)⟩,
  ⟨(some 70), none, .call 20 [(.t 67), (.t 69)]⟩,
  ⟨(some 10), none, .mv (.t 70)⟩], true, [(2, 3), (2, 4)]⟩
def Try.r_ref6_eventCode_11 : LReg := ⟨[⟨(some 71), none, .fieldAddr 0 (.t 9)⟩,
  ⟨(some 72), none, .load 1 false (.t 71)⟩,
  ⟨(some 73), none, .bin .eql (.t 72) (.c (.int .i64 (1)))⟩,
  ⟨(some 74), none, .mv (.t 73)⟩,
  ⟨(some 75), (some (74, true)), .mv (.t 10)⟩,
  ⟨(some 76), (some (74, true)), .bin .neq (.t 75) (.c (.int .i64 (-1)))⟩,
  ⟨(some 77), none, .pick (.t 74) (.t 76) (.c (.bool false))⟩,
  ⟨(some 78), none, .mv (.t 77)⟩,
  ⟨(some 79), (some (78, false)), .fieldAddr 0 (.t 9)⟩,
  ⟨(some 80), (some (78, false)), .load 1 false (.t 79)⟩,
  ⟨(some 81), (some (78, false)), .bin .eql (.t 80) (.c (.int .i64 (2)))⟩,
  ⟨(some 82), (some (78, false)), .mv (.t 81)⟩,
  ⟨(some 83), (some (82, true)), .mv (.t 10)⟩,
  ⟨(some 84), (some (82, true)), .bin .lss (.t 83) (.c (.int .i64 (0)))⟩,
  ⟨(some 85), (some (78, false)), .pick (.t 82) (.t 84) (.c (.bool false))⟩,
  ⟨(some 86), none, .pick (.t 78) (.c (.bool true)) (.t 85)⟩,
  ⟨(some 87), none, .mv (.t 86)⟩,
  ⟨(some 88), (some (87, false)), .fieldAddr 0 (.t 9)⟩,
  ⟨(some 89), (some (87, false)), .load 1 false (.t 88)⟩,
  ⟨(some 90), (some (87, false)), .bin .eql (.t 89) (.c (.int .i64 (3)))⟩,
  ⟨(some 91), (some (87, false)), .mv (.t 90)⟩,
  ⟨(some 92), (some (91, true)), .mv (.t 10)⟩,
  ⟨(some 93), (some (91, true)), .bin .eql (.t 92) (.c (.int .i64 (-2)))⟩,
  ⟨(some 94), (some (87, false)), .pick (.t 91) (.t 93) (.c (.bool false))⟩,
  ⟨(some 95), none, .pick (.t 87) (.c (.bool true)) (.t 94)⟩,
  ⟨(some 96), none, .mv (.t 95)⟩,
  ⟨(some 97), (some (96, false)), .fieldAddr 0 (.t 9)⟩,
  ⟨(some 98), (some (96, false)), .load 1 false (.t 97)⟩,
  ⟨(some 99), (some (96, false)), .bin .eql (.t 98) (.c (.int .i64 (4)))⟩,
  ⟨(some 100), (some (96, false)), .mv (.t 99)⟩,
  ⟨(some 101), (some (100, true)), .mv (.t 10)⟩,
  ⟨(some 102), (some (100, true)), .bin .neq (.t 101) (.c (.int .i64 (-2)))⟩,
  ⟨(some 103), (some (96, false)), .pick (.t 100) (.t 102) (.c (.bool false))⟩,
  ⟨(some 104), none, .pick (.t 96) (.c (.bool true)) (.t 103)⟩], false, []⟩
def Try.r_ref6_eventCode_12 : LReg := ⟨[⟨(some 8), none, .mv (.c (.int .i64 (11)))⟩], false, []⟩
def Try.r_ref6_eventCode_13 : LReg := ⟨[⟨(some 105), none, .fieldAddr 0 (.t 9)⟩,
  ⟨(some 106), none, .load 1 false (.t 105)⟩,
  ⟨(some 107), none, .bin .eql (.t 106) (.c (.int .i64 (1)))⟩,
  ⟨(some 108), none, .mv (.t 107)⟩,
  ⟨(some 109), (some (108, true)), .mv (.t 2)⟩,
  ⟨(some 110), (some (108, true)), .mv (.t 3)⟩,
  ⟨(some 111), (some (108, true)), .slice 4 (.t 109) none (some (.t 110))⟩,
  ⟨(some 112), (some (108, true)), .fieldAddr 1 (.t 9)⟩,
  ⟨(some 113), (some (108, true)), .load 1 false (.t 112)⟩,
  ⟨(some 114), (some (108, true)), .fieldAddr 2 (.t 9)⟩,
  ⟨(some 115), (some (108, true)), .load 1 false (.t 114)⟩,
  ⟨(some 116), (some (108, true)), .call 16 [(.t 111), (.t 113), (.t 115)]⟩,
  ⟨(some 117), (some (108, true)), .bin .geq (.t 116) (.c (.int .i64 (0)))⟩,
  ⟨(some 118), none, .pick (.t 108) (.t 117) (.c (.bool false))⟩], true, [(6, 7), (6, 8), (6, 9), (7, 9), (8, 9), (6, 10), (7, 10), (8, 10)]⟩
def Try.r_ref6_eventCode_14 : LReg := ⟨[⟨(some 8), none, .mv (.c (.int .i64 (7)))⟩], false, []⟩
def Try.r_ref6_eventCode_15 : LReg := ⟨[⟨(some 8), none, .mv (.c (.int .i64 (0)))⟩], false, []⟩
def Try.l_ref6_eventCode : LCode := (.seq (.reg Try.r_ref6_eventCode_0) (.seq (.reg Try.r_ref6_eventCode_1) (.seq (.seq (.reg Try.r_ref6_eventCode_2) (.cond (.t 18) (.seq (.reg Try.r_ref6_eventCode_3) .ret) .skip)) (.seq (.seq (.reg Try.r_ref6_eventCode_4) (.cond (.t 24) (.seq (.reg Try.r_ref6_eventCode_5) .ret) .skip)) (.seq (.seq (.reg Try.r_ref6_eventCode_6) (.cond (.t 42) (.seq (.reg Try.r_ref6_eventCode_7) .ret) .skip)) (.seq (.seq (.reg Try.r_ref6_eventCode_8) (.cond (.t 64) (.seq (.reg Try.r_ref6_eventCode_9) .ret) .skip)) (.seq (.reg Try.r_ref6_eventCode_10) (.seq (.seq (.reg Try.r_ref6_eventCode_11) (.cond (.t 104) (.seq (.reg Try.r_ref6_eventCode_12) .ret) .skip)) (.seq (.seq (.reg Try.r_ref6_eventCode_13) (.cond (.t 118) (.seq (.reg Try.r_ref6_eventCode_14) .ret) .skip)) (.seq (.reg Try.r_ref6_eventCode_15) .ret))))))))))
theorem Try.c_ref6_eventCode : fnComp Try.prog 25 = some (119, Try.l_ref6_eventCode, [.t 8]) := by kernel_rfl

/- 10 changeforge/changeforgeref6.EventsFault -/
def Try.r_ref6_EventsFault_0 : LReg := ⟨[⟨(some 8), none, .alloc 25 2 [.int .i64 (0), .int .i64 (0)]⟩], false, []⟩
def Try.r_ref6_EventsFault_1 : LReg := ⟨[⟨(some 12), none, .mv (.t 0)⟩,
  ⟨(some 13), none, .mv (.t 1)⟩,
  ⟨(some 14), none, .mv (.t 2)⟩,
  ⟨(some 15), none, .call 23 [(.t 12), (.t 13), (.t 14)]⟩,
  ⟨(some 9), none, .alloc 25 2 [.int .i64 (0), .int .i64 (0)]⟩,
  ⟨none, none, .store 2 (.t 9) (.t 15)⟩], false, []⟩
def Try.r_ref6_EventsFault_2 : LReg := ⟨[⟨(some 16), none, .fieldAddr 0 (.t 9)⟩,
  ⟨(some 17), none, .load 1 false (.t 16)⟩,
  ⟨(some 18), none, .bin .neq (.t 17) (.c (.int .i64 (0)))⟩], false, []⟩
def Try.r_ref6_EventsFault_3 : LReg := ⟨[⟨(some 19), none, .load 2 true (.t 9)⟩,
  ⟨none, none, .store 2 (.t 8) (.t 19)⟩], false, []⟩
def Try.r_ref6_EventsFault_4 : LReg := ⟨[⟨(some 20), none, .mv (.t 3)⟩,
  ⟨(some 21), none, .len (.t 20)⟩,
  ⟨(some 22), none, .bin .gtr (.t 21) (.c (.int .i64 (40)))⟩], false, []⟩
def Try.r_ref6_EventsFault_5 : LReg := ⟨[⟨(some 23), none, .call 24 [(.c (.int .i64 (2))), (.c (.int .i64 (-1)))]⟩,
  ⟨none, none, .store 2 (.t 8) (.t 23)⟩], false, []⟩
def Try.r_ref6_EventsFault_6 : LReg := ⟨[⟨(some 10), none, .mv (.c (.int .i64 (0)))⟩], false, []⟩
def Try.r_ref6_EventsFault_7 : LReg := ⟨[⟨(some 24), none, .mv (.t 10)⟩,
  ⟨(some 25), none, .mv (.t 3)⟩,
  ⟨(some 26), none, .len (.t 25)⟩,
  ⟨(some 27), none, .bin .lss (.t 24) (.t 26)⟩], false, []⟩
def Try.r_ref6_EventsFault_8 : LReg := ⟨[⟨(some 30), none, .mv (.t 0)⟩,
  ⟨(some 31), none, .mv (.t 1)⟩,
  ⟨(some 32), none, .mv (.t 3)⟩,
  ⟨(some 33), none, .mv (.t 10)⟩,
  ⟨(some 34), none, .call 25 [(.t 30), (.t 31), (.t 32), (.t 33)]⟩,
  ⟨(some 11), none, .mv (.t 34)⟩], false, []⟩
def Try.r_ref6_EventsFault_9 : LReg := ⟨[⟨(some 35), none, .mv (.t 11)⟩,
  ⟨(some 36), none, .bin .neq (.t 35) (.c (.int .i64 (0)))⟩], false, []⟩
def Try.r_ref6_EventsFault_10 : LReg := ⟨[⟨(some 37), none, .mv (.t 11)⟩,
  ⟨(some 38), none, .mv (.t 10)⟩,
  ⟨(some 39), none, .call 24 [(.t 37), (.t 38)]⟩,
  ⟨none, none, .store 2 (.t 8) (.t 39)⟩], false, []⟩
def Try.r_ref6_EventsFault_11 : LReg := ⟨[⟨(some 28), none, .mv (.t 10)⟩,
  ⟨(some 29), none, .bin .add (.t 28) (.c (.int .i64 (1)))⟩,
  ⟨(some 10), none, .mv (.t 29)⟩], false, []⟩
def Try.r_ref6_EventsFault_12 : LReg := ⟨[⟨(some 40), none, .build [.int .i64 (0), .int .i64 (0)] []⟩,
  ⟨none, none, .store 2 (.t 8) (.t 40)⟩], false, []⟩
def Try.l_ref6_EventsFault : LCode := (.seq (.reg Try.r_ref6_EventsFault_0) (.seq (.reg Try.r_ref6_EventsFault_1) (.seq (.seq (.reg Try.r_ref6_EventsFault_2) (.cond (.t 18) (.seq (.reg Try.r_ref6_EventsFault_3) .ret) .skip)) (.seq (.seq (.reg Try.r_ref6_EventsFault_4) (.cond (.t 22) (.seq (.reg Try.r_ref6_EventsFault_5) .ret) .skip)) (.seq (.seq (.reg Try.r_ref6_EventsFault_6) (.block 0 (.loop (.seq (.seq (.reg Try.r_ref6_EventsFault_7) (.cond (.t 27) .skip (.exit 0))) (.seq (.block 1 (.seq (.reg Try.r_ref6_EventsFault_8) (.seq (.reg Try.r_ref6_EventsFault_9) (.cond (.t 36) (.seq (.reg Try.r_ref6_EventsFault_10) .ret) .skip)))) (.reg Try.r_ref6_EventsFault_11)))))) (.seq (.reg Try.r_ref6_EventsFault_12) .ret))))))
theorem Try.c_ref6_EventsFault : fnComp Try.prog 10 = some (41, Try.l_ref6_EventsFault, [.cell 8 2 true]) := by kernel_rfl

/- 12 changeforge/changeforgeref6.Accepted -/
def Try.r_ref6_Accepted_0 : LReg := ⟨[⟨(some 8), none, .mv (.c (.int .i64 (0)))⟩], false, []⟩
def Try.r_ref6_Accepted_1 : LReg := ⟨[⟨(some 9), none, .mv (.c (.int .i64 (0)))⟩], false, []⟩
def Try.r_ref6_Accepted_2 : LReg := ⟨[⟨(some 12), none, .mv (.t 9)⟩,
  ⟨(some 13), none, .mv (.t 0)⟩,
  ⟨(some 14), none, .len (.t 13)⟩,
  ⟨(some 15), none, .bin .lss (.t 12) (.t 14)⟩], false, []⟩
def Try.r_ref6_Accepted_3 : LReg := ⟨[⟨(some 18), none, .mv (.t 0)⟩,
  ⟨(some 19), none, .mv (.t 9)⟩,
  ⟨(some 20), none, .idx 4 (.t 18) (.t 19)⟩,
  ⟨(some 21), none, .fieldAddr 0 (.t 20)⟩,
  ⟨(some 22), none, .load 1 false (.t 21)⟩,
  ⟨(some 23), none, .bin .neq (.t 22) (.c (.int .i64 (2)))⟩,
  ⟨(some 24), none, .mv (.t 23)⟩,
  ⟨(some 25), (some (24, false)), .mv (.t 0)⟩,
  ⟨(some 26), (some (24, false)), .mv (.t 9)⟩,
  ⟨(some 27), (some (24, false)), .slice 4 (.t 25) none (some (.t 26))⟩,
  ⟨(some 28), (some (24, false)), .mv (.t 0)⟩,
  ⟨(some 29), (some (24, false)), .mv (.t 9)⟩,
  ⟨(some 30), (some (24, false)), .idx 4 (.t 28) (.t 29)⟩,
  ⟨(some 31), (some (24, false)), .fieldAddr 1 (.t 30)⟩,
  ⟨(some 32), (some (24, false)), .load 1 false (.t 31)⟩,
  ⟨(some 33), (some (24, false)), .call 20 [(.t 27), (.t 32)]⟩,
  ⟨(some 34), (some (24, false)), .mv (.t 3)⟩,
  ⟨(some 35), (some (24, false)), .bin .neq (.t 33) (.t 34)⟩,
  ⟨(some 36), none, .pick (.t 24) (.c (.bool true)) (.t 35)⟩], true, [(9, 12), (9, 13), (9, 14)]⟩
def Try.r_ref6_Accepted_4 : LReg := ⟨[⟨(some 10), none, .mv (.c (.int .i64 (0)))⟩], false, []⟩
def Try.r_ref6_Accepted_5 : LReg := ⟨[⟨(some 11), none, .mv (.c (.int .i64 (0)))⟩], false, []⟩
def Try.r_ref6_Accepted_6 : LReg := ⟨[⟨(some 37), none, .mv (.t 11)⟩,
  ⟨(some 38), none, .mv (.t 1)⟩,
  ⟨(some 39), none, .bin .lss (.t 37) (.t 38)⟩], false, []⟩
def Try.r_ref6_Accepted_7 : LReg := ⟨[⟨(some 42), none, .mv (.t 0)⟩,
  ⟨(some 43), none, .mv (.t 9)⟩,
  ⟨(some 44), none, .bin .add (.t 43) (.c (.int .i64 (1)))⟩,
  ⟨(some 45), none, .slice 4 (.t 42) none (some (.t 44))⟩,
  ⟨(some 46), none, .mv (.t 11)⟩,
  ⟨(some 47), none, .mv (.t 3)⟩,
  ⟨(some 48), none, .call 16 [(.t 45), (.t 46), (.t 47)]⟩,
  ⟨(some 49), none, .mv (.t 0)⟩,
  ⟨(some 50), none, .mv (.t 9)⟩,
  ⟨(some 51), none, .idx 4 (.t 49) (.t 50)⟩,
  ⟨(some 52), none, .fieldAddr 3 (.t 51)⟩,
  ⟨(some 53), none, .load 1 false (.t 52)⟩,
  ⟨(some 54), none, .bin .eql (.t 48) (.t 53)⟩], true, [(3, 9), (6, 9), (3, 10), (6, 10), (3, 11), (6, 11)]⟩
def Try.r_ref6_Accepted_8 : LReg := ⟨[⟨(some 55), none, .mv (.t 10)⟩,
  ⟨(some 56), none, .bin .add (.t 55) (.c (.int .i64 (1)))⟩,
  ⟨(some 10), none, .mv (.t 56)⟩], false, []⟩
def Try.r_ref6_Accepted_9 : LReg := ⟨[⟨(some 40), none, .mv (.t 11)⟩,
  ⟨(some 41), none, .bin .add (.t 40) (.c (.int .i64 (1)))⟩,
  ⟨(some 11), none, .mv (.t 41)⟩], false, []⟩
def Try.r_ref6_Accepted_10 : LReg := ⟨[⟨(some 57), none, .mv (.t 10)⟩,
  ⟨(some 58), none, .mv (.t 2)⟩,
  ⟨(some 59), none, .bin .geq (.t 57) (.t 58)⟩], false, []⟩
def Try.r_ref6_Accepted_11 : LReg := ⟨[⟨(some 60), none, .mv (.t 0)⟩,
  ⟨(some 61), none, .mv (.t 9)⟩,
  ⟨(some 62), none, .idx 4 (.t 60) (.t 61)⟩,
  ⟨(some 63), none, .fieldAddr 3 (.t 62)⟩,
  ⟨(some 64), none, .load 1 false (.t 63)⟩,
  ⟨(some 8), none, .mv (.t 64)⟩], false, []⟩
def Try.r_ref6_Accepted_12 : LReg := ⟨[⟨(some 16), none, .mv (.t 9)⟩,
  ⟨(some 17), none, .bin .add (.t 16) (.c (.int .i64 (1)))⟩,
  ⟨(some 9), none, .mv (.t 17)⟩], false, []⟩
def Try.r_ref6_Accepted_13 : LReg := ⟨[⟨(some 8), none, .mv (.c (.int .i64 (-1)))⟩], false, []⟩
def Try.l_ref6_Accepted : LCode := (.seq (.reg Try.r_ref6_Accepted_0) (.seq (.seq (.reg Try.r_ref6_Accepted_1) (.block 0 (.loop (.seq (.seq (.reg Try.r_ref6_Accepted_2) (.cond (.t 15) .skip (.exit 0))) (.seq (.block 1 (.seq (.seq (.reg Try.r_ref6_Accepted_3) (.cond (.t 36) (.exit 1) .skip)) (.seq (.reg Try.r_ref6_Accepted_4) (.seq (.seq (.reg Try.r_ref6_Accepted_5) (.block 2 (.loop (.seq (.seq (.reg Try.r_ref6_Accepted_6) (.cond (.t 39) .skip (.exit 2))) (.seq (.block 3 (.seq (.reg Try.r_ref6_Accepted_7) (.cond (.t 54) (.reg Try.r_ref6_Accepted_8) .skip))) (.reg Try.r_ref6_Accepted_9)))))) (.seq (.reg Try.r_ref6_Accepted_10) (.cond (.t 59) (.seq (.reg Try.r_ref6_Accepted_11) .ret) .skip)))))) (.reg Try.r_ref6_Accepted_12)))))) (.seq (.reg Try.r_ref6_Accepted_13) .ret)))
theorem Try.c_ref6_Accepted : fnComp Try.prog 12 = some (65, Try.l_ref6_Accepted, [.t 8]) := by kernel_rfl

/- 13 changeforge/changeforgelaw6.in -/
def Try.r_law6_in_0 : LReg := ⟨[⟨(some 6), none, .mv (.c (.bool false))⟩], false, []⟩
def Try.r_law6_in_1 : LReg := ⟨[⟨(some 7), none, .mv (.t 0)⟩,
  ⟨(some 8), none, .mv (.t 1)⟩,
  ⟨(some 9), none, .bin .geq (.t 7) (.t 8)⟩,
  ⟨(some 10), none, .mv (.t 9)⟩,
  ⟨(some 11), (some (10, true)), .mv (.t 0)⟩,
  ⟨(some 12), (some (10, true)), .mv (.t 2)⟩,
  ⟨(some 13), (some (10, true)), .bin .leq (.t 11) (.t 12)⟩,
  ⟨(some 14), none, .pick (.t 10) (.t 13) (.c (.bool false))⟩,
  ⟨(some 6), none, .mv (.t 14)⟩], false, []⟩
def Try.l_law6_in : LCode := (.seq (.reg Try.r_law6_in_0) (.seq (.reg Try.r_law6_in_1) .ret))
theorem Try.c_law6_in : fnComp Try.prog 13 = some (15, Try.l_law6_in, [.t 6]) := by kernel_rfl

/- 3 changeforge/changeforgelaw6.WorkersMatchSpec -/
def Try.r_law6_WorkersMatchSpec_0 : LReg := ⟨[⟨(some 10), none, .mv (.c (.bool false))⟩], false, []⟩
def Try.r_law6_WorkersMatchSpec_1 : LReg := ⟨[⟨(some 17), none, .call 9 []⟩,
  ⟨(some 18), none, .un .not (.t 17)⟩], false, []⟩
def Try.r_law6_WorkersMatchSpec_2 : LReg := ⟨[⟨(some 10), none, .mv (.c (.bool false))⟩], false, []⟩
def Try.r_law6_WorkersMatchSpec_3 : LReg := ⟨[⟨(some 19), none, .mv (.t 0)⟩,
  ⟨(some 20), none, .mv (.t 1)⟩,
  ⟨(some 21), none, .mv (.t 2)⟩,
  ⟨(some 22), none, .mv (.t 3)⟩,
  ⟨(some 23), none, .call 10 [(.t 19), (.t 20), (.t 21), (.t 22)]⟩,
  ⟨(some 11), none, .alloc 25 2 [.int .i64 (0), .int .i64 (0)]⟩,
  ⟨none, none, .store 2 (.t 11) (.t 23)⟩], false, []⟩
def Try.r_law6_WorkersMatchSpec_4 : LReg := ⟨[⟨(some 25), none, .mv (.t 0)⟩,
  ⟨(some 26), none, .mv (.t 1)⟩,
  ⟨(some 27), none, .mv (.t 2)⟩,
  ⟨(some 28), none, .mv (.t 3)⟩,
  ⟨(some 29), none, .call 11 [(.t 25), (.t 26), (.t 27), (.t 28)]⟩,
  ⟨(some 24), none, .mv (.t 29)⟩,
  ⟨(some 30), none, .extract 0 (.t 24)⟩,
  ⟨(some 31), none, .extract 1 (.t 24)⟩,
  ⟨(some 13), none, .alloc 25 2 [.int .i64 (0), .int .i64 (0)]⟩,
  ⟨(some 12), none, .mv (.t 30)⟩,
  ⟨none, none, .store 2 (.t 13) (.t 31)⟩], false, []⟩
def Try.r_law6_WorkersMatchSpec_5 : LReg := ⟨[⟨(some 32), none, .load 2 true (.t 13)⟩,
  ⟨(some 33), none, .load 2 true (.t 11)⟩,
  ⟨(some 34), none, .eqs true [0, 0] (.t 32) (.t 33)⟩,
  ⟨(some 35), none, .mv (.t 34)⟩,
  ⟨(some 36), (some (35, false)), .fieldAddr 0 (.t 11)⟩,
  ⟨(some 37), (some (35, false)), .load 1 false (.t 36)⟩,
  ⟨(some 38), (some (35, false)), .bin .neq (.t 37) (.c (.int .i64 (0)))⟩,
  ⟨(some 39), (some (35, false)), .mv (.t 38)⟩,
  ⟨(some 40), (some (39, true)), .mv (.t 12)⟩,
  ⟨(some 41), (some (39, true)), .len (.t 40)⟩,
  ⟨(some 42), (some (39, true)), .bin .gtr (.t 41) (.c (.int .i64 (0)))⟩,
  ⟨(some 43), (some (35, false)), .pick (.t 39) (.t 42) (.c (.bool false))⟩,
  ⟨(some 44), none, .pick (.t 35) (.c (.bool true)) (.t 43)⟩,
  ⟨(some 45), none, .mv (.t 44)⟩,
  ⟨(some 46), (some (45, false)), .fieldAddr 0 (.t 11)⟩,
  ⟨(some 47), (some (45, false)), .load 1 false (.t 46)⟩,
  ⟨(some 48), (some (45, false)), .bin .eql (.t 47) (.c (.int .i64 (0)))⟩,
  ⟨(some 49), (some (45, false)), .mv (.t 48)⟩,
  ⟨(some 50), (some (49, true)), .mv (.t 12)⟩,
  ⟨(some 51), (some (49, true)), .len (.t 50)⟩,
  ⟨(some 52), (some (49, true)), .mv (.t 0)⟩,
  ⟨(some 53), (some (49, true)), .bin .neq (.t 51) (.t 52)⟩,
  ⟨(some 54), (some (45, false)), .pick (.t 49) (.t 53) (.c (.bool false))⟩,
  ⟨(some 55), none, .pick (.t 45) (.c (.bool true)) (.t 54)⟩], false, []⟩
def Try.r_law6_WorkersMatchSpec_6 : LReg := ⟨[⟨(some 10), none, .mv (.c (.bool false))⟩], false, []⟩
def Try.r_law6_WorkersMatchSpec_7 : LReg := ⟨[⟨(some 14), none, .mv (.c (.int .i64 (0)))⟩], false, []⟩
def Try.r_law6_WorkersMatchSpec_8 : LReg := ⟨[⟨(some 56), none, .mv (.t 14)⟩,
  ⟨(some 57), none, .mv (.t 12)⟩,
  ⟨(some 58), none, .len (.t 57)⟩,
  ⟨(some 59), none, .bin .lss (.t 56) (.t 58)⟩], false, []⟩
def Try.r_law6_WorkersMatchSpec_9 : LReg := ⟨[⟨(some 62), none, .mv (.t 12)⟩,
  ⟨(some 63), none, .mv (.t 14)⟩,
  ⟨(some 64), none, .idx 1 (.t 62) (.t 63)⟩,
  ⟨(some 65), none, .load 1 false (.t 64)⟩,
  ⟨(some 66), none, .mv (.t 3)⟩,
  ⟨(some 67), none, .mv (.t 1)⟩,
  ⟨(some 68), none, .mv (.t 2)⟩,
  ⟨(some 69), none, .mv (.t 14)⟩,
  ⟨(some 70), none, .call 12 [(.t 66), (.t 67), (.t 68), (.t 69)]⟩,
  ⟨(some 71), none, .bin .neq (.t 65) (.t 70)⟩], true, [(2, 8), (3, 8)]⟩
def Try.r_law6_WorkersMatchSpec_10 : LReg := ⟨[⟨(some 10), none, .mv (.c (.bool false))⟩], false, []⟩
def Try.r_law6_WorkersMatchSpec_11 : LReg := ⟨[⟨(some 60), none, .mv (.t 14)⟩,
  ⟨(some 61), none, .bin .add (.t 60) (.c (.int .i64 (1)))⟩,
  ⟨(some 14), none, .mv (.t 61)⟩], false, []⟩
def Try.r_law6_WorkersMatchSpec_12 : LReg := ⟨[⟨(some 72), none, .fieldAddr 0 (.t 11)⟩,
  ⟨(some 73), none, .load 1 false (.t 72)⟩,
  ⟨(some 74), none, .bin .eql (.t 73) (.c (.int .i64 (0)))⟩,
  ⟨(some 75), none, .mv (.t 74)⟩,
  ⟨(some 76), (some (75, true)), .mv (.t 4)⟩,
  ⟨(some 77), (some (75, true)), .mv (.t 0)⟩,
  ⟨(some 78), (some (75, true)), .bin .sub (.t 77) (.c (.int .i64 (1)))⟩,
  ⟨(some 79), (some (75, true)), .call 13 [(.t 76), (.c (.int .i64 (0))), (.t 78)]⟩,
  ⟨(some 80), (some (75, true)), .un .not (.t 79)⟩,
  ⟨(some 81), none, .pick (.t 75) (.t 80) (.c (.bool false))⟩], false, []⟩
def Try.r_law6_WorkersMatchSpec_13 : LReg := ⟨[⟨(some 82), none, .call 14 [(.c (.int .i64 (3))), (.c (.int .i64 (-2)))]⟩,
  ⟨none, none, .store 2 (.t 11) (.t 82)⟩], false, []⟩
def Try.r_law6_WorkersMatchSpec_14 : LReg := ⟨[⟨(some 84), none, .mv (.t 0)⟩,
  ⟨(some 85), none, .mv (.t 1)⟩,
  ⟨(some 86), none, .mv (.t 2)⟩,
  ⟨(some 87), none, .mv (.t 3)⟩,
  ⟨(some 88), none, .mv (.t 4)⟩,
  ⟨(some 89), none, .call 15 [(.t 84), (.t 85), (.t 86), (.t 87), (.t 88)]⟩,
  ⟨(some 83), none, .mv (.t 89)⟩,
  ⟨(some 90), none, .extract 0 (.t 83)⟩,
  ⟨(some 91), none, .extract 1 (.t 83)⟩,
  ⟨(some 15), none, .mv (.t 90)⟩,
  ⟨none, none, .store 2 (.t 13) (.t 91)⟩], false, []⟩
def Try.r_law6_WorkersMatchSpec_15 : LReg := ⟨[⟨(some 92), none, .load 2 true (.t 13)⟩,
  ⟨(some 93), none, .load 2 true (.t 11)⟩,
  ⟨(some 94), none, .eqs true [0, 0] (.t 92) (.t 93)⟩,
  ⟨(some 95), none, .mv (.t 94)⟩,
  ⟨(some 96), (some (95, false)), .fieldAddr 0 (.t 11)⟩,
  ⟨(some 97), (some (95, false)), .load 1 false (.t 96)⟩,
  ⟨(some 98), (some (95, false)), .bin .neq (.t 97) (.c (.int .i64 (0)))⟩,
  ⟨(some 99), none, .pick (.t 95) (.c (.bool true)) (.t 98)⟩], false, []⟩
def Try.r_law6_WorkersMatchSpec_16 : LReg := ⟨[⟨(some 100), none, .load 2 true (.t 13)⟩,
  ⟨(some 101), none, .load 2 true (.t 11)⟩,
  ⟨(some 102), none, .eqs false [0, 0] (.t 100) (.t 101)⟩,
  ⟨(some 103), none, .mv (.t 102)⟩,
  ⟨(some 104), (some (103, true)), .mv (.t 15)⟩,
  ⟨(some 105), (some (103, true)), .len (.t 104)⟩,
  ⟨(some 106), (some (103, true)), .bin .eql (.t 105) (.c (.int .i64 (0)))⟩,
  ⟨(some 107), none, .pick (.t 103) (.t 106) (.c (.bool false))⟩,
  ⟨(some 10), none, .mv (.t 107)⟩], false, []⟩
def Try.r_law6_WorkersMatchSpec_17 : LReg := ⟨[⟨(some 16), none, .mv (.c (.int .i64 (0)))⟩], false, []⟩
def Try.r_law6_WorkersMatchSpec_18 : LReg := ⟨[⟨(some 108), none, .mv (.t 16)⟩,
  ⟨(some 109), none, .mv (.t 15)⟩,
  ⟨(some 110), none, .len (.t 109)⟩,
  ⟨(some 111), none, .bin .lss (.t 108) (.t 110)⟩], false, []⟩
def Try.r_law6_WorkersMatchSpec_19 : LReg := ⟨[⟨(some 114), none, .mv (.t 15)⟩,
  ⟨(some 115), none, .mv (.t 16)⟩,
  ⟨(some 116), none, .idx 1 (.t 114) (.t 115)⟩,
  ⟨(some 117), none, .load 1 false (.t 116)⟩,
  ⟨(some 118), none, .mv (.t 3)⟩,
  ⟨(some 119), none, .mv (.t 16)⟩,
  ⟨(some 120), none, .mv (.t 4)⟩,
  ⟨(some 121), none, .call 16 [(.t 118), (.t 119), (.t 120)]⟩,
  ⟨(some 122), none, .bin .neq (.t 117) (.t 121)⟩], true, [(2, 7), (3, 7)]⟩
def Try.r_law6_WorkersMatchSpec_20 : LReg := ⟨[⟨(some 10), none, .mv (.c (.bool false))⟩], false, []⟩
def Try.r_law6_WorkersMatchSpec_21 : LReg := ⟨[⟨(some 112), none, .mv (.t 16)⟩,
  ⟨(some 113), none, .bin .add (.t 112) (.c (.int .i64 (1)))⟩,
  ⟨(some 16), none, .mv (.t 113)⟩], false, []⟩
def Try.r_law6_WorkersMatchSpec_22 : LReg := ⟨[⟨(some 123), none, .mv (.t 15)⟩,
  ⟨(some 124), none, .len (.t 123)⟩,
  ⟨(some 125), none, .mv (.t 1)⟩,
  ⟨(some 126), none, .bin .eql (.t 124) (.t 125)⟩,
  ⟨(some 10), none, .mv (.t 126)⟩], false, []⟩
def Try.l_law6_WorkersMatchSpec : LCode := (.seq (.reg Try.r_law6_WorkersMatchSpec_0) (.seq (.seq (.reg Try.r_law6_WorkersMatchSpec_1) (.cond (.t 18) (.seq (.reg Try.r_law6_WorkersMatchSpec_2) .ret) .skip)) (.seq (.reg Try.r_law6_WorkersMatchSpec_3) (.seq (.reg Try.r_law6_WorkersMatchSpec_4) (.seq (.seq (.reg Try.r_law6_WorkersMatchSpec_5) (.cond (.t 55) (.seq (.reg Try.r_law6_WorkersMatchSpec_6) .ret) .skip)) (.seq (.seq (.reg Try.r_law6_WorkersMatchSpec_7) (.block 0 (.loop (.seq (.seq (.reg Try.r_law6_WorkersMatchSpec_8) (.cond (.t 59) .skip (.exit 0))) (.seq (.block 1 (.seq (.reg Try.r_law6_WorkersMatchSpec_9) (.cond (.t 71) (.seq (.reg Try.r_law6_WorkersMatchSpec_10) .ret) .skip))) (.reg Try.r_law6_WorkersMatchSpec_11)))))) (.seq (.seq (.reg Try.r_law6_WorkersMatchSpec_12) (.cond (.t 81) (.reg Try.r_law6_WorkersMatchSpec_13) .skip)) (.seq (.reg Try.r_law6_WorkersMatchSpec_14) (.seq (.seq (.reg Try.r_law6_WorkersMatchSpec_15) (.cond (.t 99) (.seq (.reg Try.r_law6_WorkersMatchSpec_16) .ret) .skip)) (.seq (.seq (.reg Try.r_law6_WorkersMatchSpec_17) (.block 2 (.loop (.seq (.seq (.reg Try.r_law6_WorkersMatchSpec_18) (.cond (.t 111) .skip (.exit 2))) (.seq (.block 3 (.seq (.reg Try.r_law6_WorkersMatchSpec_19) (.cond (.t 122) (.seq (.reg Try.r_law6_WorkersMatchSpec_20) .ret) .skip))) (.reg Try.r_law6_WorkersMatchSpec_21)))))) (.seq (.reg Try.r_law6_WorkersMatchSpec_22) .ret)))))))))))
theorem Try.c_law6_WorkersMatchSpec : fnComp Try.prog 3 = some (127, Try.l_law6_WorkersMatchSpec, [.t 10]) := by kernel_rfl

/- 18 changeforge/changeforgelaw6.free -/
def Try.r_law6_free_0 : LReg := ⟨[⟨(some 6), none, .mv (.c (.bool false))⟩], false, []⟩
def Try.r_law6_free_1 : LReg := ⟨[⟨(some 7), none, .mv (.t 0)⟩,
  ⟨(some 8), none, .mv (.t 1)⟩,
  ⟨(some 9), none, .call 20 [(.t 7), (.t 8)]⟩,
  ⟨(some 10), none, .bin .eql (.t 9) (.c (.int .i64 (-1)))⟩,
  ⟨(some 11), none, .mv (.t 10)⟩,
  ⟨(some 12), (some (11, true)), .mv (.t 0)⟩,
  ⟨(some 13), (some (11, true)), .mv (.t 1)⟩,
  ⟨(some 14), (some (11, true)), .mv (.t 2)⟩,
  ⟨(some 15), (some (11, true)), .call 16 [(.t 12), (.t 13), (.t 14)]⟩,
  ⟨(some 16), (some (11, true)), .bin .lss (.t 15) (.c (.int .i64 (0)))⟩,
  ⟨(some 17), none, .pick (.t 11) (.t 16) (.c (.bool false))⟩,
  ⟨(some 6), none, .mv (.t 17)⟩], false, []⟩
def Try.l_law6_free : LCode := (.seq (.reg Try.r_law6_free_0) (.seq (.reg Try.r_law6_free_1) .ret))
theorem Try.c_law6_free : fnComp Try.prog 18 = some (18, Try.l_law6_free, [.t 6]) := by kernel_rfl

/- 4 changeforge/changeforgelaw6.WorkersNextMatchesSpec -/
def Try.r_law6_WorkersNextMatchesSpec_0 : LReg := ⟨[⟨(some 8), none, .mv (.c (.bool false))⟩], false, []⟩
def Try.r_law6_WorkersNextMatchesSpec_1 : LReg := ⟨[⟨(some 16), none, .mv (.t 0)⟩,
  ⟨(some 17), none, .mv (.t 1)⟩,
  ⟨(some 18), none, .mv (.t 2)⟩,
  ⟨(some 19), none, .mv (.t 3)⟩,
  ⟨(some 20), none, .call 10 [(.t 16), (.t 17), (.t 18), (.t 19)]⟩,
  ⟨(some 9), none, .alloc 25 2 [.int .i64 (0), .int .i64 (0)]⟩,
  ⟨none, none, .store 2 (.t 9) (.t 20)⟩], false, []⟩
def Try.r_law6_WorkersNextMatchesSpec_2 : LReg := ⟨[⟨(some 22), none, .mv (.t 0)⟩,
  ⟨(some 23), none, .mv (.t 1)⟩,
  ⟨(some 24), none, .mv (.t 2)⟩,
  ⟨(some 25), none, .mv (.t 3)⟩,
  ⟨(some 26), none, .call 17 [(.t 22), (.t 23), (.t 24), (.t 25)]⟩,
  ⟨(some 21), none, .mv (.t 26)⟩,
  ⟨(some 27), none, .extract 0 (.t 21)⟩,
  ⟨(some 28), none, .extract 1 (.t 21)⟩,
  ⟨(some 29), none, .extract 2 (.t 21)⟩,
  ⟨(some 30), none, .extract 3 (.t 21)⟩,
  ⟨(some 13), none, .alloc 25 2 [.int .i64 (0), .int .i64 (0)]⟩,
  ⟨(some 10), none, .mv (.t 27)⟩,
  ⟨(some 11), none, .mv (.t 28)⟩,
  ⟨(some 12), none, .mv (.t 29)⟩,
  ⟨none, none, .store 2 (.t 13) (.t 30)⟩], false, []⟩
def Try.r_law6_WorkersNextMatchesSpec_3 : LReg := ⟨[⟨(some 31), none, .call 9 []⟩,
  ⟨(some 32), none, .un .not (.t 31)⟩,
  ⟨(some 33), none, .mv (.t 32)⟩,
  ⟨(some 34), (some (33, false)), .load 2 true (.t 13)⟩,
  ⟨(some 35), (some (33, false)), .load 2 true (.t 9)⟩,
  ⟨(some 36), (some (33, false)), .eqs true [0, 0] (.t 34) (.t 35)⟩,
  ⟨(some 37), none, .pick (.t 33) (.c (.bool true)) (.t 36)⟩,
  ⟨(some 38), none, .mv (.t 37)⟩,
  ⟨(some 39), (some (38, false)), .mv (.t 12)⟩,
  ⟨(some 40), (some (38, false)), .un .not (.t 39)⟩,
  ⟨(some 41), (some (38, false)), .mv (.t 40)⟩,
  ⟨(some 42), (some (41, true)), .mv (.t 10)⟩,
  ⟨(some 43), (some (41, true)), .bin .neq (.t 42) (.c (.int .i64 (0)))⟩,
  ⟨(some 44), (some (41, true)), .mv (.t 43)⟩,
  ⟨(some 45), (some (44, false)), .mv (.t 11)⟩,
  ⟨(some 46), (some (44, false)), .bin .neq (.t 45) (.c (.int .i64 (0)))⟩,
  ⟨(some 47), (some (41, true)), .pick (.t 44) (.c (.bool true)) (.t 46)⟩,
  ⟨(some 48), (some (38, false)), .pick (.t 41) (.t 47) (.c (.bool false))⟩,
  ⟨(some 49), none, .pick (.t 38) (.c (.bool true)) (.t 48)⟩], false, []⟩
def Try.r_law6_WorkersNextMatchesSpec_4 : LReg := ⟨[⟨(some 8), none, .mv (.c (.bool false))⟩], false, []⟩
def Try.r_law6_WorkersNextMatchesSpec_5 : LReg := ⟨[⟨(some 14), none, .mv (.c (.int .i64 (0)))⟩], false, []⟩
def Try.r_law6_WorkersNextMatchesSpec_6 : LReg := ⟨[⟨(some 50), none, .fieldAddr 0 (.t 9)⟩,
  ⟨(some 51), none, .load 1 false (.t 50)⟩,
  ⟨(some 52), none, .bin .eql (.t 51) (.c (.int .i64 (0)))⟩,
  ⟨(some 53), none, .mv (.t 52)⟩,
  ⟨(some 54), (some (53, true)), .mv (.t 14)⟩,
  ⟨(some 55), (some (53, true)), .mv (.t 0)⟩,
  ⟨(some 56), (some (53, true)), .bin .lss (.t 54) (.t 55)⟩,
  ⟨(some 57), none, .pick (.t 53) (.t 56) (.c (.bool false))⟩], false, []⟩
def Try.r_law6_WorkersNextMatchesSpec_7 : LReg := ⟨[⟨(some 15), none, .mv (.c (.int .i64 (0)))⟩], false, []⟩
def Try.r_law6_WorkersNextMatchesSpec_8 : LReg := ⟨[⟨(some 60), none, .mv (.t 15)⟩,
  ⟨(some 61), none, .mv (.t 1)⟩,
  ⟨(some 62), none, .bin .lss (.t 60) (.t 61)⟩], false, []⟩
def Try.r_law6_WorkersNextMatchesSpec_9 : LReg := ⟨[⟨(some 65), none, .mv (.t 3)⟩,
  ⟨(some 66), none, .mv (.t 1)⟩,
  ⟨(some 67), none, .mv (.t 2)⟩,
  ⟨(some 68), none, .mv (.t 14)⟩,
  ⟨(some 69), none, .call 12 [(.t 65), (.t 66), (.t 67), (.t 68)]⟩,
  ⟨(some 70), none, .bin .lss (.t 69) (.c (.int .i64 (0)))⟩,
  ⟨(some 71), none, .mv (.t 70)⟩,
  ⟨(some 72), (some (71, true)), .mv (.t 3)⟩,
  ⟨(some 73), (some (71, true)), .mv (.t 15)⟩,
  ⟨(some 74), (some (71, true)), .mv (.t 14)⟩,
  ⟨(some 75), (some (71, true)), .call 18 [(.t 72), (.t 73), (.t 74)]⟩,
  ⟨(some 76), none, .pick (.t 71) (.t 75) (.c (.bool false))⟩], false, []⟩
def Try.r_law6_WorkersNextMatchesSpec_10 : LReg := ⟨[⟨(some 77), none, .mv (.t 12)⟩,
  ⟨(some 78), none, .mv (.t 77)⟩,
  ⟨(some 79), (some (78, true)), .mv (.t 10)⟩,
  ⟨(some 80), (some (78, true)), .mv (.t 14)⟩,
  ⟨(some 81), (some (78, true)), .bin .eql (.t 79) (.t 80)⟩,
  ⟨(some 82), none, .pick (.t 78) (.t 81) (.c (.bool false))⟩,
  ⟨(some 83), none, .mv (.t 82)⟩,
  ⟨(some 84), (some (83, true)), .mv (.t 11)⟩,
  ⟨(some 85), (some (83, true)), .mv (.t 15)⟩,
  ⟨(some 86), (some (83, true)), .bin .eql (.t 84) (.t 85)⟩,
  ⟨(some 87), none, .pick (.t 83) (.t 86) (.c (.bool false))⟩,
  ⟨(some 8), none, .mv (.t 87)⟩], false, []⟩
def Try.r_law6_WorkersNextMatchesSpec_11 : LReg := ⟨[⟨(some 63), none, .mv (.t 15)⟩,
  ⟨(some 64), none, .bin .add (.t 63) (.c (.int .i64 (1)))⟩,
  ⟨(some 15), none, .mv (.t 64)⟩], false, []⟩
def Try.r_law6_WorkersNextMatchesSpec_12 : LReg := ⟨[⟨(some 58), none, .mv (.t 14)⟩,
  ⟨(some 59), none, .bin .add (.t 58) (.c (.int .i64 (1)))⟩,
  ⟨(some 14), none, .mv (.t 59)⟩], false, []⟩
def Try.r_law6_WorkersNextMatchesSpec_13 : LReg := ⟨[⟨(some 88), none, .mv (.t 12)⟩,
  ⟨(some 89), none, .un .not (.t 88)⟩,
  ⟨(some 8), none, .mv (.t 89)⟩], false, []⟩
def Try.l_law6_WorkersNextMatchesSpec : LCode := (.seq (.reg Try.r_law6_WorkersNextMatchesSpec_0) (.seq (.reg Try.r_law6_WorkersNextMatchesSpec_1) (.seq (.reg Try.r_law6_WorkersNextMatchesSpec_2) (.seq (.seq (.reg Try.r_law6_WorkersNextMatchesSpec_3) (.cond (.t 49) (.seq (.reg Try.r_law6_WorkersNextMatchesSpec_4) .ret) .skip)) (.seq (.seq (.reg Try.r_law6_WorkersNextMatchesSpec_5) (.block 0 (.loop (.seq (.seq (.reg Try.r_law6_WorkersNextMatchesSpec_6) (.cond (.t 57) .skip (.exit 0))) (.seq (.block 1 (.seq (.reg Try.r_law6_WorkersNextMatchesSpec_7) (.block 2 (.loop (.seq (.seq (.reg Try.r_law6_WorkersNextMatchesSpec_8) (.cond (.t 62) .skip (.exit 2))) (.seq (.block 3 (.seq (.reg Try.r_law6_WorkersNextMatchesSpec_9) (.cond (.t 76) (.seq (.reg Try.r_law6_WorkersNextMatchesSpec_10) .ret) .skip))) (.reg Try.r_law6_WorkersNextMatchesSpec_11))))))) (.reg Try.r_law6_WorkersNextMatchesSpec_12)))))) (.seq (.reg Try.r_law6_WorkersNextMatchesSpec_13) .ret))))))
theorem Try.c_law6_WorkersNextMatchesSpec : fnComp Try.prog 4 = some (90, Try.l_law6_WorkersNextMatchesSpec, [.t 8]) := by kernel_rfl

/- 5 changeforge/changeforgelaw6.WorkersLiarsAreOutvoted -/
def Try.r_law6_WorkersLiarsAreOutvoted_0 : LReg := ⟨[⟨(some 12), none, .mv (.c (.bool false))⟩], false, []⟩
def Try.r_law6_WorkersLiarsAreOutvoted_1 : LReg := ⟨[⟨(some 20), none, .mv (.t 0)⟩,
  ⟨(some 21), none, .mv (.t 1)⟩,
  ⟨(some 22), none, .mv (.t 2)⟩,
  ⟨(some 23), none, .mv (.t 3)⟩,
  ⟨(some 24), none, .call 11 [(.t 20), (.t 21), (.t 22), (.t 23)]⟩,
  ⟨(some 19), none, .mv (.t 24)⟩,
  ⟨(some 25), none, .extract 0 (.t 19)⟩,
  ⟨(some 26), none, .extract 1 (.t 19)⟩,
  ⟨(some 14), none, .alloc 25 2 [.int .i64 (0), .int .i64 (0)]⟩,
  ⟨(some 13), none, .mv (.t 25)⟩,
  ⟨none, none, .store 2 (.t 14) (.t 26)⟩], false, []⟩
def Try.r_law6_WorkersLiarsAreOutvoted_2 : LReg := ⟨[⟨(some 28), none, .mv (.t 0)⟩,
  ⟨(some 29), none, .mv (.t 1)⟩,
  ⟨(some 30), none, .mv (.t 2)⟩,
  ⟨(some 31), none, .mv (.t 3)⟩,
  ⟨(some 32), none, .mv (.t 4)⟩,
  ⟨(some 33), none, .call 15 [(.t 28), (.t 29), (.t 30), (.t 31), (.t 32)]⟩,
  ⟨(some 27), none, .mv (.t 33)⟩,
  ⟨(some 34), none, .extract 0 (.t 27)⟩,
  ⟨(some 35), none, .extract 1 (.t 27)⟩,
  ⟨(some 16), none, .alloc 25 2 [.int .i64 (0), .int .i64 (0)]⟩,
  ⟨(some 15), none, .mv (.t 34)⟩,
  ⟨none, none, .store 2 (.t 16) (.t 35)⟩], false, []⟩
def Try.r_law6_WorkersLiarsAreOutvoted_3 : LReg := ⟨[⟨(some 36), none, .call 9 []⟩,
  ⟨(some 37), none, .un .not (.t 36)⟩,
  ⟨(some 38), none, .mv (.t 37)⟩,
  ⟨(some 39), (some (38, false)), .fieldAddr 0 (.t 14)⟩,
  ⟨(some 40), (some (38, false)), .load 1 false (.t 39)⟩,
  ⟨(some 41), (some (38, false)), .bin .neq (.t 40) (.c (.int .i64 (0)))⟩,
  ⟨(some 42), none, .pick (.t 38) (.c (.bool true)) (.t 41)⟩,
  ⟨(some 43), none, .mv (.t 42)⟩,
  ⟨(some 44), (some (43, false)), .fieldAddr 0 (.t 16)⟩,
  ⟨(some 45), (some (43, false)), .load 1 false (.t 44)⟩,
  ⟨(some 46), (some (43, false)), .bin .neq (.t 45) (.c (.int .i64 (0)))⟩,
  ⟨(some 47), none, .pick (.t 43) (.c (.bool true)) (.t 46)⟩], false, []⟩
def Try.r_law6_WorkersLiarsAreOutvoted_4 : LReg := ⟨[⟨(some 48), none, .call 9 []⟩,
  ⟨(some 49), none, .mv (.t 48)⟩,
  ⟨(some 50), (some (49, true)), .fieldAddr 0 (.t 14)⟩,
  ⟨(some 51), (some (49, true)), .load 1 false (.t 50)⟩,
  ⟨(some 52), (some (49, true)), .bin .eql (.t 51) (.c (.int .i64 (0)))⟩,
  ⟨(some 53), (some (49, true)), .mv (.t 52)⟩,
  ⟨(some 54), (some (53, false)), .mv (.t 13)⟩,
  ⟨(some 55), (some (53, false)), .len (.t 54)⟩,
  ⟨(some 56), (some (53, false)), .bin .eql (.t 55) (.c (.int .i64 (0)))⟩,
  ⟨(some 57), (some (49, true)), .pick (.t 53) (.c (.bool true)) (.t 56)⟩,
  ⟨(some 58), none, .pick (.t 49) (.t 57) (.c (.bool false))⟩,
  ⟨(some 59), none, .mv (.t 58)⟩,
  ⟨(some 60), (some (59, true)), .fieldAddr 0 (.t 16)⟩,
  ⟨(some 61), (some (59, true)), .load 1 false (.t 60)⟩,
  ⟨(some 62), (some (59, true)), .bin .eql (.t 61) (.c (.int .i64 (0)))⟩,
  ⟨(some 63), (some (59, true)), .mv (.t 62)⟩,
  ⟨(some 64), (some (63, false)), .mv (.t 15)⟩,
  ⟨(some 65), (some (63, false)), .len (.t 64)⟩,
  ⟨(some 66), (some (63, false)), .bin .eql (.t 65) (.c (.int .i64 (0)))⟩,
  ⟨(some 67), (some (59, true)), .pick (.t 63) (.c (.bool true)) (.t 66)⟩,
  ⟨(some 68), none, .pick (.t 59) (.t 67) (.c (.bool false))⟩,
  ⟨(some 12), none, .mv (.t 68)⟩], false, []⟩
def Try.r_law6_WorkersLiarsAreOutvoted_5 : LReg := ⟨[⟨(some 17), none, .mv (.c (.int .i64 (0)))⟩], false, []⟩
def Try.r_law6_WorkersLiarsAreOutvoted_6 : LReg := ⟨[⟨(some 18), none, .mv (.c (.int .i64 (0)))⟩], false, []⟩
def Try.r_law6_WorkersLiarsAreOutvoted_7 : LReg := ⟨[⟨(some 69), none, .mv (.t 18)⟩,
  ⟨(some 70), none, .mv (.t 15)⟩,
  ⟨(some 71), none, .len (.t 70)⟩,
  ⟨(some 72), none, .bin .lss (.t 69) (.t 71)⟩], false, []⟩
def Try.r_law6_WorkersLiarsAreOutvoted_8 : LReg := ⟨[⟨(some 75), none, .mv (.t 15)⟩,
  ⟨(some 76), none, .mv (.t 18)⟩,
  ⟨(some 77), none, .idx 1 (.t 75) (.t 76)⟩,
  ⟨(some 78), none, .load 1 false (.t 77)⟩,
  ⟨(some 79), none, .bin .geq (.t 78) (.c (.int .i64 (0)))⟩,
  ⟨(some 80), none, .mv (.t 79)⟩,
  ⟨(some 81), (some (80, true)), .mv (.t 15)⟩,
  ⟨(some 82), (some (80, true)), .mv (.t 18)⟩,
  ⟨(some 83), (some (80, true)), .idx 1 (.t 81) (.t 82)⟩,
  ⟨(some 84), (some (80, true)), .load 1 false (.t 83)⟩,
  ⟨(some 85), (some (80, true)), .mv (.t 5)⟩,
  ⟨(some 86), (some (80, true)), .bin .neq (.t 84) (.t 85)⟩,
  ⟨(some 87), none, .pick (.t 80) (.t 86) (.c (.bool false))⟩], false, []⟩
def Try.r_law6_WorkersLiarsAreOutvoted_9 : LReg := ⟨[⟨(some 88), none, .mv (.t 17)⟩,
  ⟨(some 89), none, .bin .add (.t 88) (.c (.int .i64 (1)))⟩,
  ⟨(some 17), none, .mv (.t 89)⟩], false, []⟩
def Try.r_law6_WorkersLiarsAreOutvoted_10 : LReg := ⟨[⟨(some 73), none, .mv (.t 18)⟩,
  ⟨(some 74), none, .bin .add (.t 73) (.c (.int .i64 (1)))⟩,
  ⟨(some 18), none, .mv (.t 74)⟩], false, []⟩
def Try.r_law6_WorkersLiarsAreOutvoted_11 : LReg := ⟨[⟨(some 90), none, .mv (.t 4)⟩,
  ⟨(some 91), none, .mv (.t 13)⟩,
  ⟨(some 92), none, .len (.t 91)⟩,
  ⟨(some 93), none, .bin .sub (.t 92) (.c (.int .i64 (1)))⟩,
  ⟨(some 94), none, .call 13 [(.t 90), (.c (.int .i64 (0))), (.t 93)]⟩,
  ⟨(some 95), none, .un .not (.t 94)⟩], false, []⟩
def Try.r_law6_WorkersLiarsAreOutvoted_12 : LReg := ⟨[⟨(some 12), none, .mv (.c (.bool false))⟩], false, []⟩
def Try.r_law6_WorkersLiarsAreOutvoted_13 : LReg := ⟨[⟨(some 96), none, .mv (.t 17)⟩,
  ⟨(some 97), none, .mv (.t 2)⟩,
  ⟨(some 98), none, .bin .geq (.t 96) (.t 97)⟩,
  ⟨(some 99), none, .mv (.t 98)⟩,
  ⟨(some 100), (some (99, false)), .mv (.t 13)⟩,
  ⟨(some 101), (some (99, false)), .mv (.t 4)⟩,
  ⟨(some 102), (some (99, false)), .idx 1 (.t 100) (.t 101)⟩,
  ⟨(some 103), (some (99, false)), .load 1 false (.t 102)⟩,
  ⟨(some 104), (some (99, false)), .bin .eql (.t 103) (.c (.int .i64 (-1)))⟩,
  ⟨(some 105), none, .pick (.t 99) (.c (.bool true)) (.t 104)⟩,
  ⟨(some 106), none, .mv (.t 105)⟩,
  ⟨(some 107), (some (106, false)), .mv (.t 13)⟩,
  ⟨(some 108), (some (106, false)), .mv (.t 4)⟩,
  ⟨(some 109), (some (106, false)), .idx 1 (.t 107) (.t 108)⟩,
  ⟨(some 110), (some (106, false)), .load 1 false (.t 109)⟩,
  ⟨(some 111), (some (106, false)), .mv (.t 5)⟩,
  ⟨(some 112), (some (106, false)), .bin .eql (.t 110) (.t 111)⟩,
  ⟨(some 113), none, .pick (.t 106) (.c (.bool true)) (.t 112)⟩,
  ⟨(some 12), none, .mv (.t 113)⟩], false, []⟩
def Try.l_law6_WorkersLiarsAreOutvoted : LCode := (.seq (.reg Try.r_law6_WorkersLiarsAreOutvoted_0) (.seq (.reg Try.r_law6_WorkersLiarsAreOutvoted_1) (.seq (.reg Try.r_law6_WorkersLiarsAreOutvoted_2) (.seq (.seq (.reg Try.r_law6_WorkersLiarsAreOutvoted_3) (.cond (.t 47) (.seq (.reg Try.r_law6_WorkersLiarsAreOutvoted_4) .ret) .skip)) (.seq (.reg Try.r_law6_WorkersLiarsAreOutvoted_5) (.seq (.seq (.reg Try.r_law6_WorkersLiarsAreOutvoted_6) (.block 0 (.loop (.seq (.seq (.reg Try.r_law6_WorkersLiarsAreOutvoted_7) (.cond (.t 72) .skip (.exit 0))) (.seq (.block 1 (.seq (.reg Try.r_law6_WorkersLiarsAreOutvoted_8) (.cond (.t 87) (.reg Try.r_law6_WorkersLiarsAreOutvoted_9) .skip))) (.reg Try.r_law6_WorkersLiarsAreOutvoted_10)))))) (.seq (.seq (.reg Try.r_law6_WorkersLiarsAreOutvoted_11) (.cond (.t 95) (.seq (.reg Try.r_law6_WorkersLiarsAreOutvoted_12) .ret) .skip)) (.seq (.reg Try.r_law6_WorkersLiarsAreOutvoted_13) .ret))))))))
theorem Try.c_law6_WorkersLiarsAreOutvoted : fnComp Try.prog 5 = some (114, Try.l_law6_WorkersLiarsAreOutvoted, [.t 12]) := by kernel_rfl

/- 19 changeforge/changeforgeref5.Has -/
def Try.r_ref5_Has_0 : LReg := ⟨[⟨(some 4), none, .mv (.c (.bool false))⟩], false, []⟩
def Try.r_ref5_Has_1 : LReg := ⟨[⟨(some 5), none, .mv (.c (.int .i64 (0)))⟩], false, []⟩
def Try.r_ref5_Has_2 : LReg := ⟨[⟨(some 6), none, .mv (.t 5)⟩,
  ⟨(some 7), none, .mv (.t 0)⟩,
  ⟨(some 8), none, .len (.t 7)⟩,
  ⟨(some 9), none, .bin .lss (.t 6) (.t 8)⟩], false, []⟩
def Try.r_ref5_Has_3 : LReg := ⟨[⟨(some 12), none, .mv (.t 0)⟩,
  ⟨(some 13), none, .mv (.t 5)⟩,
  ⟨(some 14), none, .idx 1 (.t 12) (.t 13)⟩,
  ⟨(some 15), none, .load 1 false (.t 14)⟩,
  ⟨(some 16), none, .mv (.t 1)⟩,
  ⟨(some 17), none, .bin .eql (.t 15) (.t 16)⟩], false, []⟩
def Try.r_ref5_Has_4 : LReg := ⟨[⟨(some 4), none, .mv (.c (.bool true))⟩], false, []⟩
def Try.r_ref5_Has_5 : LReg := ⟨[⟨(some 10), none, .mv (.t 5)⟩,
  ⟨(some 11), none, .bin .add (.t 10) (.c (.int .i64 (1)))⟩,
  ⟨(some 5), none, .mv (.t 11)⟩], false, []⟩
def Try.r_ref5_Has_6 : LReg := ⟨[⟨(some 4), none, .mv (.c (.bool false))⟩], false, []⟩
def Try.l_ref5_Has : LCode := (.seq (.reg Try.r_ref5_Has_0) (.seq (.seq (.reg Try.r_ref5_Has_1) (.block 0 (.loop (.seq (.seq (.reg Try.r_ref5_Has_2) (.cond (.t 9) .skip (.exit 0))) (.seq (.block 1 (.seq (.reg Try.r_ref5_Has_3) (.cond (.t 17) (.seq (.reg Try.r_ref5_Has_4) .ret) .skip))) (.reg Try.r_ref5_Has_5)))))) (.seq (.reg Try.r_ref5_Has_6) .ret)))
theorem Try.c_ref5_Has : fnComp Try.prog 19 = some (18, Try.l_ref5_Has, [.t 4]) := by kernel_rfl

/- 6 changeforge/changeforgelaw6.WorkersResultsHaveAQuorum -/
def Try.r_law6_WorkersResultsHaveAQuorum_0 : LReg := ⟨[⟨(some 10), none, .mv (.c (.bool false))⟩], false, []⟩
def Try.r_law6_WorkersResultsHaveAQuorum_1 : LReg := ⟨[⟨(some 20), none, .mv (.t 0)⟩,
  ⟨(some 21), none, .mv (.t 1)⟩,
  ⟨(some 22), none, .mv (.t 2)⟩,
  ⟨(some 23), none, .mv (.t 3)⟩,
  ⟨(some 24), none, .call 11 [(.t 20), (.t 21), (.t 22), (.t 23)]⟩,
  ⟨(some 19), none, .mv (.t 24)⟩,
  ⟨(some 25), none, .extract 0 (.t 19)⟩,
  ⟨(some 26), none, .extract 1 (.t 19)⟩,
  ⟨(some 12), none, .alloc 25 2 [.int .i64 (0), .int .i64 (0)]⟩,
  ⟨(some 11), none, .mv (.t 25)⟩,
  ⟨none, none, .store 2 (.t 12) (.t 26)⟩], false, []⟩
def Try.r_law6_WorkersResultsHaveAQuorum_2 : LReg := ⟨[⟨(some 28), none, .mv (.t 0)⟩,
  ⟨(some 29), none, .mv (.t 1)⟩,
  ⟨(some 30), none, .mv (.t 2)⟩,
  ⟨(some 31), none, .mv (.t 3)⟩,
  ⟨(some 32), none, .mv (.t 4)⟩,
  ⟨(some 33), none, .call 15 [(.t 28), (.t 29), (.t 30), (.t 31), (.t 32)]⟩,
  ⟨(some 27), none, .mv (.t 33)⟩,
  ⟨(some 34), none, .extract 0 (.t 27)⟩,
  ⟨(some 35), none, .extract 1 (.t 27)⟩,
  ⟨(some 14), none, .alloc 25 2 [.int .i64 (0), .int .i64 (0)]⟩,
  ⟨(some 13), none, .mv (.t 34)⟩,
  ⟨none, none, .store 2 (.t 14) (.t 35)⟩], false, []⟩
def Try.r_law6_WorkersResultsHaveAQuorum_3 : LReg := ⟨[⟨(some 36), none, .call 9 []⟩,
  ⟨(some 37), none, .un .not (.t 36)⟩,
  ⟨(some 38), none, .mv (.t 37)⟩,
  ⟨(some 39), (some (38, false)), .fieldAddr 0 (.t 12)⟩,
  ⟨(some 40), (some (38, false)), .load 1 false (.t 39)⟩,
  ⟨(some 41), (some (38, false)), .bin .neq (.t 40) (.c (.int .i64 (0)))⟩,
  ⟨(some 42), none, .pick (.t 38) (.c (.bool true)) (.t 41)⟩,
  ⟨(some 43), none, .mv (.t 42)⟩,
  ⟨(some 44), (some (43, false)), .fieldAddr 0 (.t 14)⟩,
  ⟨(some 45), (some (43, false)), .load 1 false (.t 44)⟩,
  ⟨(some 46), (some (43, false)), .bin .neq (.t 45) (.c (.int .i64 (0)))⟩,
  ⟨(some 47), none, .pick (.t 43) (.c (.bool true)) (.t 46)⟩], false, []⟩
def Try.r_law6_WorkersResultsHaveAQuorum_4 : LReg := ⟨[⟨(some 48), none, .call 9 []⟩,
  ⟨(some 49), none, .mv (.t 48)⟩,
  ⟨(some 50), (some (49, true)), .fieldAddr 0 (.t 12)⟩,
  ⟨(some 51), (some (49, true)), .load 1 false (.t 50)⟩,
  ⟨(some 52), (some (49, true)), .bin .eql (.t 51) (.c (.int .i64 (0)))⟩,
  ⟨(some 53), (some (49, true)), .mv (.t 52)⟩,
  ⟨(some 54), (some (53, false)), .mv (.t 11)⟩,
  ⟨(some 55), (some (53, false)), .len (.t 54)⟩,
  ⟨(some 56), (some (53, false)), .bin .eql (.t 55) (.c (.int .i64 (0)))⟩,
  ⟨(some 57), (some (49, true)), .pick (.t 53) (.c (.bool true)) (.t 56)⟩,
  ⟨(some 58), none, .pick (.t 49) (.t 57) (.c (.bool false))⟩,
  ⟨(some 59), none, .mv (.t 58)⟩,
  ⟨(some 60), (some (59, true)), .fieldAddr 0 (.t 14)⟩,
  ⟨(some 61), (some (59, true)), .load 1 false (.t 60)⟩,
  ⟨(some 62), (some (59, true)), .bin .eql (.t 61) (.c (.int .i64 (0)))⟩,
  ⟨(some 63), (some (59, true)), .mv (.t 62)⟩,
  ⟨(some 64), (some (63, false)), .mv (.t 13)⟩,
  ⟨(some 65), (some (63, false)), .len (.t 64)⟩,
  ⟨(some 66), (some (63, false)), .bin .eql (.t 65) (.c (.int .i64 (0)))⟩,
  ⟨(some 67), (some (59, true)), .pick (.t 63) (.c (.bool true)) (.t 66)⟩,
  ⟨(some 68), none, .pick (.t 59) (.t 67) (.c (.bool false))⟩,
  ⟨(some 10), none, .mv (.t 68)⟩], false, []⟩
def Try.r_law6_WorkersResultsHaveAQuorum_5 : LReg := ⟨[⟨(some 69), none, .mv (.t 4)⟩,
  ⟨(some 70), none, .mv (.t 11)⟩,
  ⟨(some 71), none, .len (.t 70)⟩,
  ⟨(some 72), none, .bin .sub (.t 71) (.c (.int .i64 (1)))⟩,
  ⟨(some 73), none, .call 13 [(.t 69), (.c (.int .i64 (0))), (.t 72)]⟩,
  ⟨(some 74), none, .un .not (.t 73)⟩], false, []⟩
def Try.r_law6_WorkersResultsHaveAQuorum_6 : LReg := ⟨[⟨(some 10), none, .mv (.c (.bool false))⟩], false, []⟩
def Try.r_law6_WorkersResultsHaveAQuorum_7 : LReg := ⟨[⟨(some 15), none, .mv (.c (.bool false))⟩], false, []⟩
def Try.r_law6_WorkersResultsHaveAQuorum_8 : LReg := ⟨[⟨(some 16), none, .mv (.c (.int .i64 (0)))⟩], false, []⟩
def Try.r_law6_WorkersResultsHaveAQuorum_9 : LReg := ⟨[⟨(some 75), none, .mv (.t 16)⟩,
  ⟨(some 76), none, .mv (.t 13)⟩,
  ⟨(some 77), none, .len (.t 76)⟩,
  ⟨(some 78), none, .bin .lss (.t 75) (.t 77)⟩], false, []⟩
def Try.r_law6_WorkersResultsHaveAQuorum_10 : LReg := ⟨[⟨(some 17), none, .mv (.c (.int .i64 (0)))⟩], false, []⟩
def Try.r_law6_WorkersResultsHaveAQuorum_11 : LReg := ⟨[⟨(some 18), none, .mv (.c (.int .i64 (0)))⟩], false, []⟩
def Try.r_law6_WorkersResultsHaveAQuorum_12 : LReg := ⟨[⟨(some 81), none, .mv (.t 18)⟩,
  ⟨(some 82), none, .mv (.t 13)⟩,
  ⟨(some 83), none, .len (.t 82)⟩,
  ⟨(some 84), none, .bin .lss (.t 81) (.t 83)⟩], false, []⟩
def Try.r_law6_WorkersResultsHaveAQuorum_13 : LReg := ⟨[⟨(some 87), none, .mv (.t 13)⟩,
  ⟨(some 88), none, .mv (.t 18)⟩,
  ⟨(some 89), none, .idx 1 (.t 87) (.t 88)⟩,
  ⟨(some 90), none, .load 1 false (.t 89)⟩,
  ⟨(some 91), none, .mv (.t 13)⟩,
  ⟨(some 92), none, .mv (.t 16)⟩,
  ⟨(some 93), none, .idx 1 (.t 91) (.t 92)⟩,
  ⟨(some 94), none, .load 1 false (.t 93)⟩,
  ⟨(some 95), none, .bin .eql (.t 90) (.t 94)⟩], true, [(2, 6), (3, 6), (2, 7), (3, 7)]⟩
def Try.r_law6_WorkersResultsHaveAQuorum_14 : LReg := ⟨[⟨(some 96), none, .mv (.t 17)⟩,
  ⟨(some 97), none, .bin .add (.t 96) (.c (.int .i64 (1)))⟩,
  ⟨(some 17), none, .mv (.t 97)⟩], false, []⟩
def Try.r_law6_WorkersResultsHaveAQuorum_15 : LReg := ⟨[⟨(some 85), none, .mv (.t 18)⟩,
  ⟨(some 86), none, .bin .add (.t 85) (.c (.int .i64 (1)))⟩,
  ⟨(some 18), none, .mv (.t 86)⟩], false, []⟩
def Try.r_law6_WorkersResultsHaveAQuorum_16 : LReg := ⟨[⟨(some 98), none, .mv (.t 15)⟩,
  ⟨(some 99), none, .mv (.t 98)⟩,
  ⟨(some 100), (some (99, false)), .mv (.t 13)⟩,
  ⟨(some 101), (some (99, false)), .mv (.t 16)⟩,
  ⟨(some 102), (some (99, false)), .idx 1 (.t 100) (.t 101)⟩,
  ⟨(some 103), (some (99, false)), .load 1 false (.t 102)⟩,
  ⟨(some 104), (some (99, false)), .bin .geq (.t 103) (.c (.int .i64 (0)))⟩,
  ⟨(some 105), (some (99, false)), .mv (.t 104)⟩,
  ⟨(some 106), (some (105, true)), .mv (.t 17)⟩,
  ⟨(some 107), (some (105, true)), .mv (.t 2)⟩,
  ⟨(some 108), (some (105, true)), .bin .geq (.t 106) (.t 107)⟩,
  ⟨(some 109), (some (99, false)), .pick (.t 105) (.t 108) (.c (.bool false))⟩,
  ⟨(some 110), none, .pick (.t 99) (.c (.bool true)) (.t 109)⟩,
  ⟨(some 15), none, .mv (.t 110)⟩], false, []⟩
def Try.r_law6_WorkersResultsHaveAQuorum_17 : LReg := ⟨[⟨(some 111), none, .mv (.t 11)⟩,
  ⟨(some 112), none, .mv (.t 4)⟩,
  ⟨(some 113), none, .idx 1 (.t 111) (.t 112)⟩,
  ⟨(some 114), none, .load 1 false (.t 113)⟩,
  ⟨(some 115), none, .bin .geq (.t 114) (.c (.int .i64 (0)))⟩,
  ⟨(some 116), none, .mv (.t 115)⟩,
  ⟨(some 117), (some (116, true)), .mv (.t 13)⟩,
  ⟨(some 118), (some (116, true)), .mv (.t 16)⟩,
  ⟨(some 119), (some (116, true)), .idx 1 (.t 117) (.t 118)⟩,
  ⟨(some 120), (some (116, true)), .load 1 false (.t 119)⟩,
  ⟨(some 121), (some (116, true)), .mv (.t 11)⟩,
  ⟨(some 122), (some (116, true)), .mv (.t 4)⟩,
  ⟨(some 123), (some (116, true)), .idx 1 (.t 121) (.t 122)⟩,
  ⟨(some 124), (some (116, true)), .load 1 false (.t 123)⟩,
  ⟨(some 125), (some (116, true)), .bin .eql (.t 120) (.t 124)⟩,
  ⟨(some 126), none, .pick (.t 116) (.t 125) (.c (.bool false))⟩,
  ⟨(some 127), none, .mv (.t 126)⟩,
  ⟨(some 128), (some (127, true)), .mv (.t 17)⟩,
  ⟨(some 129), (some (127, true)), .mv (.t 2)⟩,
  ⟨(some 130), (some (127, true)), .bin .lss (.t 128) (.t 129)⟩,
  ⟨(some 131), none, .pick (.t 127) (.t 130) (.c (.bool false))⟩], true, [(8, 12), (9, 12), (8, 13), (9, 13)]⟩
def Try.r_law6_WorkersResultsHaveAQuorum_18 : LReg := ⟨[⟨(some 10), none, .mv (.c (.bool false))⟩], false, []⟩
def Try.r_law6_WorkersResultsHaveAQuorum_19 : LReg := ⟨[⟨(some 79), none, .mv (.t 16)⟩,
  ⟨(some 80), none, .bin .add (.t 79) (.c (.int .i64 (1)))⟩,
  ⟨(some 16), none, .mv (.t 80)⟩], false, []⟩
def Try.r_law6_WorkersResultsHaveAQuorum_20 : LReg := ⟨[⟨(some 132), none, .mv (.t 15)⟩,
  ⟨(some 133), none, .mv (.t 11)⟩,
  ⟨(some 134), none, .mv (.t 4)⟩,
  ⟨(some 135), none, .idx 1 (.t 133) (.t 134)⟩,
  ⟨(some 136), none, .load 1 false (.t 135)⟩,
  ⟨(some 137), none, .bin .geq (.t 136) (.c (.int .i64 (0)))⟩,
  ⟨(some 138), none, .eqb false (.t 132) (.t 137)⟩,
  ⟨(some 139), none, .mv (.t 138)⟩,
  ⟨(some 140), (some (139, true)), .mv (.t 11)⟩,
  ⟨(some 141), (some (139, true)), .mv (.t 4)⟩,
  ⟨(some 142), (some (139, true)), .idx 1 (.t 140) (.t 141)⟩,
  ⟨(some 143), (some (139, true)), .load 1 false (.t 142)⟩,
  ⟨(some 144), (some (139, true)), .bin .lss (.t 143) (.c (.int .i64 (0)))⟩,
  ⟨(some 145), (some (139, true)), .mv (.t 144)⟩,
  ⟨(some 146), (some (145, false)), .mv (.t 13)⟩,
  ⟨(some 147), (some (145, false)), .mv (.t 11)⟩,
  ⟨(some 148), (some (145, false)), .mv (.t 4)⟩,
  ⟨(some 149), (some (145, false)), .idx 1 (.t 147) (.t 148)⟩,
  ⟨(some 150), (some (145, false)), .load 1 false (.t 149)⟩,
  ⟨(some 151), (some (145, false)), .call 19 [(.t 146), (.t 150)]⟩,
  ⟨(some 152), (some (139, true)), .pick (.t 145) (.c (.bool true)) (.t 151)⟩,
  ⟨(some 153), none, .pick (.t 139) (.t 152) (.c (.bool false))⟩,
  ⟨(some 10), none, .mv (.t 153)⟩], false, []⟩
def Try.l_law6_WorkersResultsHaveAQuorum : LCode := (.seq (.reg Try.r_law6_WorkersResultsHaveAQuorum_0) (.seq (.reg Try.r_law6_WorkersResultsHaveAQuorum_1) (.seq (.reg Try.r_law6_WorkersResultsHaveAQuorum_2) (.seq (.seq (.reg Try.r_law6_WorkersResultsHaveAQuorum_3) (.cond (.t 47) (.seq (.reg Try.r_law6_WorkersResultsHaveAQuorum_4) .ret) .skip)) (.seq (.seq (.reg Try.r_law6_WorkersResultsHaveAQuorum_5) (.cond (.t 74) (.seq (.reg Try.r_law6_WorkersResultsHaveAQuorum_6) .ret) .skip)) (.seq (.reg Try.r_law6_WorkersResultsHaveAQuorum_7) (.seq (.seq (.reg Try.r_law6_WorkersResultsHaveAQuorum_8) (.block 0 (.loop (.seq (.seq (.reg Try.r_law6_WorkersResultsHaveAQuorum_9) (.cond (.t 78) .skip (.exit 0))) (.seq (.block 1 (.seq (.reg Try.r_law6_WorkersResultsHaveAQuorum_10) (.seq (.seq (.reg Try.r_law6_WorkersResultsHaveAQuorum_11) (.block 2 (.loop (.seq (.seq (.reg Try.r_law6_WorkersResultsHaveAQuorum_12) (.cond (.t 84) .skip (.exit 2))) (.seq (.block 3 (.seq (.reg Try.r_law6_WorkersResultsHaveAQuorum_13) (.cond (.t 95) (.reg Try.r_law6_WorkersResultsHaveAQuorum_14) .skip))) (.reg Try.r_law6_WorkersResultsHaveAQuorum_15)))))) (.seq (.reg Try.r_law6_WorkersResultsHaveAQuorum_16) (.seq (.reg Try.r_law6_WorkersResultsHaveAQuorum_17) (.cond (.t 131) (.seq (.reg Try.r_law6_WorkersResultsHaveAQuorum_18) .ret) .skip)))))) (.reg Try.r_law6_WorkersResultsHaveAQuorum_19)))))) (.seq (.reg Try.r_law6_WorkersResultsHaveAQuorum_20) .ret))))))))
theorem Try.c_law6_WorkersResultsHaveAQuorum : fnComp Try.prog 6 = some (154, Try.l_law6_WorkersResultsHaveAQuorum, [.t 10]) := by kernel_rfl

/- 7 changeforge/changeforgelaw6.WorkersResultsAreFinal -/
def Try.r_law6_WorkersResultsAreFinal_0 : LReg := ⟨[⟨(some 12), none, .mv (.c (.bool false))⟩], false, []⟩
def Try.r_law6_WorkersResultsAreFinal_1 : LReg := ⟨[⟨(some 24), none, .call 9 []⟩,
  ⟨(some 25), none, .un .not (.t 24)⟩], false, []⟩
def Try.r_law6_WorkersResultsAreFinal_2 : LReg := ⟨[⟨(some 12), none, .mv (.c (.bool false))⟩], false, []⟩
def Try.r_law6_WorkersResultsAreFinal_3 : LReg := ⟨[⟨(some 26), none, .mv (.t 3)⟩,
  ⟨(some 27), none, .len (.t 26)⟩,
  ⟨(some 28), none, .bin .gtr (.t 27) (.c (.int .i64 (40)))⟩,
  ⟨(some 29), none, .mv (.t 28)⟩,
  ⟨(some 30), (some (29, false)), .mv (.t 4)⟩,
  ⟨(some 31), (some (29, false)), .len (.t 30)⟩,
  ⟨(some 32), (some (29, false)), .bin .gtr (.t 31) (.c (.int .i64 (40)))⟩,
  ⟨(some 33), none, .pick (.t 29) (.c (.bool true)) (.t 32)⟩], false, []⟩
def Try.r_law6_WorkersResultsAreFinal_4 : LReg := ⟨[⟨(some 12), none, .mv (.c (.bool true))⟩], false, []⟩
def Try.r_law6_WorkersResultsAreFinal_5 : LReg := ⟨[⟨(some 13), none, .mv (.c (.nils))⟩], false, []⟩
def Try.r_law6_WorkersResultsAreFinal_6 : LReg := ⟨[⟨(some 34), none, .mv (.t 13)⟩,
  ⟨(some 35), none, .mv (.t 3)⟩,
  ⟨(some 36), none, .append 44 4 32 (.t 34) (.t 35)⟩,
  ⟨(some 13), none, .mv (.t 36)⟩], false, []⟩
def Try.r_law6_WorkersResultsAreFinal_7 : LReg := ⟨[⟨(some 37), none, .mv (.t 13)⟩,
  ⟨(some 38), none, .mv (.t 4)⟩,
  ⟨(some 39), none, .append 44 4 32 (.t 37) (.t 38)⟩,
  ⟨(some 13), none, .mv (.t 39)⟩], false, []⟩
def Try.r_law6_WorkersResultsAreFinal_8 : LReg := ⟨[⟨(some 41), none, .mv (.t 0)⟩,
  ⟨(some 42), none, .mv (.t 1)⟩,
  ⟨(some 43), none, .mv (.t 2)⟩,
  ⟨(some 44), none, .mv (.t 3)⟩,
  ⟨(some 45), none, .call 11 [(.t 41), (.t 42), (.t 43), (.t 44)]⟩,
  ⟨(some 40), none, .mv (.t 45)⟩,
  ⟨(some 46), none, .extract 0 (.t 40)⟩,
  ⟨(some 47), none, .extract 1 (.t 40)⟩,
  ⟨(some 15), none, .alloc 25 2 [.int .i64 (0), .int .i64 (0)]⟩,
  ⟨(some 14), none, .mv (.t 46)⟩,
  ⟨none, none, .store 2 (.t 15) (.t 47)⟩], false, []⟩
def Try.r_law6_WorkersResultsAreFinal_9 : LReg := ⟨[⟨(some 49), none, .mv (.t 0)⟩,
  ⟨(some 50), none, .mv (.t 1)⟩,
  ⟨(some 51), none, .mv (.t 2)⟩,
  ⟨(some 52), none, .mv (.t 13)⟩,
  ⟨(some 53), none, .call 11 [(.t 49), (.t 50), (.t 51), (.t 52)]⟩,
  ⟨(some 48), none, .mv (.t 53)⟩,
  ⟨(some 54), none, .extract 0 (.t 48)⟩,
  ⟨(some 55), none, .extract 1 (.t 48)⟩,
  ⟨(some 17), none, .alloc 25 2 [.int .i64 (0), .int .i64 (0)]⟩,
  ⟨(some 16), none, .mv (.t 54)⟩,
  ⟨none, none, .store 2 (.t 17) (.t 55)⟩], false, []⟩
def Try.r_law6_WorkersResultsAreFinal_10 : LReg := ⟨[⟨(some 57), none, .mv (.t 0)⟩,
  ⟨(some 58), none, .mv (.t 1)⟩,
  ⟨(some 59), none, .mv (.t 2)⟩,
  ⟨(some 60), none, .mv (.t 3)⟩,
  ⟨(some 61), none, .mv (.t 5)⟩,
  ⟨(some 62), none, .call 15 [(.t 57), (.t 58), (.t 59), (.t 60), (.t 61)]⟩,
  ⟨(some 56), none, .mv (.t 62)⟩,
  ⟨(some 63), none, .extract 0 (.t 56)⟩,
  ⟨(some 64), none, .extract 1 (.t 56)⟩,
  ⟨(some 19), none, .alloc 25 2 [.int .i64 (0), .int .i64 (0)]⟩,
  ⟨(some 18), none, .mv (.t 63)⟩,
  ⟨none, none, .store 2 (.t 19) (.t 64)⟩], false, []⟩
def Try.r_law6_WorkersResultsAreFinal_11 : LReg := ⟨[⟨(some 66), none, .mv (.t 0)⟩,
  ⟨(some 67), none, .mv (.t 1)⟩,
  ⟨(some 68), none, .mv (.t 2)⟩,
  ⟨(some 69), none, .mv (.t 13)⟩,
  ⟨(some 70), none, .mv (.t 5)⟩,
  ⟨(some 71), none, .call 15 [(.t 66), (.t 67), (.t 68), (.t 69), (.t 70)]⟩,
  ⟨(some 65), none, .mv (.t 71)⟩,
  ⟨(some 72), none, .extract 0 (.t 65)⟩,
  ⟨(some 73), none, .extract 1 (.t 65)⟩,
  ⟨(some 21), none, .alloc 25 2 [.int .i64 (0), .int .i64 (0)]⟩,
  ⟨(some 20), none, .mv (.t 72)⟩,
  ⟨none, none, .store 2 (.t 21) (.t 73)⟩], false, []⟩
def Try.r_law6_WorkersResultsAreFinal_12 : LReg := ⟨[⟨(some 74), none, .fieldAddr 0 (.t 17)⟩,
  ⟨(some 75), none, .load 1 false (.t 74)⟩,
  ⟨(some 76), none, .bin .neq (.t 75) (.c (.int .i64 (0)))⟩,
  ⟨(some 77), none, .mv (.t 76)⟩,
  ⟨(some 78), (some (77, false)), .fieldAddr 0 (.t 21)⟩,
  ⟨(some 79), (some (77, false)), .load 1 false (.t 78)⟩,
  ⟨(some 80), (some (77, false)), .bin .neq (.t 79) (.c (.int .i64 (0)))⟩,
  ⟨(some 81), none, .pick (.t 77) (.c (.bool true)) (.t 80)⟩], false, []⟩
def Try.r_law6_WorkersResultsAreFinal_13 : LReg := ⟨[⟨(some 82), none, .fieldAddr 0 (.t 17)⟩,
  ⟨(some 83), none, .load 1 false (.t 82)⟩,
  ⟨(some 84), none, .bin .eql (.t 83) (.c (.int .i64 (0)))⟩,
  ⟨(some 85), none, .mv (.t 84)⟩,
  ⟨(some 86), (some (85, false)), .mv (.t 16)⟩,
  ⟨(some 87), (some (85, false)), .len (.t 86)⟩,
  ⟨(some 88), (some (85, false)), .bin .eql (.t 87) (.c (.int .i64 (0)))⟩,
  ⟨(some 89), none, .pick (.t 85) (.c (.bool true)) (.t 88)⟩,
  ⟨(some 90), none, .mv (.t 89)⟩,
  ⟨(some 91), (some (90, true)), .mv (.t 20)⟩,
  ⟨(some 92), (some (90, true)), .len (.t 91)⟩,
  ⟨(some 93), (some (90, true)), .bin .eql (.t 92) (.c (.int .i64 (0)))⟩,
  ⟨(some 94), none, .pick (.t 90) (.t 93) (.c (.bool false))⟩,
  ⟨(some 12), none, .mv (.t 94)⟩], false, []⟩
def Try.r_law6_WorkersResultsAreFinal_14 : LReg := ⟨[⟨(some 95), none, .fieldAddr 0 (.t 15)⟩,
  ⟨(some 96), none, .load 1 false (.t 95)⟩,
  ⟨(some 97), none, .bin .neq (.t 96) (.c (.int .i64 (0)))⟩,
  ⟨(some 98), none, .mv (.t 97)⟩,
  ⟨(some 99), (some (98, false)), .fieldAddr 0 (.t 19)⟩,
  ⟨(some 100), (some (98, false)), .load 1 false (.t 99)⟩,
  ⟨(some 101), (some (98, false)), .bin .neq (.t 100) (.c (.int .i64 (0)))⟩,
  ⟨(some 102), none, .pick (.t 98) (.c (.bool true)) (.t 101)⟩,
  ⟨(some 103), none, .mv (.t 102)⟩,
  ⟨(some 104), (some (103, false)), .mv (.t 14)⟩,
  ⟨(some 105), (some (103, false)), .len (.t 104)⟩,
  ⟨(some 106), (some (103, false)), .mv (.t 16)⟩,
  ⟨(some 107), (some (103, false)), .len (.t 106)⟩,
  ⟨(some 108), (some (103, false)), .bin .neq (.t 105) (.t 107)⟩,
  ⟨(some 109), none, .pick (.t 103) (.c (.bool true)) (.t 108)⟩,
  ⟨(some 110), none, .mv (.t 109)⟩,
  ⟨(some 111), (some (110, false)), .mv (.t 18)⟩,
  ⟨(some 112), (some (110, false)), .len (.t 111)⟩,
  ⟨(some 113), (some (110, false)), .mv (.t 20)⟩,
  ⟨(some 114), (some (110, false)), .len (.t 113)⟩,
  ⟨(some 115), (some (110, false)), .bin .neq (.t 112) (.t 114)⟩,
  ⟨(some 116), none, .pick (.t 110) (.c (.bool true)) (.t 115)⟩], false, []⟩
def Try.r_law6_WorkersResultsAreFinal_15 : LReg := ⟨[⟨(some 12), none, .mv (.c (.bool false))⟩], false, []⟩
def Try.r_law6_WorkersResultsAreFinal_16 : LReg := ⟨[⟨(some 22), none, .mv (.c (.int .i64 (0)))⟩], false, []⟩
def Try.r_law6_WorkersResultsAreFinal_17 : LReg := ⟨[⟨(some 117), none, .mv (.t 22)⟩,
  ⟨(some 118), none, .mv (.t 14)⟩,
  ⟨(some 119), none, .len (.t 118)⟩,
  ⟨(some 120), none, .bin .lss (.t 117) (.t 119)⟩], false, []⟩
def Try.r_law6_WorkersResultsAreFinal_18 : LReg := ⟨[⟨(some 123), none, .mv (.t 14)⟩,
  ⟨(some 124), none, .mv (.t 22)⟩,
  ⟨(some 125), none, .idx 1 (.t 123) (.t 124)⟩,
  ⟨(some 126), none, .load 1 false (.t 125)⟩,
  ⟨(some 127), none, .bin .geq (.t 126) (.c (.int .i64 (0)))⟩,
  ⟨(some 128), none, .mv (.t 127)⟩,
  ⟨(some 129), (some (128, true)), .mv (.t 16)⟩,
  ⟨(some 130), (some (128, true)), .mv (.t 22)⟩,
  ⟨(some 131), (some (128, true)), .idx 1 (.t 129) (.t 130)⟩,
  ⟨(some 132), (some (128, true)), .load 1 false (.t 131)⟩,
  ⟨(some 133), (some (128, true)), .mv (.t 14)⟩,
  ⟨(some 134), (some (128, true)), .mv (.t 22)⟩,
  ⟨(some 135), (some (128, true)), .idx 1 (.t 133) (.t 134)⟩,
  ⟨(some 136), (some (128, true)), .load 1 false (.t 135)⟩,
  ⟨(some 137), (some (128, true)), .bin .neq (.t 132) (.t 136)⟩,
  ⟨(some 138), none, .pick (.t 128) (.t 137) (.c (.bool false))⟩], true, [(8, 12), (9, 12), (8, 13), (9, 13)]⟩
def Try.r_law6_WorkersResultsAreFinal_19 : LReg := ⟨[⟨(some 12), none, .mv (.c (.bool false))⟩], false, []⟩
def Try.r_law6_WorkersResultsAreFinal_20 : LReg := ⟨[⟨(some 121), none, .mv (.t 22)⟩,
  ⟨(some 122), none, .bin .add (.t 121) (.c (.int .i64 (1)))⟩,
  ⟨(some 22), none, .mv (.t 122)⟩], false, []⟩
def Try.r_law6_WorkersResultsAreFinal_21 : LReg := ⟨[⟨(some 23), none, .mv (.c (.int .i64 (0)))⟩], false, []⟩
def Try.r_law6_WorkersResultsAreFinal_22 : LReg := ⟨[⟨(some 139), none, .mv (.t 23)⟩,
  ⟨(some 140), none, .mv (.t 18)⟩,
  ⟨(some 141), none, .len (.t 140)⟩,
  ⟨(some 142), none, .bin .lss (.t 139) (.t 141)⟩], false, []⟩
def Try.r_law6_WorkersResultsAreFinal_23 : LReg := ⟨[⟨(some 145), none, .mv (.t 18)⟩,
  ⟨(some 146), none, .mv (.t 23)⟩,
  ⟨(some 147), none, .idx 1 (.t 145) (.t 146)⟩,
  ⟨(some 148), none, .load 1 false (.t 147)⟩,
  ⟨(some 149), none, .bin .geq (.t 148) (.c (.int .i64 (0)))⟩,
  ⟨(some 150), none, .mv (.t 149)⟩,
  ⟨(some 151), (some (150, true)), .mv (.t 20)⟩,
  ⟨(some 152), (some (150, true)), .mv (.t 23)⟩,
  ⟨(some 153), (some (150, true)), .idx 1 (.t 151) (.t 152)⟩,
  ⟨(some 154), (some (150, true)), .load 1 false (.t 153)⟩,
  ⟨(some 155), (some (150, true)), .mv (.t 18)⟩,
  ⟨(some 156), (some (150, true)), .mv (.t 23)⟩,
  ⟨(some 157), (some (150, true)), .idx 1 (.t 155) (.t 156)⟩,
  ⟨(some 158), (some (150, true)), .load 1 false (.t 157)⟩,
  ⟨(some 159), (some (150, true)), .bin .neq (.t 154) (.t 158)⟩,
  ⟨(some 160), none, .pick (.t 150) (.t 159) (.c (.bool false))⟩], true, [(8, 12), (9, 12), (8, 13), (9, 13)]⟩
def Try.r_law6_WorkersResultsAreFinal_24 : LReg := ⟨[⟨(some 12), none, .mv (.c (.bool false))⟩], false, []⟩
def Try.r_law6_WorkersResultsAreFinal_25 : LReg := ⟨[⟨(some 143), none, .mv (.t 23)⟩,
  ⟨(some 144), none, .bin .add (.t 143) (.c (.int .i64 (1)))⟩,
  ⟨(some 23), none, .mv (.t 144)⟩], false, []⟩
def Try.r_law6_WorkersResultsAreFinal_26 : LReg := ⟨[⟨(some 12), none, .mv (.c (.bool true))⟩], false, []⟩
def Try.l_law6_WorkersResultsAreFinal : LCode := (.seq (.reg Try.r_law6_WorkersResultsAreFinal_0) (.seq (.seq (.reg Try.r_law6_WorkersResultsAreFinal_1) (.cond (.t 25) (.seq (.reg Try.r_law6_WorkersResultsAreFinal_2) .ret) .skip)) (.seq (.seq (.reg Try.r_law6_WorkersResultsAreFinal_3) (.cond (.t 33) (.seq (.reg Try.r_law6_WorkersResultsAreFinal_4) .ret) .skip)) (.seq (.reg Try.r_law6_WorkersResultsAreFinal_5) (.seq (.reg Try.r_law6_WorkersResultsAreFinal_6) (.seq (.reg Try.r_law6_WorkersResultsAreFinal_7) (.seq (.reg Try.r_law6_WorkersResultsAreFinal_8) (.seq (.reg Try.r_law6_WorkersResultsAreFinal_9) (.seq (.reg Try.r_law6_WorkersResultsAreFinal_10) (.seq (.reg Try.r_law6_WorkersResultsAreFinal_11) (.seq (.seq (.reg Try.r_law6_WorkersResultsAreFinal_12) (.cond (.t 81) (.seq (.reg Try.r_law6_WorkersResultsAreFinal_13) .ret) .skip)) (.seq (.seq (.reg Try.r_law6_WorkersResultsAreFinal_14) (.cond (.t 116) (.seq (.reg Try.r_law6_WorkersResultsAreFinal_15) .ret) .skip)) (.seq (.seq (.reg Try.r_law6_WorkersResultsAreFinal_16) (.block 0 (.loop (.seq (.seq (.reg Try.r_law6_WorkersResultsAreFinal_17) (.cond (.t 120) .skip (.exit 0))) (.seq (.block 1 (.seq (.reg Try.r_law6_WorkersResultsAreFinal_18) (.cond (.t 138) (.seq (.reg Try.r_law6_WorkersResultsAreFinal_19) .ret) .skip))) (.reg Try.r_law6_WorkersResultsAreFinal_20)))))) (.seq (.seq (.reg Try.r_law6_WorkersResultsAreFinal_21) (.block 2 (.loop (.seq (.seq (.reg Try.r_law6_WorkersResultsAreFinal_22) (.cond (.t 142) .skip (.exit 2))) (.seq (.block 3 (.seq (.reg Try.r_law6_WorkersResultsAreFinal_23) (.cond (.t 160) (.seq (.reg Try.r_law6_WorkersResultsAreFinal_24) .ret) .skip))) (.reg Try.r_law6_WorkersResultsAreFinal_25)))))) (.seq (.reg Try.r_law6_WorkersResultsAreFinal_26) .ret)))))))))))))))
theorem Try.c_law6_WorkersResultsAreFinal : fnComp Try.prog 7 = some (161, Try.l_law6_WorkersResultsAreFinal, [.t 12]) := by kernel_rfl

/- 8 changeforge/changeforgelaw6.WorkersAssignmentsArePermitted -/
def Try.r_law6_WorkersAssignmentsArePermitted_0 : LReg := ⟨[⟨(some 8), none, .mv (.c (.bool false))⟩], false, []⟩
def Try.r_law6_WorkersAssignmentsArePermitted_1 : LReg := ⟨[⟨(some 23), none, .mv (.t 0)⟩,
  ⟨(some 24), none, .mv (.t 1)⟩,
  ⟨(some 25), none, .mv (.t 2)⟩,
  ⟨(some 26), none, .mv (.t 3)⟩,
  ⟨(some 27), none, .call 17 [(.t 23), (.t 24), (.t 25), (.t 26)]⟩,
  ⟨(some 22), none, .mv (.t 27)⟩,
  ⟨(some 28), none, .extract 0 (.t 22)⟩,
  ⟨(some 29), none, .extract 1 (.t 22)⟩,
  ⟨(some 30), none, .extract 2 (.t 22)⟩,
  ⟨(some 31), none, .extract 3 (.t 22)⟩,
  ⟨(some 12), none, .alloc 25 2 [.int .i64 (0), .int .i64 (0)]⟩,
  ⟨(some 9), none, .mv (.t 28)⟩,
  ⟨(some 10), none, .mv (.t 29)⟩,
  ⟨(some 11), none, .mv (.t 30)⟩,
  ⟨none, none, .store 2 (.t 12) (.t 31)⟩], false, []⟩
def Try.r_law6_WorkersAssignmentsArePermitted_2 : LReg := ⟨[⟨(some 32), none, .call 9 []⟩,
  ⟨(some 33), none, .un .not (.t 32)⟩,
  ⟨(some 34), none, .mv (.t 33)⟩,
  ⟨(some 35), (some (34, false)), .fieldAddr 0 (.t 12)⟩,
  ⟨(some 36), (some (34, false)), .load 1 false (.t 35)⟩,
  ⟨(some 37), (some (34, false)), .bin .neq (.t 36) (.c (.int .i64 (0)))⟩,
  ⟨(some 38), none, .pick (.t 34) (.c (.bool true)) (.t 37)⟩], false, []⟩
def Try.r_law6_WorkersAssignmentsArePermitted_3 : LReg := ⟨[⟨(some 39), none, .call 9 []⟩,
  ⟨(some 40), none, .mv (.t 39)⟩,
  ⟨(some 41), (some (40, true)), .mv (.t 11)⟩,
  ⟨(some 42), (some (40, true)), .un .not (.t 41)⟩,
  ⟨(some 43), none, .pick (.t 40) (.t 42) (.c (.bool false))⟩,
  ⟨(some 8), none, .mv (.t 43)⟩], false, []⟩
def Try.r_law6_WorkersAssignmentsArePermitted_4 : LReg := ⟨[⟨(some 44), none, .mv (.t 3)⟩,
  ⟨(some 45), none, .len (.t 44)⟩,
  ⟨(some 46), none, .bin .gtr (.t 45) (.c (.int .i64 (39)))⟩], false, []⟩
def Try.r_law6_WorkersAssignmentsArePermitted_5 : LReg := ⟨[⟨(some 47), none, .mv (.t 3)⟩,
  ⟨(some 48), none, .len (.t 47)⟩,
  ⟨(some 49), none, .bin .eql (.t 48) (.c (.int .i64 (40)))⟩,
  ⟨(some 8), none, .mv (.t 49)⟩], false, []⟩
def Try.r_law6_WorkersAssignmentsArePermitted_6 : LReg := ⟨[⟨(some 50), none, .mv (.t 11)⟩], false, []⟩
def Try.r_law6_WorkersAssignmentsArePermitted_7 : LReg := ⟨[⟨(some 13), none, .mv (.c (.nils))⟩], false, []⟩
def Try.r_law6_WorkersAssignmentsArePermitted_8 : LReg := ⟨[⟨(some 51), none, .mv (.t 13)⟩,
  ⟨(some 52), none, .mv (.t 3)⟩,
  ⟨(some 53), none, .append 44 4 32 (.t 51) (.t 52)⟩,
  ⟨(some 13), none, .mv (.t 53)⟩], false, []⟩
def Try.r_law6_WorkersAssignmentsArePermitted_9 : LReg := ⟨[⟨(some 54), none, .mv (.t 13)⟩,
  ⟨(some 55), none, .mv (.t 10)⟩,
  ⟨(some 56), none, .mv (.t 9)⟩,
  ⟨(some 57), none, .build [.int .i64 (0), .int .i64 (0), .int .i64 (0), .int .i64 (0)] [(0, 1, (.c (.int .i64 (1)))), (1, 1, (.t 55)), (2, 1, (.t 56))]⟩,
  ⟨(some 58), none, .mkSlice 44 4 1 [.int .i64 (0), .int .i64 (0), .int .i64 (0), .int .i64 (0)] [(0, (.t 57))]⟩,
  ⟨(some 59), none, .append 44 4 32 (.t 54) (.t 58)⟩,
  ⟨(some 13), none, .mv (.t 59)⟩], false, []⟩
def Try.r_law6_WorkersAssignmentsArePermitted_10 : LReg := ⟨[⟨(some 61), none, .mv (.t 0)⟩,
  ⟨(some 62), none, .mv (.t 1)⟩,
  ⟨(some 63), none, .mv (.t 2)⟩,
  ⟨(some 64), none, .mv (.t 13)⟩,
  ⟨(some 65), none, .call 11 [(.t 61), (.t 62), (.t 63), (.t 64)]⟩,
  ⟨(some 60), none, .mv (.t 65)⟩,
  ⟨(some 66), none, .extract 0 (.t 60)⟩,
  ⟨(some 67), none, .extract 1 (.t 60)⟩,
  ⟨(some 15), none, .alloc 25 2 [.int .i64 (0), .int .i64 (0)]⟩,
  ⟨(some 14), none, .mv (.t 66)⟩,
  ⟨none, none, .store 2 (.t 15) (.t 67)⟩], false, []⟩
def Try.r_law6_WorkersAssignmentsArePermitted_11 : LReg := ⟨[⟨(some 68), none, .fieldAddr 0 (.t 15)⟩,
  ⟨(some 69), none, .load 1 false (.t 68)⟩,
  ⟨(some 70), none, .bin .eql (.t 69) (.c (.int .i64 (0)))⟩,
  ⟨(some 71), none, .mv (.t 70)⟩,
  ⟨(some 72), (some (71, true)), .mv (.t 9)⟩,
  ⟨(some 73), (some (71, true)), .mv (.t 14)⟩,
  ⟨(some 74), (some (71, true)), .len (.t 73)⟩,
  ⟨(some 75), (some (71, true)), .bin .sub (.t 74) (.c (.int .i64 (1)))⟩,
  ⟨(some 76), (some (71, true)), .call 13 [(.t 72), (.c (.int .i64 (0))), (.t 75)]⟩,
  ⟨(some 77), none, .pick (.t 71) (.t 76) (.c (.bool false))⟩,
  ⟨(some 78), none, .mv (.t 77)⟩,
  ⟨(some 79), (some (78, true)), .mv (.t 14)⟩,
  ⟨(some 80), (some (78, true)), .mv (.t 9)⟩,
  ⟨(some 81), (some (78, true)), .idx 1 (.t 79) (.t 80)⟩,
  ⟨(some 82), (some (78, true)), .load 1 false (.t 81)⟩,
  ⟨(some 83), (some (78, true)), .bin .eql (.t 82) (.c (.int .i64 (-1)))⟩,
  ⟨(some 84), none, .pick (.t 78) (.t 83) (.c (.bool false))⟩,
  ⟨(some 8), none, .mv (.t 84)⟩], false, []⟩
def Try.r_law6_WorkersAssignmentsArePermitted_12 : LReg := ⟨[⟨(some 86), none, .mv (.t 0)⟩,
  ⟨(some 87), none, .mv (.t 1)⟩,
  ⟨(some 88), none, .mv (.t 2)⟩,
  ⟨(some 89), none, .mv (.t 3)⟩,
  ⟨(some 90), none, .call 11 [(.t 86), (.t 87), (.t 88), (.t 89)]⟩,
  ⟨(some 85), none, .mv (.t 90)⟩,
  ⟨(some 91), none, .extract 0 (.t 85)⟩,
  ⟨(some 92), none, .extract 1 (.t 85)⟩,
  ⟨(some 17), none, .alloc 25 2 [.int .i64 (0), .int .i64 (0)]⟩,
  ⟨(some 16), none, .mv (.t 91)⟩,
  ⟨none, none, .store 2 (.t 17) (.t 92)⟩], false, []⟩
def Try.r_law6_WorkersAssignmentsArePermitted_13 : LReg := ⟨[⟨(some 18), none, .mv (.c (.int .i64 (0)))⟩], false, []⟩
def Try.r_law6_WorkersAssignmentsArePermitted_14 : LReg := ⟨[⟨(some 93), none, .mv (.t 18)⟩,
  ⟨(some 94), none, .mv (.t 16)⟩,
  ⟨(some 95), none, .len (.t 94)⟩,
  ⟨(some 96), none, .bin .lss (.t 93) (.t 95)⟩], false, []⟩
def Try.r_law6_WorkersAssignmentsArePermitted_15 : LReg := ⟨[⟨(some 100), none, .mv (.t 0)⟩,
  ⟨(some 101), none, .mv (.t 1)⟩,
  ⟨(some 102), none, .mv (.t 2)⟩,
  ⟨(some 103), none, .mv (.t 3)⟩,
  ⟨(some 104), none, .mv (.t 18)⟩,
  ⟨(some 105), none, .call 15 [(.t 100), (.t 101), (.t 102), (.t 103), (.t 104)]⟩,
  ⟨(some 99), none, .mv (.t 105)⟩,
  ⟨(some 106), none, .extract 0 (.t 99)⟩,
  ⟨(some 107), none, .extract 1 (.t 99)⟩,
  ⟨(some 20), none, .alloc 25 2 [.int .i64 (0), .int .i64 (0)]⟩,
  ⟨(some 19), none, .mv (.t 106)⟩,
  ⟨none, none, .store 2 (.t 20) (.t 107)⟩], false, []⟩
def Try.r_law6_WorkersAssignmentsArePermitted_16 : LReg := ⟨[⟨(some 21), none, .mv (.c (.int .i64 (0)))⟩], false, []⟩
def Try.r_law6_WorkersAssignmentsArePermitted_17 : LReg := ⟨[⟨(some 108), none, .mv (.t 21)⟩,
  ⟨(some 109), none, .mv (.t 19)⟩,
  ⟨(some 110), none, .len (.t 109)⟩,
  ⟨(some 111), none, .bin .lss (.t 108) (.t 110)⟩], false, []⟩
def Try.r_law6_WorkersAssignmentsArePermitted_18 : LReg := ⟨[⟨(some 114), none, .mv (.t 16)⟩,
  ⟨(some 115), none, .mv (.t 18)⟩,
  ⟨(some 116), none, .idx 1 (.t 114) (.t 115)⟩,
  ⟨(some 117), none, .load 1 false (.t 116)⟩,
  ⟨(some 118), none, .bin .lss (.t 117) (.c (.int .i64 (0)))⟩,
  ⟨(some 119), none, .mv (.t 118)⟩,
  ⟨(some 120), (some (119, true)), .mv (.t 19)⟩,
  ⟨(some 121), (some (119, true)), .mv (.t 21)⟩,
  ⟨(some 122), (some (119, true)), .idx 1 (.t 120) (.t 121)⟩,
  ⟨(some 123), (some (119, true)), .load 1 false (.t 122)⟩,
  ⟨(some 124), (some (119, true)), .bin .lss (.t 123) (.c (.int .i64 (0)))⟩,
  ⟨(some 125), none, .pick (.t 119) (.t 124) (.c (.bool false))⟩,
  ⟨(some 126), none, .mv (.t 125)⟩,
  ⟨(some 127), (some (126, true)), .mv (.t 3)⟩,
  ⟨(some 128), (some (126, true)), .mv (.t 21)⟩,
  ⟨(some 129), (some (126, true)), .call 20 [(.t 127), (.t 128)]⟩,
  ⟨(some 130), (some (126, true)), .bin .eql (.t 129) (.c (.int .i64 (-1)))⟩,
  ⟨(some 131), none, .pick (.t 126) (.t 130) (.c (.bool false))⟩], false, []⟩
def Try.r_law6_WorkersAssignmentsArePermitted_19 : LReg := ⟨[⟨(some 8), none, .mv (.c (.bool false))⟩], false, []⟩
def Try.r_law6_WorkersAssignmentsArePermitted_20 : LReg := ⟨[⟨(some 112), none, .mv (.t 21)⟩,
  ⟨(some 113), none, .bin .add (.t 112) (.c (.int .i64 (1)))⟩,
  ⟨(some 21), none, .mv (.t 113)⟩], false, []⟩
def Try.r_law6_WorkersAssignmentsArePermitted_21 : LReg := ⟨[⟨(some 132), none, .fieldAddr 0 (.t 20)⟩,
  ⟨(some 133), none, .load 1 false (.t 132)⟩,
  ⟨(some 134), none, .bin .neq (.t 133) (.c (.int .i64 (0)))⟩], false, []⟩
def Try.r_law6_WorkersAssignmentsArePermitted_22 : LReg := ⟨[⟨(some 8), none, .mv (.c (.bool false))⟩], false, []⟩
def Try.r_law6_WorkersAssignmentsArePermitted_23 : LReg := ⟨[⟨(some 97), none, .mv (.t 18)⟩,
  ⟨(some 98), none, .bin .add (.t 97) (.c (.int .i64 (1)))⟩,
  ⟨(some 18), none, .mv (.t 98)⟩], false, []⟩
def Try.r_law6_WorkersAssignmentsArePermitted_24 : LReg := ⟨[⟨(some 135), none, .fieldAddr 0 (.t 17)⟩,
  ⟨(some 136), none, .load 1 false (.t 135)⟩,
  ⟨(some 137), none, .bin .eql (.t 136) (.c (.int .i64 (0)))⟩,
  ⟨(some 8), none, .mv (.t 137)⟩], false, []⟩
def Try.l_law6_WorkersAssignmentsArePermitted : LCode := (.seq (.reg Try.r_law6_WorkersAssignmentsArePermitted_0) (.seq (.reg Try.r_law6_WorkersAssignmentsArePermitted_1) (.seq (.seq (.reg Try.r_law6_WorkersAssignmentsArePermitted_2) (.cond (.t 38) (.seq (.reg Try.r_law6_WorkersAssignmentsArePermitted_3) .ret) .skip)) (.seq (.seq (.reg Try.r_law6_WorkersAssignmentsArePermitted_4) (.cond (.t 46) (.seq (.reg Try.r_law6_WorkersAssignmentsArePermitted_5) .ret) .skip)) (.seq (.seq (.reg Try.r_law6_WorkersAssignmentsArePermitted_6) (.cond (.t 50) (.seq (.reg Try.r_law6_WorkersAssignmentsArePermitted_7) (.seq (.reg Try.r_law6_WorkersAssignmentsArePermitted_8) (.seq (.reg Try.r_law6_WorkersAssignmentsArePermitted_9) (.seq (.reg Try.r_law6_WorkersAssignmentsArePermitted_10) (.seq (.reg Try.r_law6_WorkersAssignmentsArePermitted_11) .ret))))) .skip)) (.seq (.reg Try.r_law6_WorkersAssignmentsArePermitted_12) (.seq (.seq (.reg Try.r_law6_WorkersAssignmentsArePermitted_13) (.block 0 (.loop (.seq (.seq (.reg Try.r_law6_WorkersAssignmentsArePermitted_14) (.cond (.t 96) .skip (.exit 0))) (.seq (.block 1 (.seq (.reg Try.r_law6_WorkersAssignmentsArePermitted_15) (.seq (.seq (.reg Try.r_law6_WorkersAssignmentsArePermitted_16) (.block 2 (.loop (.seq (.seq (.reg Try.r_law6_WorkersAssignmentsArePermitted_17) (.cond (.t 111) .skip (.exit 2))) (.seq (.block 3 (.seq (.reg Try.r_law6_WorkersAssignmentsArePermitted_18) (.cond (.t 131) (.seq (.reg Try.r_law6_WorkersAssignmentsArePermitted_19) .ret) .skip))) (.reg Try.r_law6_WorkersAssignmentsArePermitted_20)))))) (.seq (.reg Try.r_law6_WorkersAssignmentsArePermitted_21) (.cond (.t 134) (.seq (.reg Try.r_law6_WorkersAssignmentsArePermitted_22) .ret) .skip))))) (.reg Try.r_law6_WorkersAssignmentsArePermitted_23)))))) (.seq (.reg Try.r_law6_WorkersAssignmentsArePermitted_24) .ret))))))))
theorem Try.c_law6_WorkersAssignmentsArePermitted : fnComp Try.prog 8 = some (138, Try.l_law6_WorkersAssignmentsArePermitted, [.t 8]) := by kernel_rfl
end Go.Proofs.Ythnneojommdhjaa
