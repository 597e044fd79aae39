/- The code of the functions, as the evaluator reads it. Laid by a program (wip/gen/dec.py). -/
import Derived.Test.YtfdennmaeoahgaaProg
import Derived.Test.YtfdennmaeoahgaaPwFam
import Derived.Test.YtfdennmaeoahgaaPwAuto
namespace Go.Proofs.Ytfdennmaeoahgaa
open Go.PW Go
theorem hm : Try.prog.follows .mixedOrders = true := by kernel_rfl
instance : Hm Try.prog := ⟨hm⟩
def q84_0 : LReg := rG [oO 2 (mK (kI 0))]
def q84_1 : LReg := rG [oO 3 (mK (kI 0))]
def q84_2 : LReg := rG [oM 6 0,oO 7 (lN 6),oO 8 (mK (kI 0))]
def q84_3 : LReg := rG [oO 9 (bT .lss 8 7)]
def q84_4 : LReg := rG [oO 10 (iX 1 6 8),oO 11 (lV 1 10),oM 5 11]
def q84_5 : LReg := rG [oM 12 5,oM 13 3,oO 14 (bT .neq 12 13)]
def q84_6 : LReg := rG [oM 15 5,oM 2 15]
def q84_7 : LReg := rG [oO 16 (bK .add 8 1),oM 8 16]
def q84_8 : LReg := rG [oM 17 3,oM 2 17]
def Try.l_cmp_Or_int : LCode := (.seq (.reg q84_0) (.seq (.reg q84_1) (.seq (.seq (.reg q84_2) (.block 0 (.loop (.seq (.reg q84_3) (.seq (.cond (.t 9) .skip (.exit 0)) (.seq (.block 1 (.seq (.reg q84_4) (.seq (.reg q84_5) (.cond (.t 14) (.seq (.reg q84_6) .ret) .skip)))) (.reg q84_7))))))) (.seq (.reg q84_8) .ret))))
theorem Try.c_cmp_Or_int : fnComp Try.prog 84 = some (18, Try.l_cmp_Or_int,[.t 2]) := by kernel_rfl
def q92_0 : LReg := rG [oO 2 (mK (kB false))]
def q92_1 : LReg := rG [oM 3 0,oM 4 0,oO 5 (bT .neq 3 4),oM 2 5]
def Try.l_cmp_isNaN_int : LCode := (.seq (.reg q92_0) (.seq (.reg q92_1) .ret))
theorem Try.c_cmp_isNaN_int : fnComp Try.prog 92 = some (6, Try.l_cmp_isNaN_int,[.t 2]) := by kernel_rfl
def q85_0 : LReg := rG [oO 4 (mK (kI 0))]
def q85_1 : LReg := rG [oM 7 0,oO 8 (cA 92 [7]),oM 5 8]
def q85_2 : LReg := rG [oM 9 1,oO 10 (cA 92 [9]),oM 6 10]
def q85_3 : LReg := rG [oM 11 5]
def q85_4 : LReg := rG [oM 12 6]
def q85_5 : LReg := rG [oO 4 (mK (kI 0))]
def q85_6 : LReg := rG [oO 4 (mK (kI (-1)))]
def q85_7 : LReg := rG [oM 13 6]
def q85_8 : LReg := rG [oO 4 (mK (kI 1))]
def q85_9 : LReg := rG [oM 14 0,oM 15 1,oO 16 (bT .lss 14 15)]
def q85_10 : LReg := rG [oO 4 (mK (kI (-1)))]
def q85_11 : LReg := rG [oM 17 0,oM 18 1,oO 19 (bT .gtr 17 18)]
def q85_12 : LReg := rG [oO 4 (mK (kI 1))]
def q85_13 : LReg := rG [oO 4 (mK (kI 0))]
def Try.l_cmp_Compare_int : LCode := (.seq (.reg q85_0) (.seq (.reg q85_1) (.seq (.reg q85_2) (.seq (.seq (.reg q85_3) (.cond (.t 11) (.seq (.seq (.reg q85_4) (.cond (.t 12) (.seq (.reg q85_5) .ret) .skip)) (.seq (.reg q85_6) .ret)) .skip)) (.seq (.seq (.reg q85_7) (.cond (.t 13) (.seq (.reg q85_8) .ret) .skip)) (.seq (.seq (.reg q85_9) (.cond (.t 16) (.seq (.reg q85_10) .ret) .skip)) (.seq (.seq (.reg q85_11) (.cond (.t 19) (.seq (.reg q85_12) .ret) .skip)) (.seq (.reg q85_13) .ret))))))))
theorem Try.c_cmp_Compare_int : fnComp Try.prog 85 = some (20, Try.l_cmp_Compare_int,[.t 4]) := by kernel_rfl
def q86_0 : LReg := rG [oO 6 (mK (kI 0))]
def q86_1 : LReg := rG [oM 11 0,oO 12 (lN 11),oO 13 (mK (kI 0))]
def q86_2 : LReg := rG [oO 14 (bT .lss 13 12)]
def q86_3 : LReg := rG [oM 15 13,oO 16 (iX 1 11 13),oO 17 (lV 1 16),oM 7 15,oM 8 17]
def q86_4 : LReg := rG [oM 18 7,oM 19 1,oO 20 (lN 19),oO 21 (bT .geq 18 20)]
def q86_5 : LReg := rG [oO 6 (mK (kI 1))]
def q86_6 : LReg := rG [oM 22 1,oM 23 7,oO 24 (iX 1 22 23),oO 25 (lV 1 24),oM 9 25]
def q86_7 : LReg := rG [oM 26 2,oM 27 8,oM 28 9,oO 29 (.callv (.t 26) [(.t 27),(.t 28)]),oM 10 29]
def q86_8 : LReg := rG [oM 30 10,oO 31 (bK .neq 30 0)]
def q86_9 : LReg := rG [oM 32 10,oM 6 32]
def q86_10 : LReg := rG [oO 33 (bK .add 13 1),oM 13 33]
def q86_11 : LReg := rG [oM 34 0,oO 35 (lN 34),oM 36 1,oO 37 (lN 36),oO 38 (bT .lss 35 37)]
def q86_12 : LReg := rG [oO 6 (mK (kI (-1)))]
def q86_13 : LReg := rG [oO 6 (mK (kI 0))]
def Try.l_slices_CompareFunc_string_string_string_string : LCode := (.seq (.reg q86_0) (.seq (.seq (.reg q86_1) (.block 0 (.loop (.seq (.reg q86_2) (.seq (.cond (.t 14) .skip (.exit 0)) (.seq (.block 1 (.seq (.reg q86_3) (.seq (.seq (.reg q86_4) (.cond (.t 21) (.seq (.reg q86_5) .ret) .skip)) (.seq (.reg q86_6) (.seq (.reg q86_7) (.seq (.reg q86_8) (.cond (.t 31) (.seq (.reg q86_9) .ret) .skip))))))) (.reg q86_10))))))) (.seq (.seq (.reg q86_11) (.cond (.t 38) (.seq (.reg q86_12) .ret) .skip)) (.seq (.reg q86_13) .ret))))
theorem Try.c_slices_CompareFunc_string_string_string_string : fnComp Try.prog 86 = some (39, Try.l_slices_CompareFunc_string_string_string_string,[.t 6]) := by kernel_rfl
def q91_0 : LReg := rG [oO 2 (mK (kB false))]
def q91_1 : LReg := rG [oM 3 0,oO 4 (.call 94 [(.t 3),(.c (.fn 95 [] []))]),oO 5 (.un .not (.t 4)),oM 2 5]
def Try.l_version_numeric : LCode := (.seq (.reg q91_0) (.seq (.reg q91_1) .ret))
theorem Try.c_version_numeric : fnComp Try.prog 91 = some (6, Try.l_version_numeric,[.t 2]) := by kernel_rfl
theorem Try.b_version_compareIdentifiers : bodied Try.prog 87 = true := by kernel_rfl
def q87_0 : LReg := rG [oO 4 (mK (kI 0))]
def q87_1 : LReg := rG [oM 7 0,oO 8 (cA 91 [7]),oM 9 1,oO 10 (cA 91 [9]),oM 5 8,oM 6 10]
def q87_2 : LReg := rG [oM 12 5,oM 13 12,oT 14 13 (.mv (.t 6)),oO 15 (pK 13 14 (kB false)),oM 11 15]
def q87_3 : LReg := rG [oM 16 0,oO 17 (sN 16),oM 18 1,oO 19 (sN 18),oO 20 (cA 85 [17,19]),oM 21 0,oM 22 1,oO 23 (cA 93 [21,22]),oO 24 (.mkSlice 3 1 2 [.int .i64 0] [(0,(.t 20)),(1,(.t 23))]),oO 25 (cA 84 [24]),oM 4 25]
def q87_4 : LReg := rG [oM 27 5,oM 26 27]
def q87_5 : LReg := rG [oO 4 (mK (kI (-1)))]
def q87_6 : LReg := rG [oM 29 6,oM 28 29]
def q87_7 : LReg := rG [oO 4 (mK (kI 1))]
def q87_8 : LReg := rG [oM 30 0,oM 31 1,oO 32 (cA 93 [30,31]),oM 4 32]
def Try.l_version_compareIdentifiers : LCode := (.seq (.reg q87_0) (.seq (.reg q87_1) (.seq (.block 0 (.seq (.reg q87_2) (.cond (.t 11) (.seq (.reg q87_3) .ret) (.seq (.reg q87_4) (.cond (.t 26) (.seq (.reg q87_5) .ret) (.seq (.reg q87_6) (.cond (.t 28) (.seq (.reg q87_7) .ret) .skip))))))) (.seq (.reg q87_8) .ret))))
theorem Try.c_version_compareIdentifiers : fnComp Try.prog 87 = some (33, Try.l_version_compareIdentifiers,[.t 4]) := by kernel_rfl
def q76_0 : LReg := rG [oO 2 (.box 64 4 (.t 0)),oO 3 (.box 64 4 (.t 1)),oO 4 (mK (kI 0))]
def q76_1 : LReg := ⟨[oO 6 (fA 0 2),oO 7 (lV 1 6),oO 8 (fA 0 3),oO 9 (lV 1 8),oO 10 (cA 85 [7,9]),oO 11 (fA 1 2),oO 12 (lV 1 11),oO 13 (fA 1 3),oO 14 (lV 1 13),oO 15 (cA 85 [12,14]),oO 16 (fA 2 2),oO 17 (lV 1 16),oO 18 (fA 2 3),oO 19 (lV 1 18),oO 20 (cA 85 [17,19]),oO 21 (.mkSlice 3 1 3 [.int .i64 0] [(0,(.t 10)),(1,(.t 15)),(2,(.t 20))]),oO 22 (cA 84 [21]),oM 5 22],true,[(0,2),(1,2),(0,3),(1,3),(0,5),(1,5),(2,5),(3,5),(4,5),(0,6),(1,6),(2,6),(3,6),(4,6),(0,7),(1,7),(2,7),(3,7),(4,7),(5,7),(6,7),(0,8),(1,8),(2,8),(3,8),(4,8),(5,8),(6,8),(0,10),(1,10),(2,10),(3,10),(4,10),(5,10),(6,10),(7,10),(8,10),(9,10),(0,11),(1,11),(2,11),(3,11),(4,11),(5,11),(6,11),(7,11),(8,11),(9,11),(0,12),(1,12),(2,12),(3,12),(4,12),(5,12),(6,12),(7,12),(8,12),(9,12),(10,12),(11,12),(0,13),(1,13),(2,13),(3,13),(4,13),(5,13),(6,13),(7,13),(8,13),(9,13),(10,13),(11,13)]⟩
def q76_2 : LReg := rG [oM 23 5,oO 24 (bK .neq 23 0)]
def q76_3 : LReg := rG [oM 25 5,oM 4 25]
def q76_4 : LReg := rG [oO 26 (fA 3 2),oO 27 (lV 1 26),oO 28 (lN 27),oO 29 (bK .eql 28 0),oO 30 (fA 3 3),oO 31 (lV 1 30),oO 32 (lN 31),oO 33 (bK .eql 32 0),oO 34 (.eqb true (.t 29) (.t 33))]
def q76_5 : LReg := rG [oO 35 (fA 3 3),oO 36 (lV 1 35),oO 37 (lN 36),oO 38 (fA 3 2),oO 39 (lV 1 38),oO 40 (lN 39),oO 41 (cA 85 [37,40]),oM 4 41]
def q76_6 : LReg := rG [oO 42 (fA 3 2),oO 43 (lV 1 42),oO 44 (fA 3 3),oO 45 (lV 1 44),oO 46 (.call 86 [(.t 43),(.t 45),(.c (.fn 87 [] []))]),oM 4 46]
def Try.l_version_Order : LCode := (.seq (.reg q76_0) (.seq (.seq (.reg q76_1) (.seq (.reg q76_2) (.cond (.t 24) (.seq (.reg q76_3) .ret) .skip))) (.seq (.seq (.reg q76_4) (.cond (.t 34) (.seq (.reg q76_5) .ret) .skip)) (.seq (.reg q76_6) .ret))))
theorem Try.c_version_Order : fnComp Try.prog 76 = some (47, Try.l_version_Order,[.t 4]) := by kernel_rfl
def q83_0 : LReg := rG [oO 2 (mK (kB false))]
def q83_1 : LReg := rG [oM 5 0,oO 6 (sN 5),oO 7 (bK .eql 6 0),oM 8 7,oF 9 8 (.mv (.t 0)),oF 10 8 (sN 9),oF 11 8 (bK .gtr 10 8),oO 12 (pL 8 (kB true) 11)]
def q83_2 : LReg := rG [oO 2 (mK (kB false))]
def q83_3 : LReg := rG [oM 13 0,oO 14 (sN 13),oO 15 (mK (kI 0))]
def q83_4 : LReg := rG [oO 16 (bT .lss 15 14)]
def q83_5 : LReg := rG [oM 17 15,oM 3 17]
def q83_6 : LReg := rG [oM 18 0,oM 19 3,oO 20 (.sidx (.t 18) (.t 19)),oM 4 20]
def q83_7 : LReg := rG [oM 21 4,oO 22 (.bin .lss (.t 21) (.c (.int .u8 48))),oM 23 22,oF 24 23 (.mv (.t 4)),oF 25 23 (.bin .gtr (.t 24) (.c (.int .u8 57))),oO 26 (pL 23 (kB true) 25),oM 27 26,oT 28 27 (.mv (.t 4)),oT 29 27 (.bin .lss (.t 28) (.c (.int .u8 97))),oT 30 27 (.mv (.t 29)),oF 31 30 (.mv (.t 4)),oF 32 30 (.bin .gtr (.t 31) (.c (.int .u8 122))),oT 33 27 (pL 30 (kB true) 32),oO 34 (pK 27 33 (kB false)),oM 35 34,oT 36 35 (.mv (.t 4)),oT 37 35 (.bin .lss (.t 36) (.c (.int .u8 65))),oT 38 35 (.mv (.t 37)),oF 39 38 (.mv (.t 4)),oF 40 38 (.bin .gtr (.t 39) (.c (.int .u8 90))),oT 41 35 (pL 38 (kB true) 40),oO 42 (pK 35 41 (kB false)),oM 43 42,oT 44 43 (.mv (.t 4)),oT 45 43 (.bin .neq (.t 44) (.c (.int .u8 45))),oO 46 (pK 43 45 (kB false))]
def q83_8 : LReg := rG [oO 2 (mK (kB false))]
def q83_9 : LReg := rG [oO 47 (bK .add 15 1),oM 15 47]
def q83_10 : LReg := rG [oM 48 0,oO 49 (cA 91 [48]),oO 50 (.un .not (.t 49)),oM 51 50,oF 52 51 (.mv (.t 0)),oF 53 51 (sN 52),oF 54 51 (bK .eql 53 1),oO 55 (pL 51 (kB true) 54),oM 56 55,oF 57 56 (.mv (.t 0)),oF 58 56 (.sidx (.t 57) (kI 0)),oF 59 56 (.bin .neq (.t 58) (.c (.int .u8 48))),oO 60 (pL 56 (kB true) 59),oM 2 60]
def Try.l_version_identifier : LCode := (.seq (.reg q83_0) (.seq (.seq (.reg q83_1) (.cond (.t 12) (.seq (.reg q83_2) .ret) .skip)) (.seq (.seq (.reg q83_3) (.block 0 (.loop (.seq (.reg q83_4) (.seq (.cond (.t 16) .skip (.exit 0)) (.seq (.block 1 (.seq (.reg q83_5) (.seq (.reg q83_6) (.seq (.reg q83_7) (.cond (.t 46) (.seq (.reg q83_8) .ret) .skip))))) (.reg q83_9))))))) (.seq (.reg q83_10) .ret))))
theorem Try.c_version_identifier : fnComp Try.prog 83 = some (61, Try.l_version_identifier,[.t 2]) := by kernel_rfl
def q75_0 : LReg := rG [oO 1 (.box 64 4 (.t 0)),oO 2 (.alloc 30 2 [.int .i64 0,.int .i64 0])]
def q75_1 : LReg := rG [oO 7 (fA 0 1),oO 8 (lV 1 7),oO 9 (fA 1 1),oO 10 (lV 1 9),oO 11 (fA 2 1),oO 12 (lV 1 11),oO 13 (.build [.int .i64 0,.int .i64 0,.int .i64 0] [(0,1,(.t 8)),(1,1,(.t 10)),(2,1,(.t 12))]),oO 14 (mK (kI 0))]
def q75_2 : LReg := rG [oO 15 (bK .lss 14 3)]
def q75_3 : LReg := rG [oM 16 14,oO 17 (.vidx 3 1 false (.t 13) (.t 14)),oM 3 16,oM 4 17]
def q75_4 : LReg := rG [oM 18 4,oO 19 (bK .lss 18 0),oM 20 19,oF 21 20 (.mv (.t 4)),oF 22 20 (bK .gtr 21 1000000000),oO 23 (pL 20 (kB true) 22)]
def q75_5 : LReg := rG [oM 24 3,oO 25 (.build [.int .i64 0,.int .i64 0] [(0,1,(kI 3)),(1,1,(.t 24))]),oX (sT 2 2 25)]
def q75_6 : LReg := rG [oO 26 (bK .add 14 1),oM 14 26]
def q75_7 : LReg := rG [oO 27 (fA 3 1),oO 28 (lV 1 27),oO 29 (lN 28),oO 30 (bK .gtr 29 4)]
def q75_8 : LReg := rG [oO 31 (.build [.int .i64 0,.int .i64 0] [(0,1,(kI 2)),(1,1,(kI (-1)))]),oX (sT 2 2 31)]
def q75_9 : LReg := rG [oO 32 (fA 3 1),oO 33 (lV 1 32),oO 34 (lN 33),oO 35 (mK (kI 0))]
def q75_10 : LReg := rG [oO 36 (bT .lss 35 34)]
def q75_11 : LReg := rG [oM 37 35,oO 38 (iX 1 33 35),oO 39 (lV 1 38),oM 5 37,oM 6 39]
def q75_12 : LReg := rG [oM 40 6,oO 41 (cA 83 [40]),oO 42 (.un .not (.t 41))]
def q75_13 : LReg := rG [oM 43 5,oO 44 (.build [.int .i64 0,.int .i64 0] [(0,1,(kI 5)),(1,1,(.t 43))]),oX (sT 2 2 44)]
def q75_14 : LReg := rG [oO 45 (bK .add 35 1),oM 35 45]
def q75_15 : LReg := rG [oO 46 (.build [.int .i64 0,.int .i64 0] []),oX (sT 2 2 46)]
def Try.l_version_Validate : LCode := (.seq (.reg q75_0) (.seq (.seq (.reg q75_1) (.block 0 (.loop (.seq (.reg q75_2) (.seq (.cond (.t 15) .skip (.exit 0)) (.seq (.block 1 (.seq (.reg q75_3) (.seq (.reg q75_4) (.cond (.t 23) (.seq (.reg q75_5) .ret) .skip)))) (.reg q75_6))))))) (.seq (.seq (.reg q75_7) (.cond (.t 30) (.seq (.reg q75_8) .ret) .skip)) (.seq (.seq (.reg q75_9) (.block 2 (.loop (.seq (.reg q75_10) (.seq (.cond (.t 36) .skip (.exit 2)) (.seq (.block 3 (.seq (.reg q75_11) (.seq (.reg q75_12) (.cond (.t 42) (.seq (.reg q75_13) .ret) .skip)))) (.reg q75_14))))))) (.seq (.reg q75_15) .ret)))))
theorem Try.c_version_Validate : fnComp Try.prog 75 = some (47, Try.l_version_Validate,[.cell 2 2 true]) := by kernel_rfl
def q88_0 : LReg := rG [oO 1 (.box 64 4 (.t 0)),oO 2 (mK (kB false))]
def q88_1 : LReg := rG [oO 3 (fA 0 1),oO 4 (lV 1 3),oO 5 (bK .eql 4 0),oM 6 5,oT 7 6 (fA 1 1),oT 8 6 (lV 1 7),oT 9 6 (bK .eql 8 0),oO 10 (pK 6 9 (kB false)),oM 11 10,oT 12 11 (fA 2 1),oT 13 11 (lV 1 12),oT 14 11 (bK .eql 13 0),oO 15 (pK 11 14 (kB false)),oM 16 15,oT 17 16 (fA 3 1),oT 18 16 (lV 1 17),oT 19 16 (lN 18),oT 20 16 (bK .eql 19 0),oO 21 (pK 16 20 (kB false)),oM 2 21]
def Try.l_version_Zero : LCode := (.seq (.reg q88_0) (.seq (.reg q88_1) .ret))
theorem Try.c_version_Zero : fnComp Try.prog 88 = some (22, Try.l_version_Zero,[.t 2]) := by kernel_rfl
def q77_0 : LReg := rG [oO 1 (.box 88 9 (.t 0)),oO 2 (mK (kI 0))]
def q77_1 : LReg := rG [oO 5 (fA 0 1),oO 6 (lA 4 5),oO 7 (cA 75 [6]),oO 3 (.alloc 30 2 [.int .i64 0,.int .i64 0]),oX (sT 2 3 7)]
def q77_2 : LReg := rG [oO 8 (lA 2 3),oO 9 (.build [.int .i64 0,.int .i64 0] []),oO 10 (.eqs true [0,0] (.t 8) (.t 9))]
def q77_3 : LReg := rG [oO 11 (fA 0 3),oO 12 (lV 1 11),oM 2 12]
def q77_4 : LReg := rG [oO 13 (fA 8 1),oO 14 (lV 1 13)]
def q77_5 : LReg := rG [oO 15 (fA 4 1),oO 16 (lA 4 15),oO 17 (cA 88 [16]),oO 18 (.un .not (.t 17))]
def q77_6 : LReg := rG [oO 2 (mK (kI 5))]
def q77_7 : LReg := rG [oO 2 (mK (kI 0))]
def q77_8 : LReg := rG [oO 19 (fA 4 1),oO 20 (lA 4 19),oO 21 (cA 75 [20]),oO 4 (.alloc 30 2 [.int .i64 0,.int .i64 0]),oX (sT 2 4 21)]
def q77_9 : LReg := rG [oO 22 (lA 2 4),oO 23 (.build [.int .i64 0,.int .i64 0] []),oO 24 (.eqs true [0,0] (.t 22) (.t 23))]
def q77_10 : LReg := rG [oO 25 (fA 0 4),oO 26 (lV 1 25),oM 2 26]
def q77_11 : LReg := rG [oO 27 (fA 0 1),oO 28 (lA 4 27),oO 29 (fA 4 1),oO 30 (lA 4 29),oO 31 (cA 76 [28,30]),oO 32 (bK .geq 31 0)]
def q77_12 : LReg := rG [oO 2 (mK (kI 5))]
def q77_13 : LReg := rG [oO 2 (mK (kI 0))]
def Try.l_verrange_check : LCode := (.seq (.reg q77_0) (.seq (.seq (.reg q77_1) (.seq (.reg q77_2) (.cond (.t 10) (.seq (.reg q77_3) .ret) .skip))) (.seq (.seq (.reg q77_4) (.cond (.t 14) (.seq (.seq (.reg q77_5) (.cond (.t 18) (.seq (.reg q77_6) .ret) .skip)) (.seq (.reg q77_7) .ret)) .skip)) (.seq (.seq (.reg q77_8) (.seq (.reg q77_9) (.cond (.t 24) (.seq (.reg q77_10) .ret) .skip))) (.seq (.seq (.reg q77_11) (.cond (.t 32) (.seq (.reg q77_12) .ret) .skip)) (.seq (.reg q77_13) .ret))))))
theorem Try.c_verrange_check : fnComp Try.prog 77 = some (33, Try.l_verrange_check,[.t 2]) := by kernel_rfl
def q67_0 : LReg := rG [oO 1 (.box 58 1 (.t 0)),oO 2 (.alloc 30 2 [.int .i64 0,.int .i64 0])]
def q67_1 : LReg := rG [oO 7 (fA 0 1),oO 8 (lV 1 7),oO 9 (lN 8),oO 10 (bK .gtr 9 12)]
def q67_2 : LReg := rG [oO 11 (.build [.int .i64 0,.int .i64 0] [(0,1,(kI 2)),(1,1,(kI (-1)))]),oX (sT 2 2 11)]
def q67_3 : LReg := rG [oO 12 (fA 0 1),oO 13 (lV 1 12),oO 14 (lN 13),oO 15 (mK (kI 0))]
def q67_4 : LReg := rG [oO 16 (bT .lss 15 14)]
def q67_5 : LReg := rG [oM 17 15,oO 18 (iX 9 13 15),oO 19 (lA 9 18),oO 4 (.alloc 88 9 [.int .i64 0,.int .i64 0,.int .i64 0,.nils,.int .i64 0,.int .i64 0,.int .i64 0,.nils,.bool false]),oM 3 17,oX (sT 9 4 19)]
def q67_6 : LReg := rG [oO 20 (lA 9 4),oO 21 (cA 77 [20]),oM 5 21]
def q67_7 : LReg := rG [oM 22 5,oO 23 (bK .eql 22 0),oM 24 23,oT 25 24 (.mv (.t 3)),oT 26 24 (bK .gtr 25 0),oO 27 (pK 24 26 (kB false))]
def q67_8 : LReg := rG [oO 28 (fA 0 1),oO 29 (lV 1 28),oM 30 3,oO 31 (bK .sub 30 1),oO 32 (iX 9 29 31),oO 33 (lA 9 32),oO 6 (.alloc 88 9 [.int .i64 0,.int .i64 0,.int .i64 0,.nils,.int .i64 0,.int .i64 0,.int .i64 0,.nils,.bool false]),oX (sT 9 6 33)]
def q67_9 : LReg := rG [oO 34 (fA 8 6),oO 35 (lV 1 34),oM 36 35,oF 37 36 (fA 4 6),oF 38 36 (lA 4 37),oF 39 36 (fA 0 4),oF 40 36 (lA 4 39),oF 41 36 (cA 76 [38,40]),oF 42 36 (bK .geq 41 0),oO 43 (pL 36 (kB true) 42)]
def q67_10 : LReg := rG [oO 5 (mK (kI 5))]
def q67_11 : LReg := rG [oM 44 5,oO 45 (bK .neq 44 0)]
def q67_12 : LReg := rG [oM 46 5,oM 47 3,oO 48 (.build [.int .i64 0,.int .i64 0] [(0,1,(.t 46)),(1,1,(.t 47))]),oX (sT 2 2 48)]
def q67_13 : LReg := rG [oO 49 (bK .add 15 1),oM 15 49]
def q67_14 : LReg := rG [oO 50 (.build [.int .i64 0,.int .i64 0] []),oX (sT 2 2 50)]
def Try.l_verrange_Validate : LCode := (.seq (.reg q67_0) (.seq (.seq (.reg q67_1) (.cond (.t 10) (.seq (.reg q67_2) .ret) .skip)) (.seq (.seq (.reg q67_3) (.block 0 (.loop (.seq (.reg q67_4) (.seq (.cond (.t 16) .skip (.exit 0)) (.seq (.block 1 (.seq (.reg q67_5) (.seq (.reg q67_6) (.seq (.seq (.reg q67_7) (.cond (.t 27) (.seq (.reg q67_8) (.seq (.reg q67_9) (.cond (.t 43) (.reg q67_10) .skip))) .skip)) (.seq (.reg q67_11) (.cond (.t 45) (.seq (.reg q67_12) .ret) .skip)))))) (.reg q67_13))))))) (.seq (.reg q67_14) .ret))))
theorem Try.c_verrange_Validate : fnComp Try.prog 67 = some (51, Try.l_verrange_Validate,[.cell 2 2 true]) := by kernel_rfl
def q56_0 : LReg := rG [oO 4 (mK (kI 0))]
def q56_1 : LReg := rG [oM 8 0,oO 9 (lN 8),oO 10 (bK .gtr 9 4)]
def q56_2 : LReg := rG [oO 4 (mK (kI 2))]
def q56_3 : LReg := rG [oM 11 0,oO 12 (lN 11),oO 13 (mK (kI 0))]
def q56_4 : LReg := rG [oO 14 (bT .lss 13 12)]
def q56_5 : LReg := rG [oM 15 13,oO 16 (iX 2 11 13),oO 17 (lA 2 16),oO 6 (.alloc 60 2 [.int .i64 0,.nils]),oM 5 15,oX (sT 2 6 17)]
def q56_6 : LReg := rG [oO 18 (fA 0 6),oO 19 (lV 1 18),oO 20 (bK .lss 19 0),oM 21 20,oF 22 21 (fA 0 6),oF 23 21 (lV 1 22),oF 24 21 (.mv (.t 1)),oF 25 21 (bT .geq 23 24),oO 26 (pL 21 (kB true) 25)]
def q56_7 : LReg := rG [oO 4 (mK (kI 3))]
def q56_8 : LReg := rG [oO 27 (fA 1 6),oO 28 (lA 1 27),oO 29 (cA 67 [28]),oO 7 (.alloc 30 2 [.int .i64 0,.int .i64 0]),oX (sT 2 7 29)]
def q56_9 : LReg := rG [oO 30 (lA 2 7),oO 31 (.build [.int .i64 0,.int .i64 0] []),oO 32 (.eqs true [0,0] (.t 30) (.t 31))]
def q56_10 : LReg := rG [oO 33 (fA 0 7),oO 34 (lV 1 33),oM 4 34]
def q56_11 : LReg := ⟨[oM 35 5,oO 36 (bK .gtr 35 0),oM 37 36,oT 38 37 (fA 0 6),oT 39 37 (lV 1 38),oT 40 37 (.mv (.t 0)),oT 41 37 (.mv (.t 5)),oT 42 37 (bK .sub 41 1),oT 43 37 (iX 2 40 42),oT 44 37 (fA 0 43),oT 45 37 (lV 1 44),oT 46 37 (bT .leq 39 45),oO 47 (pK 37 46 (kB false))],true,[(3,8),(4,8),(3,9),(4,9),(3,10),(4,10)]⟩
def q56_12 : LReg := rG [oO 4 (mK (kI 5))]
def q56_13 : LReg := rG [oO 48 (bK .add 13 1),oM 13 48]
def q56_14 : LReg := rG [oO 4 (mK (kI 0))]
def Try.l_solver_Needs : LCode := (.seq (.reg q56_0) (.seq (.seq (.reg q56_1) (.cond (.t 10) (.seq (.reg q56_2) .ret) .skip)) (.seq (.seq (.reg q56_3) (.block 0 (.loop (.seq (.reg q56_4) (.seq (.cond (.t 14) .skip (.exit 0)) (.seq (.block 1 (.seq (.reg q56_5) (.seq (.seq (.reg q56_6) (.cond (.t 26) (.seq (.reg q56_7) .ret) .skip)) (.seq (.seq (.reg q56_8) (.seq (.reg q56_9) (.cond (.t 32) (.seq (.reg q56_10) .ret) .skip))) (.seq (.reg q56_11) (.cond (.t 47) (.seq (.reg q56_12) .ret) .skip)))))) (.reg q56_13))))))) (.seq (.reg q56_14) .ret))))
theorem Try.c_solver_Needs : fnComp Try.prog 56 = some (49, Try.l_solver_Needs,[.t 4]) := by kernel_rfl
def q66_0 : LReg := rG [oO 4 (mK (kI 0))]
def q66_1 : LReg := rG [oM 9 0,oO 10 (lN 9),oO 11 (bK .gtr 10 4)]
def q66_2 : LReg := rG [oO 4 (mK (kI 2))]
def q66_3 : LReg := rG [oM 12 0,oO 13 (lN 12),oO 14 (mK (kI 0))]
def q66_4 : LReg := rG [oO 15 (bT .lss 14 13)]
def q66_5 : LReg := rG [oM 16 14,oO 17 (iX 5 12 14),oO 18 (lA 5 17),oO 6 (.alloc 70 5 [.int .i64 0,.int .i64 0,.int .i64 0,.nils,.nils]),oM 5 16,oX (sT 5 6 18)]
def q66_6 : LReg := rG [oO 19 (fA 0 6),oO 20 (lA 4 19),oO 21 (cA 75 [20]),oO 7 (.alloc 30 2 [.int .i64 0,.int .i64 0]),oX (sT 2 7 21)]
def q66_7 : LReg := rG [oO 22 (lA 2 7),oO 23 (.build [.int .i64 0,.int .i64 0] []),oO 24 (.eqs true [0,0] (.t 22) (.t 23))]
def q66_8 : LReg := rG [oO 25 (fA 0 7),oO 26 (lV 1 25),oM 4 26]
def q66_9 : LReg := ⟨[oM 27 5,oO 28 (bK .gtr 27 0),oM 29 28,oT 30 29 (fA 0 6),oT 31 29 (lA 4 30),oT 32 29 (.mv (.t 0)),oT 33 29 (.mv (.t 5)),oT 34 29 (bK .sub 33 1),oT 35 29 (iX 5 32 34),oT 36 29 (fA 0 35),oT 37 29 (lA 4 36),oT 38 29 (cA 76 [31,37]),oT 39 29 (bK .leq 38 0),oO 40 (pK 29 39 (kB false))],true,[(3,8),(4,8),(3,9),(4,9),(3,10),(4,10)]⟩
def q66_10 : LReg := rG [oO 4 (mK (kI 5))]
def q66_11 : LReg := rG [oO 41 (fA 4 6),oO 42 (lV 1 41),oM 43 1,oO 44 (cA 56 [42,43]),oM 8 44]
def q66_12 : LReg := rG [oM 45 8,oO 46 (bK .neq 45 0)]
def q66_13 : LReg := rG [oM 47 8,oM 4 47]
def q66_14 : LReg := rG [oO 48 (bK .add 14 1),oM 14 48]
def q66_15 : LReg := rG [oO 4 (mK (kI 0))]
def Try.l_solver_releases : LCode := (.seq (.reg q66_0) (.seq (.seq (.reg q66_1) (.cond (.t 11) (.seq (.reg q66_2) .ret) .skip)) (.seq (.seq (.reg q66_3) (.block 0 (.loop (.seq (.reg q66_4) (.seq (.cond (.t 15) .skip (.exit 0)) (.seq (.block 1 (.seq (.reg q66_5) (.seq (.seq (.reg q66_6) (.seq (.reg q66_7) (.cond (.t 24) (.seq (.reg q66_8) .ret) .skip))) (.seq (.seq (.reg q66_9) (.cond (.t 40) (.seq (.reg q66_10) .ret) .skip)) (.seq (.reg q66_11) (.seq (.reg q66_12) (.cond (.t 46) (.seq (.reg q66_13) .ret) .skip))))))) (.reg q66_14))))))) (.seq (.reg q66_15) .ret))))
theorem Try.c_solver_releases : fnComp Try.prog 66 = some (49, Try.l_solver_releases,[.t 4]) := by kernel_rfl
def q55_0 : LReg := rG [oO 1 (.box 24 1 (.t 0)),oO 2 (.alloc 30 2 [.int .i64 0,.int .i64 0])]
def q55_1 : LReg := rG [oO 6 (fA 0 1),oO 7 (lV 1 6),oO 8 (lN 7),oO 9 (bK .gtr 8 6)]
def q55_2 : LReg := rG [oO 10 (.build [.int .i64 0,.int .i64 0] [(0,1,(kI 2)),(1,1,(kI (-1)))]),oX (sT 2 2 10)]
def q55_3 : LReg := rG [oO 11 (fA 0 1),oO 12 (lV 1 11),oO 13 (lN 12),oO 14 (mK (kI 0))]
def q55_4 : LReg := rG [oO 15 (bT .lss 14 13)]
def q55_5 : LReg := rG [oM 16 14,oO 17 (iX 1 12 14),oO 18 (lV 1 17),oM 3 16,oM 4 18]
def q55_6 : LReg := rG [oM 19 4,oO 20 (fA 0 1),oO 21 (lV 1 20),oO 22 (lN 21),oO 23 (cA 66 [19,22]),oM 5 23]
def q55_7 : LReg := rG [oM 24 5,oO 25 (bK .neq 24 0)]
def q55_8 : LReg := rG [oM 26 5,oM 27 3,oO 28 (.build [.int .i64 0,.int .i64 0] [(0,1,(.t 26)),(1,1,(.t 27))]),oX (sT 2 2 28)]
def q55_9 : LReg := rG [oO 29 (bK .add 14 1),oM 14 29]
def q55_10 : LReg := rG [oO 30 (.build [.int .i64 0,.int .i64 0] []),oX (sT 2 2 30)]
def Try.l_solver_Validate : LCode := (.seq (.reg q55_0) (.seq (.seq (.reg q55_1) (.cond (.t 9) (.seq (.reg q55_2) .ret) .skip)) (.seq (.seq (.reg q55_3) (.block 0 (.loop (.seq (.reg q55_4) (.seq (.cond (.t 15) .skip (.exit 0)) (.seq (.block 1 (.seq (.reg q55_5) (.seq (.reg q55_6) (.seq (.reg q55_7) (.cond (.t 25) (.seq (.reg q55_8) .ret) .skip))))) (.reg q55_9))))))) (.seq (.reg q55_10) .ret))))
theorem Try.c_solver_Validate : fnComp Try.prog 55 = some (31, Try.l_solver_Validate,[.cell 2 2 true]) := by kernel_rfl
def q35_0 : LReg := rG [oO 2 (.box 24 1 (.t 0)),oO 4 (.alloc 30 2 [.int .i64 0,.int .i64 0])]
def q35_1 : LReg := rG [oO 7 (lA 1 2),oO 8 (cA 55 [7]),oO 5 (.alloc 30 2 [.int .i64 0,.int .i64 0]),oX (sT 2 5 8)]
def q35_2 : LReg := rG [oO 9 (lA 2 5),oO 10 (.build [.int .i64 0,.int .i64 0] []),oO 11 (.eqs true [0,0] (.t 9) (.t 10))]
def q35_3 : LReg := rG [oO 12 (lA 2 5),oX (sT 2 4 12)]
def q35_4 : LReg := rG [oM 13 1,oO 14 (fA 0 2),oO 15 (lV 1 14),oO 16 (lN 15),oO 17 (cA 56 [13,16]),oM 6 17]
def q35_5 : LReg := rG [oM 18 6,oO 19 (bK .neq 18 0)]
def q35_6 : LReg := rG [oM 20 6,oO 21 (.build [.int .i64 0,.int .i64 0] [(0,1,(.t 20)),(1,1,(kI (-2)))]),oX (sT 2 4 21)]
def q35_7 : LReg := rG [oO 22 (.build [.int .i64 0,.int .i64 0] []),oX (sT 2 4 22)]
def Try.l_solver_Arguments : LCode := (.seq (.reg q35_0) (.seq (.seq (.reg q35_1) (.seq (.reg q35_2) (.cond (.t 11) (.seq (.reg q35_3) .ret) .skip))) (.seq (.seq (.reg q35_4) (.seq (.reg q35_5) (.cond (.t 19) (.seq (.reg q35_6) .ret) .skip))) (.seq (.reg q35_7) .ret))))
theorem Try.c_solver_Arguments : fnComp Try.prog 35 = some (23, Try.l_solver_Arguments,[.cell 4 2 true]) := by kernel_rfl
def q36_0 : LReg := rG [oO 2 (.box 24 1 (.t 0)),oO 4 (mK (kI 0))]
def q36_1 : LReg := rG [oM 10 1,oO 11 (lN 10),oM 5 11]
def q36_2 : LReg := rG [oO 12 (fA 0 2),oO 13 (lV 1 12),oO 14 (lN 13),oO 15 (mK (kI 0))]
def q36_3 : LReg := rG [oO 16 (bT .lss 15 14)]
def q36_4 : LReg := rG [oO 17 (iX 1 13 15),oO 18 (lV 1 17),oM 7 18]
def q36_5 : LReg := rG [oM 19 7,oO 20 (lN 19),oO 21 (mK (kI 0))]
def q36_6 : LReg := rG [oO 22 (bT .lss 21 20)]
def q36_7 : LReg := rG [oO 23 (iX 5 19 21),oO 24 (lA 5 23),oO 9 (.alloc 70 5 [.int .i64 0,.int .i64 0,.int .i64 0,.nils,.nils]),oX (sT 5 9 24)]
def q36_8 : LReg := rG [oM 25 5,oO 26 (fA 4 9),oO 27 (lV 1 26),oO 28 (lN 27),oO 29 (bT .add 25 28),oM 5 29]
def q36_9 : LReg := rG [oO 30 (bK .add 21 1),oM 21 30]
def q36_10 : LReg := rG [oO 31 (bK .add 15 1),oM 15 31]
def q36_11 : LReg := rG [oM 32 5,oM 4 32]
def Try.l_explain_count : LCode := (.seq (.reg q36_0) (.seq (.reg q36_1) (.seq (.seq (.reg q36_2) (.block 0 (.loop (.seq (.reg q36_3) (.seq (.cond (.t 16) .skip (.exit 0)) (.seq (.block 1 (.seq (.reg q36_4) (.seq (.reg q36_5) (.block 2 (.loop (.seq (.reg q36_6) (.seq (.cond (.t 22) .skip (.exit 2)) (.seq (.block 3 (.seq (.reg q36_7) (.reg q36_8))) (.reg q36_9))))))))) (.reg q36_10))))))) (.seq (.reg q36_11) .ret))))
theorem Try.c_explain_count : fnComp Try.prog 36 = some (33, Try.l_explain_count,[.t 4]) := by kernel_rfl
def q12_0 : LReg := rG [oO 2 (.box 24 1 (.t 0)),oO 4 (mK (kI 0)),oO 5 (.alloc 30 2 [.int .i64 0,.int .i64 0])]
def q12_1 : LReg := rG [oO 7 (lA 1 2),oM 8 1,oO 9 (cA 35 [7,8]),oO 6 (.alloc 30 2 [.int .i64 0,.int .i64 0]),oX (sT 2 6 9)]
def q12_2 : LReg := rG [oO 10 (lA 2 6),oO 11 (.build [.int .i64 0,.int .i64 0] []),oO 12 (.eqs true [0,0] (.t 10) (.t 11))]
def q12_3 : LReg := ⟨[oO 13 (lA 2 6),oO 4 (mK (kI 0)),oX (sT 2 5 13)],true,[]⟩
def q12_4 : LReg := rG [oO 14 (lA 1 2),oM 15 1,oO 16 (cA 36 [14,15]),oO 17 (.build [.int .i64 0,.int .i64 0] []),oM 4 16,oX (sT 2 5 17)]
def Try.l_explain_Count : LCode := (.seq (.reg q12_0) (.seq (.seq (.reg q12_1) (.seq (.reg q12_2) (.cond (.t 12) (.seq (.reg q12_3) .ret) .skip))) (.seq (.reg q12_4) .ret)))
theorem Try.c_explain_Count : fnComp Try.prog 12 = some (18, Try.l_explain_Count,[.t 4,.cell 5 2 true]) := by kernel_rfl
def q13_0 : LReg := rG [oO 2 (.box 24 1 (.t 0)),oO 4 (mK (kI 0))]
def q13_1 : LReg := rG [oM 8 1,oO 9 (lN 8),oM 5 9]
def q13_2 : LReg := rG [oO 6 (mK (kI 0))]
def q13_3 : LReg := rG [oM 10 6,oO 11 (fA 0 2),oO 12 (lV 1 11),oO 13 (lN 12),oO 14 (bT .lss 10 13)]
def q13_4 : LReg := rG [oO 7 (mK (kI 0))]
def q13_5 : LReg := rG [oM 17 7,oO 18 (fA 0 2),oO 19 (lV 1 18),oM 20 6,oO 21 (iX 1 19 20),oO 22 (lV 1 21),oO 23 (lN 22),oO 24 (bT .lss 17 23)]
def q13_6 : LReg := rG [oM 27 5,oO 28 (fA 0 2),oO 29 (lV 1 28),oM 30 6,oO 31 (iX 1 29 30),oO 32 (lV 1 31),oM 33 7,oO 34 (iX 5 32 33),oO 35 (fA 4 34),oO 36 (lV 1 35),oO 37 (lN 36),oO 38 (bT .add 27 37),oM 5 38]
def q13_7 : LReg := rG [oM 25 7,oO 26 (bK .add 25 1),oM 7 26]
def q13_8 : LReg := rG [oM 15 6,oO 16 (bK .add 15 1),oM 6 16]
def q13_9 : LReg := rG [oM 39 5,oM 4 39]
def Try.l_ref6_ConstraintCount : LCode := (.seq (.reg q13_0) (.seq (.reg q13_1) (.seq (.seq (.reg q13_2) (.block 0 (.loop (.seq (.seq (.reg q13_3) (.cond (.t 14) .skip (.exit 0))) (.seq (.block 1 (.seq (.reg q13_4) (.block 2 (.loop (.seq (.seq (.reg q13_5) (.cond (.t 24) .skip (.exit 2))) (.seq (.block 3 (.reg q13_6)) (.reg q13_7))))))) (.reg q13_8)))))) (.seq (.reg q13_9) .ret))))
theorem Try.c_ref6_ConstraintCount : fnComp Try.prog 13 = some (40, Try.l_ref6_ConstraintCount,[.t 4]) := by kernel_rfl
def q68_0 : LReg := rG [oO 2 (mK (.c (.nils)))]
def q68_1 : LReg := rG [oM 3 0,oO 4 (.isnil false (.t 3))]
def q68_2 : LReg := rG [oO 2 (mK (.c (.nils)))]
def q68_3 : LReg := rG [oO 5 (.mkSlice 9 1 0 [.str []] []),oM 6 0,oO 7 (.append 9 1 16 (.t 5) (.t 6)),oM 2 7]
def Try.l_slices_Clone_string : LCode := (.seq (.reg q68_0) (.seq (.seq (.reg q68_1) (.cond (.t 4) (.seq (.reg q68_2) .ret) .skip)) (.seq (.reg q68_3) .ret)))
theorem Try.c_slices_Clone_string : fnComp Try.prog 68 = some (8, Try.l_slices_Clone_string,[.t 2]) := by kernel_rfl
def q59_0 : LReg := rG [oO 1 (.box 64 4 (.t 0)),oO 2 (.alloc 64 4 [.int .i64 0,.int .i64 0,.int .i64 0,.nils])]
def q59_1 : LReg := rG [oO 3 (fA 3 1),oO 4 (lV 1 3),oO 5 (cA 68 [4]),oO 6 (fA 3 1),oX (sT 1 6 5)]
def q59_2 : LReg := rG [oO 7 (lA 4 1),oX (sT 4 2 7)]
def Try.l_version_Copy : LCode := (.seq (.reg q59_0) (.seq (.reg q59_1) (.seq (.reg q59_2) .ret)))
theorem Try.c_version_Copy : fnComp Try.prog 59 = some (8, Try.l_version_Copy,[.cell 2 4 true]) := by kernel_rfl
def q58_0 : LReg := rG [oO 1 (.box 58 1 (.t 0)),oO 2 (.alloc 58 1 [.nils])]
def q58_1 : LReg := rG [oO 3 (.alloc 58 1 [.nils])]
def q58_2 : LReg := rG [oO 6 (fA 0 1),oO 7 (lV 1 6),oO 8 (lN 7),oO 9 (mK (kI 0))]
def q58_3 : LReg := rG [oO 10 (bT .lss 9 8)]
def q58_4 : LReg := rG [oO 11 (iX 9 7 9),oO 12 (lA 9 11),oO 5 (.alloc 88 9 [.int .i64 0,.int .i64 0,.int .i64 0,.nils,.int .i64 0,.int .i64 0,.int .i64 0,.nils,.bool false]),oX (sT 9 5 12)]
def q58_5 : LReg := ⟨[oO 13 (fA 0 3),oO 14 (lV 1 13),oO 15 (fA 0 5),oO 16 (lA 4 15),oO 17 (cA 59 [16]),oO 18 (fA 4 5),oO 19 (lA 4 18),oO 20 (cA 59 [19]),oO 21 (fA 8 5),oO 22 (lV 1 21),oO 23 (.build [.int .i64 0,.int .i64 0,.int .i64 0,.nils,.int .i64 0,.int .i64 0,.int .i64 0,.nils,.bool false] [(0,4,(.t 17)),(4,4,(.t 20)),(8,1,(.t 22))]),oO 24 (.mkSlice 88 9 1 [.int .i64 0,.int .i64 0,.int .i64 0,.nils,.int .i64 0,.int .i64 0,.int .i64 0,.nils,.bool false] [(0,(.t 23))]),oO 25 (.append 88 9 104 (.t 14) (.t 24)),oO 26 (fA 0 3),oX (sT 1 26 25)],true,[(0,2),(1,2),(0,3),(1,3),(0,4),(1,4),(0,5),(1,5),(2,5),(3,5),(4,5),(0,6),(1,6),(2,6),(3,6),(4,6),(0,7),(1,7),(0,8),(1,8),(2,8),(3,8),(4,8),(5,8),(6,8),(7,8),(0,9),(1,9),(2,9),(3,9),(4,9),(5,9),(6,9),(7,9),(0,11),(1,11)]⟩
def q58_6 : LReg := rG [oO 27 (bK .add 9 1),oM 9 27]
def q58_7 : LReg := rG [oO 28 (lA 1 3),oX (sT 1 2 28)]
def Try.l_verrange_Copy : LCode := (.seq (.reg q58_0) (.seq (.reg q58_1) (.seq (.seq (.reg q58_2) (.block 0 (.loop (.seq (.reg q58_3) (.seq (.cond (.t 10) .skip (.exit 0)) (.seq (.block 1 (.seq (.reg q58_4) (.reg q58_5))) (.reg q58_6))))))) (.seq (.reg q58_7) .ret))))
theorem Try.c_verrange_Copy : fnComp Try.prog 58 = some (29, Try.l_verrange_Copy,[.cell 2 1 true]) := by kernel_rfl
theorem Try.b_explain_filter_1 : bodied Try.prog 57 = true := by kernel_rfl
def q57_0 : LReg := rG [oO 4 (mK (.c (.nils)))]
def q57_1 : LReg := rG [oO 5 (mK (.c (.nils)))]
def q57_2 : LReg := rG [oM 8 0,oO 9 (lN 8),oO 10 (mK (kI 0))]
def q57_3 : LReg := rG [oO 11 (bT .lss 10 9)]
def q57_4 : LReg := rG [oO 12 (iX 2 8 10),oO 13 (lA 2 12),oO 7 (.alloc 60 2 [.int .i64 0,.nils]),oX (sT 2 7 13)]
def q57_5 : LReg := rG [oO 14 (lV 1 1),oO 15 (lV 1 2),oO 16 (.callv (.t 14) [(.t 15)])]
def q57_6 : LReg := ⟨[oM 17 5,oO 18 (fA 0 7),oO 19 (lV 1 18),oO 20 (fA 1 7),oO 21 (lA 1 20),oO 22 (cA 58 [21]),oO 23 (.build [.int .i64 0,.nils] [(0,1,(.t 19)),(1,1,(.t 22))]),oO 24 (.mkSlice 60 2 1 [.int .i64 0,.nils] [(0,(.t 23))]),oO 25 (.append 60 2 32 (.t 17) (.t 24)),oM 5 25],true,[(1,3),(2,3),(1,4),(2,4),(1,5),(2,5)]⟩
def q57_7 : LReg := rG [oO 26 (lV 1 2),oO 27 (bK .add 26 1),oX (sT 1 2 27)]
def q57_8 : LReg := rG [oO 28 (bK .add 10 1),oM 10 28]
def q57_9 : LReg := rG [oM 29 5,oM 4 29]
def Try.l_explain_filter_1 : LCode := (.seq (.reg q57_0) (.seq (.reg q57_1) (.seq (.seq (.reg q57_2) (.block 0 (.loop (.seq (.reg q57_3) (.seq (.cond (.t 11) .skip (.exit 0)) (.seq (.block 1 (.seq (.reg q57_4) (.seq (.seq (.reg q57_5) (.cond (.t 16) (.reg q57_6) .skip)) (.reg q57_7)))) (.reg q57_8))))))) (.seq (.reg q57_9) .ret))))
theorem Try.c_explain_filter_1 : fnComp Try.prog 57 = some (30, Try.l_explain_filter_1,[.t 4]) := by kernel_rfl
def q39_0 : LReg := rG [oO 3 (.box 24 1 (.t 0)),oO 5 (.box 75 1 (.t 2)),oO 6 (.alloc 24 1 [.nils]),oO 7 (mK (.c (.nils)))]
def q39_1 : LReg := rG [oO 8 (.alloc 3 1 [.int .i64 0]),oX (.store 1 (.t 8) (kI 0))]
def q39_2 : LReg := rG [oO 17 (.mkfn 57 [] [(.t 5),(.t 8)]),oM 9 17]
def q39_3 : LReg := rG [oM 18 9,oM 19 1,oO 20 (.callv (.t 18) [(.t 19)]),oM 10 20]
def q39_4 : LReg := rG [oO 11 (.alloc 24 1 [.nils])]
def q39_5 : LReg := rG [oO 21 (fA 0 3),oO 22 (lV 1 21),oO 23 (lN 22),oO 24 (mK (kI 0))]
def q39_6 : LReg := rG [oO 25 (bT .lss 24 23)]
def q39_7 : LReg := rG [oO 26 (iX 1 22 24),oO 27 (lV 1 26),oM 13 27]
def q39_8 : LReg := rG [oO 14 (mK (.c (.nils)))]
def q39_9 : LReg := rG [oM 28 13,oO 29 (lN 28),oO 30 (mK (kI 0))]
def q39_10 : LReg := rG [oO 31 (bT .lss 30 29)]
def q39_11 : LReg := rG [oO 32 (iX 5 28 30),oO 33 (lA 5 32),oO 16 (.alloc 70 5 [.int .i64 0,.int .i64 0,.int .i64 0,.nils,.nils]),oX (sT 5 16 33)]
def q39_12 : LReg := ⟨[oM 34 14,oO 35 (fA 0 16),oO 36 (lA 4 35),oO 37 (cA 59 [36]),oM 38 9,oO 39 (fA 4 16),oO 40 (lV 1 39),oO 41 (.callv (.t 38) [(.t 40)]),oO 42 (.build [.int .i64 0,.int .i64 0,.int .i64 0,.nils,.nils] [(0,4,(.t 37)),(4,1,(.t 41))]),oO 43 (.mkSlice 70 5 1 [.int .i64 0,.int .i64 0,.int .i64 0,.nils,.nils] [(0,(.t 42))]),oO 44 (.append 70 5 72 (.t 34) (.t 43)),oM 14 44],true,[(1,5),(2,5),(3,5),(1,6),(2,6),(3,6)]⟩
def q39_13 : LReg := rG [oO 45 (bK .add 30 1),oM 30 45]
def q39_14 : LReg := rG [oO 46 (fA 0 11),oO 47 (lV 1 46),oM 48 14,oO 49 (.mkSlice 68 1 1 [.nils] [(0,(.t 48))]),oO 50 (.append 68 1 24 (.t 47) (.t 49)),oO 51 (fA 0 11),oX (sT 1 51 50)]
def q39_15 : LReg := rG [oO 52 (bK .add 24 1),oM 24 52]
def q39_16 : LReg := rG [oO 53 (lA 1 11),oM 54 10,oX (sT 1 6 53),oM 7 54]
def Try.l_explain_filter : LCode := (.seq (.reg q39_0) (.seq (.reg q39_1) (.seq (.reg q39_2) (.seq (.reg q39_3) (.seq (.reg q39_4) (.seq (.seq (.reg q39_5) (.block 0 (.loop (.seq (.reg q39_6) (.seq (.cond (.t 25) .skip (.exit 0)) (.seq (.block 1 (.seq (.reg q39_7) (.seq (.reg q39_8) (.seq (.seq (.reg q39_9) (.block 2 (.loop (.seq (.reg q39_10) (.seq (.cond (.t 31) .skip (.exit 2)) (.seq (.block 3 (.seq (.reg q39_11) (.reg q39_12))) (.reg q39_13))))))) (.reg q39_14))))) (.reg q39_15))))))) (.seq (.reg q39_16) .ret)))))))
theorem Try.c_explain_filter : fnComp Try.prog 39 = some (55, Try.l_explain_filter,[.cell 6 1 true,.t 7]) := by kernel_rfl
def q60_0 : LReg := rG [oO 4 (mK (kI 0))]
def q60_1 : LReg := rG [oM 6 0,oO 7 (lN 6),oO 8 (mK (kI 0))]
def q60_2 : LReg := rG [oO 9 (bT .lss 8 7)]
def q60_3 : LReg := rG [oM 10 8,oM 5 10]
def q60_4 : LReg := rG [oM 11 1,oM 12 0,oM 13 5,oO 14 (iX 1 12 13),oO 15 (lV 1 14),oO 16 (bT .eql 11 15)]
def q60_5 : LReg := rG [oM 17 5,oM 4 17]
def q60_6 : LReg := rG [oO 18 (bK .add 8 1),oM 8 18]
def q60_7 : LReg := rG [oO 4 (mK (kI (-1)))]
def Try.l_slices_Index_int : LCode := (.seq (.reg q60_0) (.seq (.seq (.reg q60_1) (.block 0 (.loop (.seq (.reg q60_2) (.seq (.cond (.t 9) .skip (.exit 0)) (.seq (.block 1 (.seq (.reg q60_3) (.seq (.reg q60_4) (.cond (.t 16) (.seq (.reg q60_5) .ret) .skip)))) (.reg q60_6))))))) (.seq (.reg q60_7) .ret)))
theorem Try.c_slices_Index_int : fnComp Try.prog 60 = some (19, Try.l_slices_Index_int,[.t 4]) := by kernel_rfl
def q41_0 : LReg := rG [oO 4 (mK (kB false))]
def q41_1 : LReg := rG [oM 5 0,oM 6 1,oO 7 (cA 60 [5,6]),oO 8 (bK .geq 7 0),oM 4 8]
def Try.l_slices_Contains_int : LCode := (.seq (.reg q41_0) (.seq (.reg q41_1) .ret))
theorem Try.c_slices_Contains_int : fnComp Try.prog 41 = some (9, Try.l_slices_Contains_int,[.t 4]) := by kernel_rfl
theorem Try.b_explain_Keep_1 : bodied Try.prog 40 = true := by kernel_rfl
def q40_0 : LReg := rG [oO 3 (mK (kB false))]
def q40_1 : LReg := rG [oO 4 (lV 1 1),oM 5 0,oO 6 (cA 41 [4,5]),oM 3 6]
def Try.l_explain_Keep_1 : LCode := (.seq (.reg q40_0) (.seq (.reg q40_1) .ret))
theorem Try.c_explain_Keep_1 : fnComp Try.prog 40 = some (7, Try.l_explain_Keep_1,[.t 3]) := by kernel_rfl
def q15_0 : LReg := rG [oO 3 (.box 24 1 (.t 0)),oO 5 (.box 26 1 (.t 2)),oO 6 (.alloc 24 1 [.nils]),oO 7 (mK (.c (.nils))),oO 8 (.alloc 30 2 [.int .i64 0,.int .i64 0])]
def q15_1 : LReg := rG [oO 15 (lA 1 3),oM 16 1,oO 17 (cA 35 [15,16]),oO 9 (.alloc 30 2 [.int .i64 0,.int .i64 0]),oX (sT 2 9 17)]
def q15_2 : LReg := rG [oO 18 (lA 2 9),oO 19 (.build [.int .i64 0,.int .i64 0] []),oO 20 (.eqs true [0,0] (.t 18) (.t 19))]
def q15_3 : LReg := ⟨[oO 21 (.build [.nils] []),oO 22 (lA 2 9),oX (sT 1 6 21),oO 7 (mK (.c (.nils))),oX (sT 2 8 22)],true,[(1,2)]⟩
def q15_4 : LReg := rG [oO 23 (lA 1 3),oM 24 1,oO 25 (cA 36 [23,24]),oM 10 25]
def q15_5 : LReg := rG [oO 26 (lV 1 5),oO 27 (lN 26),oO 28 (mK (kI 0))]
def q15_6 : LReg := rG [oO 29 (bT .lss 28 27)]
def q15_7 : LReg := rG [oM 30 28,oO 31 (iX 1 26 28),oO 32 (lV 1 31),oM 11 30,oM 12 32]
def q15_8 : LReg := rG [oM 33 12,oO 34 (bK .lss 33 0),oM 35 34,oF 36 35 (.mv (.t 12)),oF 37 35 (.mv (.t 10)),oF 38 35 (bT .geq 36 37),oO 39 (pL 35 (kB true) 38)]
def q15_9 : LReg := rG [oO 40 (.build [.nils] []),oO 41 (.build [.int .i64 0,.int .i64 0] [(0,1,(kI 3)),(1,1,(kI (-3)))]),oX (sT 1 6 40),oO 7 (mK (.c (.nils))),oX (sT 2 8 41)]
def q15_10 : LReg := rG [oM 42 11,oO 43 (bK .gtr 42 0),oM 44 43,oT 45 44 (.mv (.t 12)),oT 46 44 (lV 1 5),oT 47 44 (.mv (.t 11)),oT 48 44 (bK .sub 47 1),oT 49 44 (iX 1 46 48),oT 50 44 (lV 1 49),oT 51 44 (bT .leq 45 50),oO 52 (pK 44 51 (kB false))]
def q15_11 : LReg := rG [oO 53 (.build [.nils] []),oO 54 (.build [.int .i64 0,.int .i64 0] [(0,1,(kI 5)),(1,1,(kI (-3)))]),oX (sT 1 6 53),oO 7 (mK (.c (.nils))),oX (sT 2 8 54)]
def q15_12 : LReg := rG [oO 55 (bK .add 28 1),oM 28 55]
def q15_13 : LReg := rG [oO 57 (lA 1 3),oM 58 1,oO 59 (.mkfn 40 [] [(.t 5)]),oO 60 (cA 39 [57,58,59]),oM 56 60,oO 61 (eX 0 56),oO 62 (eX 1 56),oO 13 (.alloc 24 1 [.nils]),oX (sT 1 13 61),oM 14 62]
def q15_14 : LReg := rG [oO 63 (lA 1 13),oM 64 14,oO 65 (.build [.int .i64 0,.int .i64 0] []),oX (sT 1 6 63),oM 7 64,oX (sT 2 8 65)]
def Try.l_explain_Keep : LCode := (.seq (.reg q15_0) (.seq (.seq (.reg q15_1) (.seq (.reg q15_2) (.cond (.t 20) (.seq (.reg q15_3) .ret) .skip))) (.seq (.reg q15_4) (.seq (.seq (.reg q15_5) (.block 0 (.loop (.seq (.reg q15_6) (.seq (.cond (.t 29) .skip (.exit 0)) (.seq (.block 1 (.seq (.reg q15_7) (.seq (.seq (.reg q15_8) (.cond (.t 39) (.seq (.reg q15_9) .ret) .skip)) (.seq (.reg q15_10) (.cond (.t 52) (.seq (.reg q15_11) .ret) .skip))))) (.reg q15_12))))))) (.seq (.reg q15_13) (.seq (.reg q15_14) .ret))))))
theorem Try.c_explain_Keep : fnComp Try.prog 15 = some (66, Try.l_explain_Keep,[.cell 6 1 true,.t 7,.cell 8 2 true]) := by kernel_rfl
def q90_0 : LReg := rG [oO 4 (mK (kI 0))]
def q90_1 : LReg := rG [oM 6 0,oO 7 (lN 6),oO 8 (mK (kI 0))]
def q90_2 : LReg := rG [oO 9 (bT .lss 8 7)]
def q90_3 : LReg := rG [oM 10 8,oM 5 10]
def q90_4 : LReg := rG [oM 11 1,oM 12 0,oM 13 5,oO 14 (iX 9 12 13),oO 15 (lA 9 14),oO 16 (.callv (.t 11) [(.t 15)])]
def q90_5 : LReg := rG [oM 17 5,oM 4 17]
def q90_6 : LReg := rG [oO 18 (bK .add 8 1),oM 8 18]
def q90_7 : LReg := rG [oO 4 (mK (kI (-1)))]
def Try.l_slices_IndexFunc_api_VersionInterval_api_VersionInterval : LCode := (.seq (.reg q90_0) (.seq (.seq (.reg q90_1) (.block 0 (.loop (.seq (.reg q90_2) (.seq (.cond (.t 9) .skip (.exit 0)) (.seq (.block 1 (.seq (.reg q90_3) (.seq (.reg q90_4) (.cond (.t 16) (.seq (.reg q90_5) .ret) .skip)))) (.reg q90_6))))))) (.seq (.reg q90_7) .ret)))
theorem Try.c_slices_IndexFunc_api_VersionInterval_api_VersionInterval : fnComp Try.prog 90 = some (19, Try.l_slices_IndexFunc_api_VersionInterval_api_VersionInterval,[.t 4]) := by kernel_rfl
def q79_0 : LReg := rG [oO 4 (mK (kB false))]
def q79_1 : LReg := rG [oM 5 0,oM 6 1,oO 7 (cA 90 [5,6]),oO 8 (bK .geq 7 0),oM 4 8]
def Try.l_slices_ContainsFunc_api_VersionInterval_api_VersionInterval : LCode := (.seq (.reg q79_0) (.seq (.reg q79_1) .ret))
theorem Try.c_slices_ContainsFunc_api_VersionInterval_api_VersionInterval : fnComp Try.prog 79 = some (9, Try.l_slices_ContainsFunc_api_VersionInterval_api_VersionInterval,[.t 4]) := by kernel_rfl
theorem Try.b_verrange_Has_1 : bodied Try.prog 80 = true := by kernel_rfl
def q80_0 : LReg := rG [oO 2 (.box 88 9 (.t 0)),oO 3 (mK (kB false))]
def q80_1 : LReg := rG [oO 4 (fA 0 2),oO 5 (lA 4 4),oO 6 (lA 4 1),oO 7 (cA 76 [5,6]),oO 8 (bK .leq 7 0),oM 9 8,oT 10 9 (fA 8 2),oT 11 9 (lV 1 10),oT 12 9 (.mv (.t 11)),oF 13 12 (lA 4 1),oF 14 12 (fA 4 2),oF 15 12 (lA 4 14),oF 16 12 (cA 76 [13,15]),oF 17 12 (bK .lss 16 0),oT 18 9 (pL 12 (kB true) 17),oO 19 (pK 9 18 (kB false)),oM 3 19]
def Try.l_verrange_Has_1 : LCode := (.seq (.reg q80_0) (.seq (.reg q80_1) .ret))
theorem Try.c_verrange_Has_1 : fnComp Try.prog 80 = some (20, Try.l_verrange_Has_1,[.t 3]) := by kernel_rfl
def q71_0 : LReg := rG [oO 2 (.box 58 1 (.t 0)),oO 3 (.box 64 4 (.t 1)),oO 4 (mK (kB false))]
def q71_1 : LReg := rG [oO 5 (fA 0 2),oO 6 (lV 1 5),oO 7 (.mkfn 80 [] [(.t 3)]),oO 8 (cA 79 [6,7]),oM 4 8]
def Try.l_verrange_Has : LCode := (.seq (.reg q71_0) (.seq (.reg q71_1) .ret))
theorem Try.c_verrange_Has : fnComp Try.prog 71 = some (9, Try.l_verrange_Has,[.t 4]) := by kernel_rfl
def q63_0 : LReg := rG [oO 2 (.box 24 1 (.t 0)),oO 4 (mK (.c (.nils)))]
def q63_1 : LReg := rG [oO 5 (mK (.c (.nils)))]
def q63_2 : LReg := rG [oM 11 1,oO 12 (lN 11),oO 13 (mK (kI 0))]
def q63_3 : LReg := rG [oO 14 (bT .lss 13 12)]
def q63_4 : LReg := rG [oO 15 (iX 2 11 13),oO 16 (lA 2 15),oO 7 (.alloc 60 2 [.int .i64 0,.nils]),oX (sT 2 7 16)]
def q63_5 : LReg := rG [oO 17 (fA 0 7),oO 18 (lV 1 17),oO 19 (.build [.int .i64 0,.bool false,.bool false,.bool false,.bool false] [(0,1,(.t 18))]),oO 8 (.alloc 101 5 [.int .i64 0,.bool false,.bool false,.bool false,.bool false]),oX (sT 5 8 19)]
def q63_6 : LReg := rG [oO 20 (fA 0 2),oO 21 (lV 1 20),oO 22 (fA 0 7),oO 23 (lV 1 22),oO 24 (iX 1 21 23),oO 25 (lV 1 24),oO 26 (lN 25),oO 27 (mK (kI 0))]
def q63_7 : LReg := rG [oO 28 (bT .lss 27 26)]
def q63_8 : LReg := rG [oM 29 27,oO 30 (iX 5 25 27),oO 31 (lA 5 30),oO 10 (.alloc 70 5 [.int .i64 0,.int .i64 0,.int .i64 0,.nils,.nils]),oM 9 29,oX (sT 5 10 31)]
def q63_9 : LReg := rG [oM 32 9,oO 33 (fA 1 7),oO 34 (lA 1 33),oO 35 (fA 0 10),oO 36 (lA 4 35),oO 37 (cA 71 [34,36]),oO 38 (fA 1 8),oO 39 (.idxA 4 1 (.t 38) (.t 32)),oX (sT 1 39 37)]
def q63_10 : LReg := rG [oO 40 (bK .add 27 1),oM 27 40]
def q63_11 : LReg := rG [oM 41 5,oO 42 (lA 5 8),oO 43 (.mkSlice 101 5 1 [.int .i64 0,.bool false,.bool false,.bool false,.bool false] [(0,(.t 42))]),oO 44 (.append 101 5 16 (.t 41) (.t 43)),oM 5 44]
def q63_12 : LReg := rG [oO 45 (bK .add 13 1),oM 13 45]
def q63_13 : LReg := rG [oM 46 5,oM 4 46]
def Try.l_solver_demands : LCode := (.seq (.reg q63_0) (.seq (.reg q63_1) (.seq (.seq (.reg q63_2) (.block 0 (.loop (.seq (.reg q63_3) (.seq (.cond (.t 14) .skip (.exit 0)) (.seq (.block 1 (.seq (.reg q63_4) (.seq (.reg q63_5) (.seq (.seq (.reg q63_6) (.block 2 (.loop (.seq (.reg q63_7) (.seq (.cond (.t 28) .skip (.exit 2)) (.seq (.block 3 (.seq (.reg q63_8) (.reg q63_9))) (.reg q63_10))))))) (.reg q63_11))))) (.reg q63_12))))))) (.seq (.reg q63_13) .ret))))
theorem Try.c_solver_demands : fnComp Try.prog 63 = some (47, Try.l_solver_demands,[.t 4]) := by kernel_rfl
def q49_0 : LReg := rG [oO 2 (.box 24 1 (.t 0)),oO 4 (.alloc 84 2 [.nils,.nils])]
def q49_1 : LReg := rG [oO 11 (lA 1 2),oM 12 1,oO 13 (cA 63 [11,12]),oO 14 (.build [.nils,.nils] [(0,1,(.t 13))]),oO 5 (.alloc 84 2 [.nils,.nils]),oX (sT 2 5 14)]
def q49_2 : LReg := rG [oO 15 (fA 0 2),oO 16 (lV 1 15),oO 17 (lN 16),oO 18 (mK (kI 0))]
def q49_3 : LReg := rG [oO 19 (bT .lss 18 17)]
def q49_4 : LReg := rG [oO 20 (iX 1 16 18),oO 21 (lV 1 20),oM 7 21]
def q49_5 : LReg := rG [oO 8 (mK (.c (.nils)))]
def q49_6 : LReg := rG [oM 22 7,oO 23 (lN 22),oO 24 (mK (kI 0))]
def q49_7 : LReg := rG [oO 25 (bT .lss 24 23)]
def q49_8 : LReg := rG [oO 26 (iX 5 22 24),oO 27 (lA 5 26),oO 10 (.alloc 70 5 [.int .i64 0,.int .i64 0,.int .i64 0,.nils,.nils]),oX (sT 5 10 27)]
def q49_9 : LReg := rG [oM 28 8,oO 29 (lA 1 2),oO 30 (fA 4 10),oO 31 (lV 1 30),oO 32 (cA 63 [29,31]),oO 33 (.mkSlice 81 1 1 [.nils] [(0,(.t 32))]),oO 34 (.append 81 1 24 (.t 28) (.t 33)),oM 8 34]
def q49_10 : LReg := rG [oO 35 (bK .add 24 1),oM 24 35]
def q49_11 : LReg := rG [oO 36 (fA 1 5),oO 37 (lV 1 36),oM 38 8,oO 39 (.mkSlice 97 1 1 [.nils] [(0,(.t 38))]),oO 40 (.append 97 1 24 (.t 37) (.t 39)),oO 41 (fA 1 5),oX (sT 1 41 40)]
def q49_12 : LReg := rG [oO 42 (bK .add 18 1),oM 18 42]
def q49_13 : LReg := rG [oO 43 (lA 2 5),oX (sT 2 4 43)]
def Try.l_solver_open : LCode := (.seq (.reg q49_0) (.seq (.reg q49_1) (.seq (.seq (.reg q49_2) (.block 0 (.loop (.seq (.reg q49_3) (.seq (.cond (.t 19) .skip (.exit 0)) (.seq (.block 1 (.seq (.reg q49_4) (.seq (.reg q49_5) (.seq (.seq (.reg q49_6) (.block 2 (.loop (.seq (.reg q49_7) (.seq (.cond (.t 25) .skip (.exit 2)) (.seq (.block 3 (.seq (.reg q49_8) (.reg q49_9))) (.reg q49_10))))))) (.reg q49_11))))) (.reg q49_12))))))) (.seq (.reg q49_13) .ret))))
theorem Try.c_solver_open : fnComp Try.prog 49 = some (44, Try.l_solver_open,[.cell 4 2 true]) := by kernel_rfl
def q51_0 : LReg := rG [oO 2 (.box 84 2 (.t 0)),oO 4 (mK (kB false))]
def q51_1 : LReg := rG [oO 5 (.alloc 98 6 [.bool false,.bool false,.bool false,.bool false,.bool false,.bool false])]
def q51_2 : LReg := rG [oO 13 (fA 0 2),oO 14 (lV 1 13),oO 15 (.mkSlice 81 1 1 [.nils] [(0,(.t 14))]),oM 6 15]
def q51_3 : LReg := rG [oM 16 6,oO 17 (lN 16),oO 18 (bK .gtr 17 0)]
def q51_4 : LReg := rG [oM 19 6,oM 20 6,oO 21 (lN 20),oO 22 (bK .sub 21 1),oO 23 (iX 1 19 22),oO 24 (lV 1 23),oM 7 24]
def q51_5 : LReg := rG [oM 25 6,oM 26 6,oO 27 (lN 26),oO 28 (bK .sub 27 1),oO 29 (.slice 1 (.t 25) none (some (.t 28))),oM 6 29]
def q51_6 : LReg := rG [oM 30 7,oO 31 (lN 30),oO 32 (mK (kI 0))]
def q51_7 : LReg := rG [oO 33 (bT .lss 32 31)]
def q51_8 : LReg := rG [oO 34 (iX 5 30 32),oO 35 (lA 5 34),oO 9 (.alloc 101 5 [.int .i64 0,.bool false,.bool false,.bool false,.bool false]),oX (sT 5 9 35)]
def q51_9 : LReg := rG [oM 36 1,oO 37 (fA 0 9),oO 38 (lV 1 37),oO 39 (iX 1 36 38),oO 40 (lV 1 39),oM 10 40]
def q51_10 : LReg := rG [oM 41 10,oO 42 (bK .lss 41 0),oM 43 42,oF 44 43 (.mv (.t 10)),oF 45 43 (fA 1 9),oF 46 43 (.idxA 4 1 (.t 45) (.t 44)),oF 47 43 (lV 1 46),oF 48 43 (.un .not (.t 47)),oO 49 (pL 43 (kB true) 48)]
def q51_11 : LReg := rG [oO 4 (mK (kB false))]
def q51_12 : LReg := rG [oO 50 (fA 0 9),oO 51 (lV 1 50),oO 52 (.idxA 6 1 (.t 5) (.t 51)),oO 53 (lV 1 52),oO 54 (.un .not (.t 53))]
def q51_13 : LReg := rG [oO 55 (fA 0 9),oO 56 (lV 1 55),oO 57 (.idxA 6 1 (.t 5) (.t 56)),oX (.store 1 (.t 57) (kB true))]
def q51_14 : LReg := rG [oM 58 6,oO 59 (fA 1 2),oO 60 (lV 1 59),oO 61 (fA 0 9),oO 62 (lV 1 61),oO 63 (iX 1 60 62),oO 64 (lV 1 63),oM 65 10,oO 66 (iX 1 64 65),oO 67 (lV 1 66),oO 68 (.mkSlice 81 1 1 [.nils] [(0,(.t 67))]),oO 69 (.append 81 1 24 (.t 58) (.t 68)),oM 6 69]
def q51_15 : LReg := rG [oO 70 (bK .add 32 1),oM 32 70]
def q51_16 : LReg := rG [oM 71 1,oO 72 (lN 71),oO 73 (mK (kI 0))]
def q51_17 : LReg := rG [oO 74 (bT .lss 73 72)]
def q51_18 : LReg := rG [oM 75 73,oO 76 (iX 1 71 73),oO 77 (lV 1 76),oM 11 75,oM 12 77]
def q51_19 : LReg := rG [oM 78 12,oO 79 (bK .geq 78 0),oM 80 79,oT 81 80 (.mv (.t 11)),oT 82 80 (.idxA 6 1 (.t 5) (.t 81)),oT 83 80 (lV 1 82),oT 84 80 (.un .not (.t 83)),oO 85 (pK 80 84 (kB false))]
def q51_20 : LReg := rG [oO 4 (mK (kB false))]
def q51_21 : LReg := rG [oO 86 (bK .add 73 1),oM 73 86]
def q51_22 : LReg := rG [oO 4 (mK (kB true))]
def Try.l_solver_problem_solved : LCode := (.seq (.reg q51_0) (.seq (.reg q51_1) (.seq (.reg q51_2) (.seq (.block 0 (.loop (.seq (.seq (.reg q51_3) (.cond (.t 18) .skip (.exit 0))) (.block 1 (.seq (.reg q51_4) (.seq (.reg q51_5) (.seq (.reg q51_6) (.block 2 (.loop (.seq (.reg q51_7) (.seq (.cond (.t 33) .skip (.exit 2)) (.seq (.block 3 (.seq (.reg q51_8) (.seq (.reg q51_9) (.seq (.seq (.reg q51_10) (.cond (.t 49) (.seq (.reg q51_11) .ret) .skip)) (.seq (.reg q51_12) (.cond (.t 54) (.seq (.reg q51_13) (.reg q51_14)) .skip)))))) (.reg q51_15))))))))))))) (.seq (.seq (.reg q51_16) (.block 4 (.loop (.seq (.reg q51_17) (.seq (.cond (.t 74) .skip (.exit 4)) (.seq (.block 5 (.seq (.reg q51_18) (.seq (.reg q51_19) (.cond (.t 85) (.seq (.reg q51_20) .ret) .skip)))) (.reg q51_21))))))) (.seq (.reg q51_22) .ret))))))
theorem Try.c_solver_problem_solved : fnComp Try.prog 51 = some (87, Try.l_solver_problem_solved,[.t 4]) := by kernel_rfl
theorem Try.b_solver_Solve_1 : bodied Try.prog 50 = true := by kernel_rfl
def q50_0 : LReg := rG [oO 6 (mK (kB false))]
def q50_1 : LReg := rG [oM 8 0,oO 9 (lV 1 1),oO 10 (lN 9),oO 11 (bT .eql 8 10)]
def q50_2 : LReg := rG [oO 12 (lA 2 2),oO 13 (lV 1 1),oO 14 (cA 51 [12,13]),oM 6 14]
def q50_3 : LReg := rG [oO 15 (fA 0 3),oO 16 (lV 1 15),oM 17 0,oO 18 (iX 1 16 17),oO 19 (lV 1 18),oO 20 (lN 19),oO 21 (bK .sub 20 1),oM 7 21]
def q50_4 : LReg := rG [oM 22 7,oO 23 (bK .geq 22 (-1))]
def q50_5 : LReg := rG [oO 26 (lV 1 1),oM 27 0,oM 28 7,oO 29 (iX 1 26 27),oX (sT 1 29 28)]
def q50_6 : LReg := rG [oO 30 (lV 1 4),oM 31 0,oO 32 (bK .add 31 1),oO 33 (.callv (.t 30) [(.t 32)])]
def q50_7 : LReg := rG [oO 6 (mK (kB true))]
def q50_8 : LReg := rG [oM 24 7,oO 25 (bK .sub 24 1),oM 7 25]
def q50_9 : LReg := rG [oO 6 (mK (kB false))]
def Try.l_solver_Solve_1 : LCode := (.seq (.reg q50_0) (.seq (.seq (.reg q50_1) (.cond (.t 11) (.seq (.reg q50_2) .ret) .skip)) (.seq (.seq (.reg q50_3) (.block 0 (.loop (.seq (.seq (.reg q50_4) (.cond (.t 23) .skip (.exit 0))) (.seq (.block 1 (.seq (.reg q50_5) (.seq (.reg q50_6) (.cond (.t 33) (.seq (.reg q50_7) .ret) .skip)))) (.reg q50_8)))))) (.seq (.reg q50_9) .ret))))
theorem Try.c_solver_Solve_1 : fnComp Try.prog 50 = some (34, Try.l_solver_Solve_1,[.t 6]) := by kernel_rfl
def q26_0 : LReg := rG [oO 2 (.box 24 1 (.t 0)),oO 4 (mK (.c (.nils))),oO 5 (mK (kB false)),oO 6 (.alloc 30 2 [.int .i64 0,.int .i64 0])]
def q26_1 : LReg := rG [oO 11 (lA 1 2),oM 12 1,oO 13 (cA 35 [11,12]),oO 7 (.alloc 30 2 [.int .i64 0,.int .i64 0]),oX (sT 2 7 13)]
def q26_2 : LReg := rG [oO 14 (lA 2 7),oO 15 (.build [.int .i64 0,.int .i64 0] []),oO 16 (.eqs true [0,0] (.t 14) (.t 15))]
def q26_3 : LReg := ⟨[oO 17 (lA 2 7),oO 4 (mK (.c (.nils))),oO 5 (mK (kB false)),oX (sT 2 6 17)],true,[]⟩
def q26_4 : LReg := rG [oO 18 (lA 1 2),oM 19 1,oO 20 (cA 49 [18,19]),oO 8 (.alloc 84 2 [.nils,.nils]),oX (sT 2 8 20)]
def q26_5 : LReg := rG [oO 21 (fA 0 2),oO 22 (lV 1 21),oO 23 (lN 22),oO 24 (.make 3 1 8 [.int .i64 0] (.t 23)),oO 9 (.alloc 26 1 [.nils]),oX (sT 1 9 24)]
def q26_6 : LReg := rG [oO 10 (.alloc 75 1 [.fnil])]
def q26_7 : LReg := rG [oO 25 (.mkfn 50 [] [(.t 9),(.t 8),(.t 2),(.t 10)]),oX (sT 1 10 25)]
def q26_8 : LReg := rG [oO 26 (lV 1 10),oO 27 (.callv (.t 26) [(kI 0)]),oO 28 (.un .not (.t 27))]
def q26_9 : LReg := rG [oO 29 (.build [.int .i64 0,.int .i64 0] []),oO 4 (mK (.c (.nils))),oO 5 (mK (kB false)),oX (sT 2 6 29)]
def q26_10 : LReg := rG [oO 30 (lV 1 9),oO 31 (.build [.int .i64 0,.int .i64 0] []),oM 4 30,oO 5 (mK (kB true)),oX (sT 2 6 31)]
def Try.l_solver_Solve : LCode := (.seq (.reg q26_0) (.seq (.seq (.reg q26_1) (.seq (.reg q26_2) (.cond (.t 16) (.seq (.reg q26_3) .ret) .skip))) (.seq (.reg q26_4) (.seq (.reg q26_5) (.seq (.reg q26_6) (.seq (.reg q26_7) (.seq (.seq (.reg q26_8) (.cond (.t 28) (.seq (.reg q26_9) .ret) .skip)) (.seq (.reg q26_10) .ret))))))))
theorem Try.c_solver_Solve : fnComp Try.prog 26 = some (32, Try.l_solver_Solve,[.t 4,.t 5,.cell 6 2 true]) := by kernel_rfl
theorem Try.b_explain_Reason_1 : bodied Try.prog 45 = true := by kernel_rfl
def q45_0 : LReg := rG [oO 3 (mK (kB false))]
def q45_1 : LReg := rG [oO 4 (lV 1 1),oM 5 0,oO 6 (iX 1 4 5),oO 7 (lV 1 6),oO 8 (.un .not (.t 7)),oM 3 8]
def Try.l_explain_Reason_1 : LCode := (.seq (.reg q45_0) (.seq (.reg q45_1) .ret))
theorem Try.c_explain_Reason_1 : fnComp Try.prog 45 = some (9, Try.l_explain_Reason_1,[.t 3]) := by kernel_rfl
def q19_0 : LReg := rG [oO 2 (.box 24 1 (.t 0)),oO 4 (mK (.c (.nils))),oO 5 (.alloc 30 2 [.int .i64 0,.int .i64 0])]
def q19_1 : LReg := rG [oO 18 (lA 1 2),oM 19 1,oO 20 (cA 26 [18,19]),oM 17 20,oO 21 (eX 0 17),oO 22 (eX 1 17),oO 23 (eX 2 17),oO 8 (.alloc 30 2 [.int .i64 0,.int .i64 0]),oM 6 21,oM 7 22,oX (sT 2 8 23)]
def q19_2 : LReg := rG [oO 24 (lA 2 8),oO 25 (.build [.int .i64 0,.int .i64 0] []),oO 26 (.eqs true [0,0] (.t 24) (.t 25))]
def q19_3 : LReg := ⟨[oO 27 (lA 2 8),oO 4 (mK (.c (.nils))),oX (sT 2 5 27)],true,[]⟩
def q19_4 : LReg := rG [oM 28 7]
def q19_5 : LReg := rG [oO 29 (.build [.int .i64 0,.int .i64 0] [(0,1,(kI 11))]),oO 4 (mK (.c (.nils))),oX (sT 2 5 29)]
def q19_6 : LReg := rG [oO 30 (lA 1 2),oM 31 1,oO 32 (cA 36 [30,31]),oO 33 (.make 4 1 1 [.bool false] (.t 32)),oO 9 (.alloc 79 1 [.nils]),oX (sT 1 9 33)]
def q19_7 : LReg := rG [oO 10 (mK (.c (.nils)))]
def q19_8 : LReg := rG [oO 34 (lV 1 9),oO 35 (lN 34),oO 36 (mK (kI 0))]
def q19_9 : LReg := rG [oO 37 (bT .lss 36 35)]
def q19_10 : LReg := rG [oM 38 36,oM 11 38]
def q19_11 : LReg := rG [oO 39 (lV 1 9),oM 40 11,oO 41 (iX 1 39 40),oX (.store 1 (.t 41) (kB true))]
def q19_12 : LReg := rG [oO 43 (lA 1 2),oM 44 1,oO 45 (.mkfn 45 [] [(.t 9)]),oO 46 (cA 39 [43,44,45]),oM 42 46,oO 47 (eX 0 42),oO 48 (eX 1 42),oO 12 (.alloc 24 1 [.nils]),oX (sT 1 12 47),oM 13 48]
def q19_13 : LReg := rG [oO 50 (lA 1 12),oM 51 13,oO 52 (cA 26 [50,51]),oM 49 52,oO 53 (eX 0 49),oO 54 (eX 1 49),oO 55 (eX 2 49),oO 16 (.alloc 30 2 [.int .i64 0,.int .i64 0]),oM 14 53,oM 15 54,oX (sT 2 16 55)]
def q19_14 : LReg := rG [oM 56 15]
def q19_15 : LReg := rG [oO 57 (lV 1 9),oM 58 11,oO 59 (iX 1 57 58),oX (.store 1 (.t 59) (kB false))]
def q19_16 : LReg := rG [oM 60 10,oM 61 11,oO 62 (.mkSlice 3 1 1 [.int .i64 0] [(0,(.t 61))]),oO 63 (.append 3 1 8 (.t 60) (.t 62)),oM 10 63]
def q19_17 : LReg := rG [oO 64 (bK .add 36 1),oM 36 64]
def q19_18 : LReg := rG [oM 65 10,oO 66 (.build [.int .i64 0,.int .i64 0] []),oM 4 65,oX (sT 2 5 66)]
def Try.l_explain_Reason : LCode := (.seq (.reg q19_0) (.seq (.reg q19_1) (.seq (.seq (.reg q19_2) (.cond (.t 26) (.seq (.reg q19_3) .ret) .skip)) (.seq (.seq (.reg q19_4) (.cond (.t 28) (.seq (.reg q19_5) .ret) .skip)) (.seq (.reg q19_6) (.seq (.reg q19_7) (.seq (.seq (.reg q19_8) (.block 0 (.loop (.seq (.reg q19_9) (.seq (.cond (.t 37) .skip (.exit 0)) (.seq (.block 1 (.seq (.reg q19_10) (.seq (.reg q19_11) (.seq (.reg q19_12) (.seq (.reg q19_13) (.seq (.reg q19_14) (.cond (.t 56) (.seq (.reg q19_15) (.reg q19_16)) .skip))))))) (.reg q19_17))))))) (.seq (.reg q19_18) .ret))))))))
theorem Try.c_explain_Reason : fnComp Try.prog 19 = some (67, Try.l_explain_Reason,[.t 4,.cell 5 2 true]) := by kernel_rfl
def q21_0 : LReg := rG [oO 4 (.alloc 30 2 [.int .i64 0,.int .i64 0])]
def q21_1 : LReg := rG [oM 5 0,oM 6 1,oO 7 (.build [.int .i64 0,.int .i64 0] [(0,1,(.t 5)),(1,1,(.t 6))]),oX (sT 2 4 7)]
def Try.l_law6_fault : LCode := (.seq (.reg q21_0) (.seq (.reg q21_1) .ret))
theorem Try.c_law6_fault : fnComp Try.prog 21 = some (8, Try.l_law6_fault,[.cell 4 2 true]) := by kernel_rfl
def q23_0 : LReg := rG [oO 4 (mK (kB false))]
def q23_1 : LReg := rG [oM 6 0,oO 7 (lN 6),oM 8 1,oO 9 (lN 8),oO 10 (bT .neq 7 9)]
def q23_2 : LReg := rG [oO 4 (mK (kB false))]
def q23_3 : LReg := rG [oO 5 (mK (kI 0))]
def q23_4 : LReg := rG [oM 11 5,oM 12 0,oO 13 (lN 12),oO 14 (bT .lss 11 13)]
def q23_5 : LReg := ⟨[oM 17 0,oM 18 5,oO 19 (iX 1 17 18),oO 20 (lV 1 19),oM 21 1,oM 22 5,oO 23 (iX 1 21 22),oO 24 (lV 1 23),oO 25 (bT .neq 20 24)],true,[(2,6),(3,6),(2,7),(3,7)]⟩
def q23_6 : LReg := rG [oO 4 (mK (kB false))]
def q23_7 : LReg := rG [oM 15 5,oO 16 (bK .add 15 1),oM 5 16]
def q23_8 : LReg := rG [oO 4 (mK (kB true))]
def Try.l_ref5_Ints : LCode := (.seq (.reg q23_0) (.seq (.seq (.reg q23_1) (.cond (.t 10) (.seq (.reg q23_2) .ret) .skip)) (.seq (.seq (.reg q23_3) (.block 0 (.loop (.seq (.seq (.reg q23_4) (.cond (.t 14) .skip (.exit 0))) (.seq (.block 1 (.seq (.reg q23_5) (.cond (.t 25) (.seq (.reg q23_6) .ret) .skip))) (.reg q23_7)))))) (.seq (.reg q23_8) .ret))))
theorem Try.c_ref5_Ints : fnComp Try.prog 23 = some (26, Try.l_ref5_Ints,[.t 4]) := by kernel_rfl
def q28_0 : LReg := rG [oO 4 (.box 64 4 (.t 1)),oO 5 (.box 64 4 (.t 2)),oO 6 (.alloc 60 2 [.int .i64 0,.nils])]
def q28_1 : LReg := rG [oM 7 0,oO 8 (lA 4 4),oO 9 (lA 4 5),oO 10 (.build [.int .i64 0,.int .i64 0,.int .i64 0,.nils,.int .i64 0,.int .i64 0,.int .i64 0,.nils,.bool false] [(0,4,(.t 8)),(4,4,(.t 9))]),oO 11 (.mkSlice 88 9 1 [.int .i64 0,.int .i64 0,.int .i64 0,.nils,.int .i64 0,.int .i64 0,.int .i64 0,.nils,.bool false] [(0,(.t 10))]),oO 12 (.build [.nils] [(0,1,(.t 11))]),oO 13 (.build [.int .i64 0,.nils] [(0,1,(.t 7)),(1,1,(.t 12))]),oX (sT 2 6 13)]
def Try.l_law6_span : LCode := (.seq (.reg q28_0) (.seq (.reg q28_1) .ret))
theorem Try.c_law6_span : fnComp Try.prog 28 = some (14, Try.l_law6_span,[.cell 6 2 true]) := by kernel_rfl
def q29_0 : LReg := rG [oO 6 (.alloc 64 4 [.int .i64 0,.int .i64 0,.int .i64 0,.nils])]
def q29_1 : LReg := rG [oM 7 0,oM 8 1,oM 9 2,oO 10 (.build [.int .i64 0,.int .i64 0,.int .i64 0,.nils] [(0,1,(.t 7)),(1,1,(.t 8)),(2,1,(.t 9))]),oX (sT 4 6 10)]
def Try.l_law6_ver : LCode := (.seq (.reg q29_0) (.seq (.reg q29_1) .ret))
theorem Try.c_law6_ver : fnComp Try.prog 29 = some (11, Try.l_law6_ver,[.cell 6 4 true]) := by kernel_rfl
def q30_0 : LReg := rG [oO 0 (.alloc 24 1 [.nils])]
def q30_1 : LReg := rG [oO 2 (.call 29 [(kI 1),(kI 0),(kI 0)]),oO 3 (.call 29 [(kI 2),(kI 0),(kI 0)]),oO 4 (.call 28 [(kI 1),(.t 2),(.t 3)]),oO 1 (.alloc 60 2 [.int .i64 0,.nils]),oX (sT 2 1 4)]
def q30_2 : LReg := ⟨[oO 5 (.call 29 [(kI 1),(kI 0),(kI 0)]),oO 6 (lA 2 1),oO 7 (.mkSlice 60 2 1 [.int .i64 0,.nils] [(0,(.t 6))]),oO 8 (.build [.int .i64 0,.int .i64 0,.int .i64 0,.nils,.nils] [(0,4,(.t 5)),(4,1,(.t 7))]),oO 9 (.mkSlice 70 5 1 [.int .i64 0,.int .i64 0,.int .i64 0,.nils,.nils] [(0,(.t 8))]),oO 10 (.call 29 [(kI 3),(kI 0),(kI 0)]),oO 11 (.build [.int .i64 0,.int .i64 0,.int .i64 0,.nils,.nils] [(0,4,(.t 10))]),oO 12 (.mkSlice 70 5 1 [.int .i64 0,.int .i64 0,.int .i64 0,.nils,.nils] [(0,(.t 11))]),oO 13 (.mkSlice 68 1 2 [.nils] [(0,(.t 9)),(1,(.t 12))]),oO 14 (.build [.nils] [(0,1,(.t 13))]),oX (sT 1 0 14)],true,[(0,1),(0,2),(1,5),(2,5),(4,5),(1,7),(2,7),(4,7)]⟩
def Try.l_law6_universe : LCode := (.seq (.reg q30_0) (.seq (.reg q30_1) (.seq (.reg q30_2) .ret)))
theorem Try.c_law6_universe : fnComp Try.prog 30 = some (15, Try.l_law6_universe,[.cell 0 1 true]) := by kernel_rfl
def q34_0 : LReg := rG [oO 4 (.alloc 30 2 [.int .i64 0,.int .i64 0])]
def q34_1 : LReg := rG [oM 5 0,oM 6 1,oO 7 (.build [.int .i64 0,.int .i64 0] [(0,1,(.t 5)),(1,1,(.t 6))]),oX (sT 2 4 7)]
def Try.l_ref5_fault : LCode := (.seq (.reg q34_0) (.seq (.reg q34_1) .ret))
theorem Try.c_ref5_fault : fnComp Try.prog 34 = some (8, Try.l_ref5_fault,[.cell 4 2 true]) := by kernel_rfl
def q53_0 : LReg := rG [oO 6 (mK (kB false))]
def q53_1 : LReg := rG [oM 7 0,oM 8 1,oO 9 (bT .geq 7 8),oM 10 9,oT 11 10 (.mv (.t 0)),oT 12 10 (.mv (.t 2)),oT 13 10 (bT .leq 11 12),oO 14 (pK 10 13 (kB false)),oM 6 14]
def Try.l_ref5_in : LCode := (.seq (.reg q53_0) (.seq (.reg q53_1) .ret))
theorem Try.c_ref5_in : fnComp Try.prog 53 = some (15, Try.l_ref5_in,[.t 6]) := by kernel_rfl
def q43_0 : LReg := rG [oO 2 (.box 64 4 (.t 0)),oO 3 (.box 64 4 (.t 1)),oO 4 (mK (kB false))]
def q43_1 : LReg := rG [oO 6 (fA 0 2),oO 7 (lV 1 6),oO 8 (fA 0 3),oO 9 (lV 1 8),oO 10 (bT .neq 7 9),oM 11 10,oF 12 11 (fA 1 2),oF 13 11 (lV 1 12),oF 14 11 (fA 1 3),oF 15 11 (lV 1 14),oF 16 11 (bT .neq 13 15),oO 17 (pL 11 (kB true) 16),oM 18 17,oF 19 18 (fA 2 2),oF 20 18 (lV 1 19),oF 21 18 (fA 2 3),oF 22 18 (lV 1 21),oF 23 18 (bT .neq 20 22),oO 24 (pL 18 (kB true) 23),oM 25 24,oF 26 25 (fA 3 2),oF 27 25 (lV 1 26),oF 28 25 (lN 27),oF 29 25 (fA 3 3),oF 30 25 (lV 1 29),oF 31 25 (lN 30),oF 32 25 (bT .neq 28 31),oO 33 (pL 25 (kB true) 32)]
def q43_2 : LReg := rG [oO 4 (mK (kB false))]
def q43_3 : LReg := rG [oO 5 (mK (kI 0))]
def q43_4 : LReg := rG [oM 34 5,oO 35 (fA 3 2),oO 36 (lV 1 35),oO 37 (lN 36),oO 38 (bT .lss 34 37)]
def q43_5 : LReg := ⟨[oO 41 (fA 3 2),oO 42 (lV 1 41),oM 43 5,oO 44 (iX 1 42 43),oO 45 (lV 1 44),oO 46 (fA 3 3),oO 47 (lV 1 46),oM 48 5,oO 49 (iX 1 47 48),oO 50 (lV 1 49),oO 51 (bT .neq 45 50)],true,[(0,5),(1,5),(3,5),(4,5),(0,6),(1,6),(3,6),(4,6),(0,8),(1,8),(3,8),(4,8),(0,9),(1,9),(3,9),(4,9)]⟩
def q43_6 : LReg := rG [oO 4 (mK (kB false))]
def q43_7 : LReg := rG [oM 39 5,oO 40 (bK .add 39 1),oM 5 40]
def q43_8 : LReg := rG [oO 4 (mK (kB true))]
def Try.l_ref5_SameVersion : LCode := (.seq (.reg q43_0) (.seq (.seq (.reg q43_1) (.cond (.t 33) (.seq (.reg q43_2) .ret) .skip)) (.seq (.seq (.reg q43_3) (.block 0 (.loop (.seq (.seq (.reg q43_4) (.cond (.t 38) .skip (.exit 0))) (.seq (.block 1 (.seq (.reg q43_5) (.cond (.t 51) (.seq (.reg q43_6) .ret) .skip))) (.reg q43_7)))))) (.seq (.reg q43_8) .ret))))
theorem Try.c_ref5_SameVersion : fnComp Try.prog 43 = some (52, Try.l_ref5_SameVersion,[.t 4]) := by kernel_rfl
def q81_0 : LReg := rG [oO 2 (mK (kB false))]
def q81_1 : LReg := rG [oO 3 (mK (kI 0))]
def q81_2 : LReg := rG [oM 4 3,oM 5 0,oO 6 (sN 5),oO 7 (bT .lss 4 6)]
def q81_3 : LReg := rG [oM 10 0,oM 11 3,oO 12 (.sidx (.t 10) (.t 11)),oO 13 (.bin .lss (.t 12) (.c (.int .u8 48))),oM 14 13,oF 15 14 (.mv (.t 0)),oF 16 14 (.mv (.t 3)),oF 17 14 (.sidx (.t 15) (.t 16)),oF 18 14 (.bin .gtr (.t 17) (.c (.int .u8 57))),oO 19 (pL 14 (kB true) 18)]
def q81_4 : LReg := rG [oO 2 (mK (kB false))]
def q81_5 : LReg := rG [oM 8 3,oO 9 (bK .add 8 1),oM 3 9]
def q81_6 : LReg := rG [oM 20 0,oO 21 (sN 20),oO 22 (bK .gtr 21 0),oM 2 22]
def Try.l_ref5_Numeric : LCode := (.seq (.reg q81_0) (.seq (.seq (.reg q81_1) (.block 0 (.loop (.seq (.seq (.reg q81_2) (.cond (.t 7) .skip (.exit 0))) (.seq (.block 1 (.seq (.reg q81_3) (.cond (.t 19) (.seq (.reg q81_4) .ret) .skip))) (.reg q81_5)))))) (.seq (.reg q81_6) .ret)))
theorem Try.c_ref5_Numeric : fnComp Try.prog 81 = some (23, Try.l_ref5_Numeric,[.t 2]) := by kernel_rfl
def q72_0 : LReg := rG [oO 2 (mK (kB false))]
def q72_1 : LReg := rG [oM 5 0,oO 6 (sN 5),oO 7 (.call 53 [(.t 6),(kI 1),(kI 8)]),oO 8 (.un .not (.t 7)),oM 9 8,oF 10 9 (.mv (.t 0)),oF 11 9 (cA 81 [10]),oF 12 9 (.mv (.t 11)),oT 13 12 (.mv (.t 0)),oT 14 12 (sN 13),oT 15 12 (bK .gtr 14 1),oF 16 9 (pK 12 15 (kB false)),oF 17 9 (.mv (.t 16)),oT 18 17 (.mv (.t 0)),oT 19 17 (.sidx (.t 18) (kI 0)),oT 20 17 (.bin .eql (.t 19) (.c (.int .u8 48))),oF 21 9 (pK 17 20 (kB false)),oO 22 (pL 9 (kB true) 21)]
def q72_2 : LReg := rG [oO 2 (mK (kB false))]
def q72_3 : LReg := rG [oO 3 (mK (kI 0))]
def q72_4 : LReg := rG [oM 23 3,oM 24 0,oO 25 (sN 24),oO 26 (bT .lss 23 25)]
def q72_5 : LReg := rG [oM 29 0,oM 30 3,oO 31 (.sidx (.t 29) (.t 30)),oO 32 (.conv .i64 (.t 31)),oM 4 32]
def q72_6 : LReg := rG [oM 33 4,oO 34 (.call 53 [(.t 33),(kI 48),(kI 57)]),oO 35 (.un .not (.t 34)),oM 36 35,oT 37 36 (.mv (.t 4)),oT 38 36 (.call 53 [(.t 37),(kI 97),(kI 122)]),oT 39 36 (.un .not (.t 38)),oO 40 (pK 36 39 (kB false)),oM 41 40,oT 42 41 (.mv (.t 4)),oT 43 41 (.call 53 [(.t 42),(kI 65),(kI 90)]),oT 44 41 (.un .not (.t 43)),oO 45 (pK 41 44 (kB false)),oM 46 45,oT 47 46 (.mv (.t 4)),oT 48 46 (bK .neq 47 45),oO 49 (pK 46 48 (kB false))]
def q72_7 : LReg := rG [oO 2 (mK (kB false))]
def q72_8 : LReg := rG [oM 27 3,oO 28 (bK .add 27 1),oM 3 28]
def q72_9 : LReg := rG [oO 2 (mK (kB true))]
def Try.l_ref5_Identifier : LCode := (.seq (.reg q72_0) (.seq (.seq (.reg q72_1) (.cond (.t 22) (.seq (.reg q72_2) .ret) .skip)) (.seq (.seq (.reg q72_3) (.block 0 (.loop (.seq (.seq (.reg q72_4) (.cond (.t 26) .skip (.exit 0))) (.seq (.block 1 (.seq (.reg q72_5) (.seq (.reg q72_6) (.cond (.t 49) (.seq (.reg q72_7) .ret) .skip)))) (.reg q72_8)))))) (.seq (.reg q72_9) .ret))))
theorem Try.c_ref5_Identifier : fnComp Try.prog 72 = some (50, Try.l_ref5_Identifier,[.t 2]) := by kernel_rfl
def q64_0 : LReg := rG [oO 1 (.box 64 4 (.t 0)),oO 2 (.alloc 30 2 [.int .i64 0,.int .i64 0])]
def q64_1 : LReg := rG [oO 4 (fA 0 1),oO 5 (lV 1 4),oO 6 (.call 53 [(.t 5),(kI 0),(kI 1000000000)]),oO 7 (.un .not (.t 6))]
def q64_2 : LReg := rG [oO 8 (.call 34 [(kI 3),(kI 0)]),oX (sT 2 2 8)]
def q64_3 : LReg := rG [oO 9 (fA 1 1),oO 10 (lV 1 9),oO 11 (.call 53 [(.t 10),(kI 0),(kI 1000000000)]),oO 12 (.un .not (.t 11))]
def q64_4 : LReg := rG [oO 13 (.call 34 [(kI 3),(kI 1)]),oX (sT 2 2 13)]
def q64_5 : LReg := rG [oO 14 (fA 2 1),oO 15 (lV 1 14),oO 16 (.call 53 [(.t 15),(kI 0),(kI 1000000000)]),oO 17 (.un .not (.t 16))]
def q64_6 : LReg := rG [oO 18 (.call 34 [(kI 3),(kI 2)]),oX (sT 2 2 18)]
def q64_7 : LReg := rG [oO 19 (fA 3 1),oO 20 (lV 1 19),oO 21 (lN 20),oO 22 (bK .gtr 21 4)]
def q64_8 : LReg := rG [oO 23 (.call 34 [(kI 2),(kI (-1))]),oX (sT 2 2 23)]
def q64_9 : LReg := rG [oO 3 (mK (kI 0))]
def q64_10 : LReg := rG [oM 24 3,oO 25 (fA 3 1),oO 26 (lV 1 25),oO 27 (lN 26),oO 28 (bT .lss 24 27)]
def q64_11 : LReg := rG [oO 31 (fA 3 1),oO 32 (lV 1 31),oM 33 3,oO 34 (iX 1 32 33),oO 35 (lV 1 34),oO 36 (cA 72 [35]),oO 37 (.un .not (.t 36))]
def q64_12 : LReg := rG [oM 38 3,oO 39 (.call 34 [(kI 5),(.t 38)]),oX (sT 2 2 39)]
def q64_13 : LReg := rG [oM 29 3,oO 30 (bK .add 29 1),oM 3 30]
def q64_14 : LReg := rG [oO 40 (.build [.int .i64 0,.int .i64 0] []),oX (sT 2 2 40)]
def Try.l_ref5_VersionFault : LCode := (.seq (.reg q64_0) (.seq (.seq (.reg q64_1) (.cond (.t 7) (.seq (.reg q64_2) .ret) .skip)) (.seq (.seq (.reg q64_3) (.cond (.t 12) (.seq (.reg q64_4) .ret) .skip)) (.seq (.seq (.reg q64_5) (.cond (.t 17) (.seq (.reg q64_6) .ret) .skip)) (.seq (.seq (.reg q64_7) (.cond (.t 22) (.seq (.reg q64_8) .ret) .skip)) (.seq (.seq (.reg q64_9) (.block 0 (.loop (.seq (.seq (.reg q64_10) (.cond (.t 28) .skip (.exit 0))) (.seq (.block 1 (.seq (.reg q64_11) (.cond (.t 37) (.seq (.reg q64_12) .ret) .skip))) (.reg q64_13)))))) (.seq (.reg q64_14) .ret)))))))
theorem Try.c_ref5_VersionFault : fnComp Try.prog 64 = some (41, Try.l_ref5_VersionFault,[.cell 2 2 true]) := by kernel_rfl
def q73_0 : LReg := rG [oO 4 (mK (kI 0))]
def q73_1 : LReg := rG [oM 5 0,oM 6 1,oO 7 (bT .lss 5 6)]
def q73_2 : LReg := rG [oO 4 (mK (kI (-1)))]
def q73_3 : LReg := rG [oM 8 0,oM 9 1,oO 10 (bT .gtr 8 9)]
def q73_4 : LReg := rG [oO 4 (mK (kI 1))]
def q73_5 : LReg := rG [oO 4 (mK (kI 0))]
def Try.l_ref5_Sign3 : LCode := (.seq (.reg q73_0) (.seq (.seq (.reg q73_1) (.cond (.t 7) (.seq (.reg q73_2) .ret) .skip)) (.seq (.seq (.reg q73_3) (.cond (.t 10) (.seq (.reg q73_4) .ret) .skip)) (.seq (.reg q73_5) .ret))))
theorem Try.c_ref5_Sign3 : fnComp Try.prog 73 = some (11, Try.l_ref5_Sign3,[.t 4]) := by kernel_rfl
def q82_0 : LReg := rG [oO 2 (mK (kI 0))]
def q82_1 : LReg := rG [oO 3 (mK (kI 0))]
def q82_2 : LReg := rG [oO 4 (mK (kI 0))]
def q82_3 : LReg := rG [oM 5 4,oM 6 0,oO 7 (sN 6),oO 8 (bT .lss 5 7)]
def q82_4 : LReg := rG [oM 11 3,oO 12 (.bin .mul (kI 10) (.t 11)),oM 13 0,oM 14 4,oO 15 (.sidx (.t 13) (.t 14)),oO 16 (.bin .sub (.t 15) (.c (.int .u8 48))),oO 17 (.conv .i64 (.t 16)),oO 18 (bT .add 12 17),oM 3 18]
def q82_5 : LReg := rG [oM 9 4,oO 10 (bK .add 9 1),oM 4 10]
def q82_6 : LReg := rG [oM 19 3,oM 2 19]
def Try.l_ref5_value : LCode := (.seq (.reg q82_0) (.seq (.reg q82_1) (.seq (.seq (.reg q82_2) (.block 0 (.loop (.seq (.seq (.reg q82_3) (.cond (.t 8) .skip (.exit 0))) (.seq (.block 1 (.reg q82_4)) (.reg q82_5)))))) (.seq (.reg q82_6) .ret))))
theorem Try.c_ref5_value : fnComp Try.prog 82 = some (20, Try.l_ref5_value,[.t 2]) := by kernel_rfl
def q74_0 : LReg := rG [oO 4 (mK (kI 0))]
def q74_1 : LReg := rG [oM 6 0,oO 7 (cA 81 [6]),oM 8 7,oT 9 8 (.mv (.t 1)),oT 10 8 (cA 81 [9]),oO 11 (pK 8 10 (kB false))]
def q74_2 : LReg := rG [oM 12 0,oO 13 (cA 82 [12]),oM 14 1,oO 15 (cA 82 [14]),oO 16 (cA 73 [13,15]),oM 4 16]
def q74_3 : LReg := rG [oM 17 0,oO 18 (cA 81 [17])]
def q74_4 : LReg := rG [oO 4 (mK (kI (-1)))]
def q74_5 : LReg := rG [oM 19 1,oO 20 (cA 81 [19])]
def q74_6 : LReg := rG [oO 4 (mK (kI 1))]
def q74_7 : LReg := rG [oO 5 (mK (kI 0))]
def q74_8 : LReg := rG [oM 21 5,oM 22 0,oO 23 (sN 22),oO 24 (bT .lss 21 23),oM 25 24,oT 26 25 (.mv (.t 5)),oT 27 25 (.mv (.t 1)),oT 28 25 (sN 27),oT 29 25 (bT .lss 26 28),oO 30 (pK 25 29 (kB false))]
def q74_9 : LReg := ⟨[oM 33 0,oM 34 5,oO 35 (.sidx (.t 33) (.t 34)),oM 36 1,oM 37 5,oO 38 (.sidx (.t 36) (.t 37)),oO 39 (bT .neq 35 38)],true,[]⟩
def q74_10 : LReg := ⟨[oM 40 0,oM 41 5,oO 42 (.sidx (.t 40) (.t 41)),oO 43 (.conv .i64 (.t 42)),oM 44 1,oM 45 5,oO 46 (.sidx (.t 44) (.t 45)),oO 47 (.conv .i64 (.t 46)),oO 48 (cA 73 [43,47]),oM 4 48],true,[]⟩
def q74_11 : LReg := rG [oM 31 5,oO 32 (bK .add 31 1),oM 5 32]
def q74_12 : LReg := rG [oM 49 0,oO 50 (sN 49),oM 51 1,oO 52 (sN 51),oO 53 (cA 73 [50,52]),oM 4 53]
def Try.l_ref5_identifiers : LCode := (.seq (.reg q74_0) (.seq (.seq (.reg q74_1) (.cond (.t 11) (.seq (.reg q74_2) .ret) .skip)) (.seq (.seq (.reg q74_3) (.cond (.t 18) (.seq (.reg q74_4) .ret) .skip)) (.seq (.seq (.reg q74_5) (.cond (.t 20) (.seq (.reg q74_6) .ret) .skip)) (.seq (.seq (.reg q74_7) (.block 0 (.loop (.seq (.seq (.reg q74_8) (.cond (.t 30) .skip (.exit 0))) (.seq (.block 1 (.seq (.reg q74_9) (.cond (.t 39) (.seq (.reg q74_10) .ret) .skip))) (.reg q74_11)))))) (.seq (.reg q74_12) .ret))))))
theorem Try.c_ref5_identifiers : fnComp Try.prog 74 = some (54, Try.l_ref5_identifiers,[.t 4]) := by kernel_rfl
def q65_0 : LReg := rG [oO 2 (.box 64 4 (.t 0)),oO 3 (.box 64 4 (.t 1)),oO 4 (mK (kI 0))]
def q65_1 : LReg := rG [oO 7 (fA 0 2),oO 8 (lV 1 7),oO 9 (fA 0 3),oO 10 (lV 1 9),oO 11 (bT .neq 8 10)]
def q65_2 : LReg := rG [oO 12 (fA 0 2),oO 13 (lV 1 12),oO 14 (fA 0 3),oO 15 (lV 1 14),oO 16 (cA 73 [13,15]),oM 4 16]
def q65_3 : LReg := rG [oO 17 (fA 1 2),oO 18 (lV 1 17),oO 19 (fA 1 3),oO 20 (lV 1 19),oO 21 (bT .neq 18 20)]
def q65_4 : LReg := rG [oO 22 (fA 1 2),oO 23 (lV 1 22),oO 24 (fA 1 3),oO 25 (lV 1 24),oO 26 (cA 73 [23,25]),oM 4 26]
def q65_5 : LReg := rG [oO 27 (fA 2 2),oO 28 (lV 1 27),oO 29 (fA 2 3),oO 30 (lV 1 29),oO 31 (bT .neq 28 30)]
def q65_6 : LReg := rG [oO 32 (fA 2 2),oO 33 (lV 1 32),oO 34 (fA 2 3),oO 35 (lV 1 34),oO 36 (cA 73 [33,35]),oM 4 36]
def q65_7 : LReg := rG [oO 37 (fA 3 2),oO 38 (lV 1 37),oO 39 (lN 38),oO 40 (bK .eql 39 0),oM 41 40,oF 42 41 (fA 3 3),oF 43 41 (lV 1 42),oF 44 41 (lN 43),oF 45 41 (bK .eql 44 0),oO 46 (pL 41 (kB true) 45)]
def q65_8 : LReg := ⟨[oO 47 (fA 3 3),oO 48 (lV 1 47),oO 49 (lN 48),oO 50 (fA 3 2),oO 51 (lV 1 50),oO 52 (lN 51),oO 53 (cA 73 [49,52]),oO 54 (fA 3 2),oO 55 (lV 1 54),oO 56 (lN 55),oO 57 (fA 3 3),oO 58 (lV 1 57),oO 59 (lN 58),oO 60 (bT .add 56 59),oO 61 (.call 73 [(.t 60),(kI 0)]),oO 62 (bT .mul 53 61),oM 4 62],true,[(0,3),(1,3),(2,3),(0,4),(1,4),(2,4),(0,5),(1,5),(2,5),(0,7),(1,7),(2,7),(3,7),(4,7),(5,7),(6,7),(0,8),(1,8),(2,8),(3,8),(4,8),(5,8),(6,8),(0,9),(1,9),(2,9),(3,9),(4,9),(5,9),(6,9),(0,10),(1,10),(2,10),(3,10),(4,10),(5,10),(6,10),(7,10),(8,10),(9,10),(0,11),(1,11),(2,11),(3,11),(4,11),(5,11),(6,11),(7,11),(8,11),(9,11),(0,12),(1,12),(2,12),(3,12),(4,12),(5,12),(6,12),(7,12),(8,12),(9,12)]⟩
def q65_9 : LReg := rG [oO 5 (mK (kI 0))]
def q65_10 : LReg := rG [oM 63 5,oO 64 (fA 3 2),oO 65 (lV 1 64),oO 66 (lN 65),oO 67 (bT .lss 63 66),oM 68 67,oT 69 68 (.mv (.t 5)),oT 70 68 (fA 3 3),oT 71 68 (lV 1 70),oT 72 68 (lN 71),oT 73 68 (bT .lss 69 72),oO 74 (pK 68 73 (kB false))]
def q65_11 : LReg := ⟨[oO 77 (fA 3 2),oO 78 (lV 1 77),oM 79 5,oO 80 (iX 1 78 79),oO 81 (lV 1 80),oO 82 (fA 3 3),oO 83 (lV 1 82),oM 84 5,oO 85 (iX 1 83 84),oO 86 (lV 1 85),oO 87 (cA 74 [81,86]),oM 6 87],true,[(0,5),(1,5),(3,5),(4,5),(0,6),(1,6),(3,6),(4,6),(0,8),(1,8),(3,8),(4,8),(0,9),(1,9),(3,9),(4,9)]⟩
def q65_12 : LReg := rG [oM 88 6,oO 89 (bK .neq 88 0)]
def q65_13 : LReg := rG [oM 90 6,oM 4 90]
def q65_14 : LReg := rG [oM 75 5,oO 76 (bK .add 75 1),oM 5 76]
def q65_15 : LReg := rG [oO 91 (fA 3 2),oO 92 (lV 1 91),oO 93 (lN 92),oO 94 (fA 3 3),oO 95 (lV 1 94),oO 96 (lN 95),oO 97 (cA 73 [93,96]),oM 4 97]
def Try.l_ref5_VersionOrder : LCode := (.seq (.reg q65_0) (.seq (.seq (.reg q65_1) (.cond (.t 11) (.seq (.reg q65_2) .ret) .skip)) (.seq (.seq (.reg q65_3) (.cond (.t 21) (.seq (.reg q65_4) .ret) .skip)) (.seq (.seq (.reg q65_5) (.cond (.t 31) (.seq (.reg q65_6) .ret) .skip)) (.seq (.seq (.reg q65_7) (.cond (.t 46) (.seq (.reg q65_8) .ret) .skip)) (.seq (.seq (.reg q65_9) (.block 0 (.loop (.seq (.seq (.reg q65_10) (.cond (.t 74) .skip (.exit 0))) (.seq (.block 1 (.seq (.reg q65_11) (.seq (.reg q65_12) (.cond (.t 89) (.seq (.reg q65_13) .ret) .skip)))) (.reg q65_14)))))) (.seq (.reg q65_15) .ret)))))))
theorem Try.c_ref5_VersionOrder : fnComp Try.prog 65 = some (98, Try.l_ref5_VersionOrder,[.t 4]) := by kernel_rfl
def q54_0 : LReg := rG [oO 1 (.box 58 1 (.t 0)),oO 2 (.alloc 30 2 [.int .i64 0,.int .i64 0])]
def q54_1 : LReg := rG [oO 6 (fA 0 1),oO 7 (lV 1 6),oO 8 (lN 7),oO 9 (bK .gtr 8 12)]
def q54_2 : LReg := rG [oO 10 (.call 34 [(kI 2),(kI (-1))]),oX (sT 2 2 10)]
def q54_3 : LReg := rG [oO 3 (mK (kI 0))]
def q54_4 : LReg := rG [oM 11 3,oO 12 (fA 0 1),oO 13 (lV 1 12),oO 14 (lN 13),oO 15 (bT .lss 11 14)]
def q54_5 : LReg := rG [oO 18 (fA 0 1),oO 19 (lV 1 18),oM 20 3,oO 21 (iX 9 19 20),oO 22 (lA 9 21),oO 4 (.alloc 88 9 [.int .i64 0,.int .i64 0,.int .i64 0,.nils,.int .i64 0,.int .i64 0,.int .i64 0,.nils,.bool false]),oX (sT 9 4 22)]
def q54_6 : LReg := rG [oO 23 (fA 0 4),oO 24 (lA 4 23),oO 25 (cA 64 [24]),oO 5 (.alloc 30 2 [.int .i64 0,.int .i64 0]),oX (sT 2 5 25)]
def q54_7 : LReg := rG [oO 26 (fA 0 5),oO 27 (lV 1 26),oO 28 (bK .neq 27 0)]
def q54_8 : LReg := rG [oO 29 (fA 0 5),oO 30 (lV 1 29),oM 31 3,oO 32 (cA 34 [30,31]),oX (sT 2 2 32)]
def q54_9 : LReg := rG [oO 33 (fA 8 4),oO 34 (lV 1 33),oM 35 34,oT 36 35 (fA 4 4),oT 37 35 (lA 4 36),oT 38 35 (.build [.int .i64 0,.int .i64 0,.int .i64 0,.nils] []),oT 39 35 (cA 43 [37,38]),oT 40 35 (.un .not (.t 39)),oO 41 (pK 35 40 (kB false))]
def q54_10 : LReg := rG [oM 42 3,oO 43 (.call 34 [(kI 5),(.t 42)]),oX (sT 2 2 43)]
def q54_11 : LReg := rG [oO 44 (fA 8 4),oO 45 (lV 1 44),oO 46 (.un .not (.t 45))]
def q54_12 : LReg := rG [oO 47 (fA 4 4),oO 48 (lA 4 47),oO 49 (cA 64 [48]),oX (sT 2 5 49)]
def q54_13 : LReg := rG [oO 50 (fA 0 5),oO 51 (lV 1 50),oO 52 (bK .neq 51 0)]
def q54_14 : LReg := rG [oO 53 (fA 0 5),oO 54 (lV 1 53),oM 55 3,oO 56 (cA 34 [54,55]),oX (sT 2 2 56)]
def q54_15 : LReg := rG [oO 57 (fA 0 4),oO 58 (lA 4 57),oO 59 (fA 4 4),oO 60 (lA 4 59),oO 61 (cA 65 [58,60]),oO 62 (bK .geq 61 0)]
def q54_16 : LReg := rG [oM 63 3,oO 64 (.call 34 [(kI 5),(.t 63)]),oX (sT 2 2 64)]
def q54_17 : LReg := ⟨[oM 65 3,oO 66 (bK .gtr 65 0),oM 67 66,oT 68 67 (fA 0 1),oT 69 67 (lV 1 68),oT 70 67 (.mv (.t 3)),oT 71 67 (bK .sub 70 1),oT 72 67 (iX 9 69 71),oT 73 67 (fA 8 72),oT 74 67 (lV 1 73),oT 75 67 (.mv (.t 74)),oF 76 75 (fA 0 1),oF 77 75 (lV 1 76),oF 78 75 (.mv (.t 3)),oF 79 75 (bK .sub 78 1),oF 80 75 (iX 9 77 79),oF 81 75 (fA 4 80),oF 82 75 (lA 4 81),oF 83 75 (fA 0 4),oF 84 75 (lA 4 83),oF 85 75 (cA 65 [82,84]),oF 86 75 (bK .geq 85 0),oT 87 67 (pL 75 (kB true) 86),oO 88 (pK 67 87 (kB false))],true,[(11,18),(12,18),(15,18),(16,18),(17,18),(11,19),(12,19),(15,19),(16,19),(17,19)]⟩
def q54_18 : LReg := rG [oM 89 3,oO 90 (.call 34 [(kI 5),(.t 89)]),oX (sT 2 2 90)]
def q54_19 : LReg := rG [oM 16 3,oO 17 (bK .add 16 1),oM 3 17]
def q54_20 : LReg := rG [oO 91 (.build [.int .i64 0,.int .i64 0] []),oX (sT 2 2 91)]
def Try.l_ref5_RangeFault : LCode := (.seq (.reg q54_0) (.seq (.seq (.reg q54_1) (.cond (.t 9) (.seq (.reg q54_2) .ret) .skip)) (.seq (.seq (.reg q54_3) (.block 0 (.loop (.seq (.seq (.reg q54_4) (.cond (.t 15) .skip (.exit 0))) (.seq (.block 1 (.seq (.reg q54_5) (.seq (.reg q54_6) (.seq (.seq (.reg q54_7) (.cond (.t 28) (.seq (.reg q54_8) .ret) .skip)) (.seq (.seq (.reg q54_9) (.cond (.t 41) (.seq (.reg q54_10) .ret) .skip)) (.seq (.seq (.reg q54_11) (.cond (.t 46) (.seq (.reg q54_12) (.seq (.seq (.reg q54_13) (.cond (.t 52) (.seq (.reg q54_14) .ret) .skip)) (.seq (.reg q54_15) (.cond (.t 62) (.seq (.reg q54_16) .ret) .skip)))) .skip)) (.seq (.reg q54_17) (.cond (.t 88) (.seq (.reg q54_18) .ret) .skip)))))))) (.reg q54_19)))))) (.seq (.reg q54_20) .ret))))
theorem Try.c_ref5_RangeFault : fnComp Try.prog 54 = some (92, Try.l_ref5_RangeFault,[.cell 2 2 true]) := by kernel_rfl
def q33_0 : LReg := rG [oO 4 (mK (kI 0))]
def q33_1 : LReg := rG [oM 7 1,oO 8 (lN 7),oO 9 (bK .gtr 8 4)]
def q33_2 : LReg := rG [oO 4 (mK (kI 2))]
def q33_3 : LReg := rG [oO 5 (mK (kI 0))]
def q33_4 : LReg := rG [oM 10 5,oM 11 1,oO 12 (lN 11),oO 13 (bT .lss 10 12)]
def q33_5 : LReg := rG [oM 16 1,oM 17 5,oO 18 (iX 2 16 17),oO 19 (fA 0 18),oO 20 (lV 1 19),oM 21 0,oO 22 (bK .sub 21 1),oO 23 (.call 53 [(.t 20),(kI 0),(.t 22)]),oO 24 (.un .not (.t 23))]
def q33_6 : LReg := rG [oO 4 (mK (kI 3))]
def q33_7 : LReg := rG [oM 25 1,oM 26 5,oO 27 (iX 2 25 26),oO 28 (fA 1 27),oO 29 (lA 1 28),oO 30 (cA 54 [29]),oO 6 (.alloc 30 2 [.int .i64 0,.int .i64 0]),oX (sT 2 6 30)]
def q33_8 : LReg := rG [oO 31 (fA 0 6),oO 32 (lV 1 31),oO 33 (bK .neq 32 0)]
def q33_9 : LReg := rG [oO 34 (fA 0 6),oO 35 (lV 1 34),oM 4 35]
def q33_10 : LReg := ⟨[oM 36 5,oO 37 (bK .gtr 36 0),oM 38 37,oT 39 38 (.mv (.t 1)),oT 40 38 (.mv (.t 5)),oT 41 38 (iX 2 39 40),oT 42 38 (fA 0 41),oT 43 38 (lV 1 42),oT 44 38 (.mv (.t 1)),oT 45 38 (.mv (.t 5)),oT 46 38 (bK .sub 45 1),oT 47 38 (iX 2 44 46),oT 48 38 (fA 0 47),oT 49 38 (lV 1 48),oT 50 38 (bT .leq 43 49),oO 51 (pK 38 50 (kB false))],true,[(5,11),(6,11),(7,11),(5,12),(6,12),(7,12),(5,13),(6,13),(7,13)]⟩
def q33_11 : LReg := rG [oO 4 (mK (kI 5))]
def q33_12 : LReg := rG [oM 14 5,oO 15 (bK .add 14 1),oM 5 15]
def q33_13 : LReg := rG [oO 4 (mK (kI 0))]
def Try.l_ref5_NeedsCode : LCode := (.seq (.reg q33_0) (.seq (.seq (.reg q33_1) (.cond (.t 9) (.seq (.reg q33_2) .ret) .skip)) (.seq (.seq (.reg q33_3) (.block 0 (.loop (.seq (.seq (.reg q33_4) (.cond (.t 13) .skip (.exit 0))) (.seq (.block 1 (.seq (.seq (.reg q33_5) (.cond (.t 24) (.seq (.reg q33_6) .ret) .skip)) (.seq (.reg q33_7) (.seq (.seq (.reg q33_8) (.cond (.t 33) (.seq (.reg q33_9) .ret) .skip)) (.seq (.reg q33_10) (.cond (.t 51) (.seq (.reg q33_11) .ret) .skip)))))) (.reg q33_12)))))) (.seq (.reg q33_13) .ret))))
theorem Try.c_ref5_NeedsCode : fnComp Try.prog 33 = some (52, Try.l_ref5_NeedsCode,[.t 4]) := by kernel_rfl
def q52_0 : LReg := rG [oO 4 (mK (kI 0))]
def q52_1 : LReg := rG [oM 8 1,oO 9 (lN 8),oO 10 (bK .gtr 9 4)]
def q52_2 : LReg := rG [oO 4 (mK (kI 2))]
def q52_3 : LReg := rG [oO 5 (mK (kI 0))]
def q52_4 : LReg := rG [oM 11 5,oM 12 1,oO 13 (lN 12),oO 14 (bT .lss 11 13)]
def q52_5 : LReg := rG [oM 17 1,oM 18 5,oO 19 (iX 5 17 18),oO 20 (fA 0 19),oO 21 (lA 4 20),oO 22 (cA 64 [21]),oO 6 (.alloc 30 2 [.int .i64 0,.int .i64 0]),oX (sT 2 6 22)]
def q52_6 : LReg := rG [oO 23 (fA 0 6),oO 24 (lV 1 23),oO 25 (bK .neq 24 0)]
def q52_7 : LReg := rG [oO 26 (fA 0 6),oO 27 (lV 1 26),oM 4 27]
def q52_8 : LReg := ⟨[oM 28 5,oO 29 (bK .gtr 28 0),oM 30 29,oT 31 30 (.mv (.t 1)),oT 32 30 (.mv (.t 5)),oT 33 30 (bK .sub 32 1),oT 34 30 (iX 5 31 33),oT 35 30 (fA 0 34),oT 36 30 (lA 4 35),oT 37 30 (.mv (.t 1)),oT 38 30 (.mv (.t 5)),oT 39 30 (iX 5 37 38),oT 40 30 (fA 0 39),oT 41 30 (lA 4 40),oT 42 30 (cA 65 [36,41]),oT 43 30 (bK .geq 42 0),oO 44 (pK 30 43 (kB false))],true,[(6,11),(7,11),(8,11),(6,12),(7,12),(8,12),(6,13),(7,13),(8,13)]⟩
def q52_9 : LReg := rG [oO 4 (mK (kI 5))]
def q52_10 : LReg := rG [oM 45 0,oM 46 1,oM 47 5,oO 48 (iX 5 46 47),oO 49 (fA 4 48),oO 50 (lV 1 49),oO 51 (cA 33 [45,50]),oM 7 51]
def q52_11 : LReg := rG [oM 52 7,oO 53 (bK .neq 52 0)]
def q52_12 : LReg := rG [oM 54 7,oM 4 54]
def q52_13 : LReg := rG [oM 15 5,oO 16 (bK .add 15 1),oM 5 16]
def q52_14 : LReg := rG [oO 4 (mK (kI 0))]
def Try.l_ref5_ReleasesCode : LCode := (.seq (.reg q52_0) (.seq (.seq (.reg q52_1) (.cond (.t 10) (.seq (.reg q52_2) .ret) .skip)) (.seq (.seq (.reg q52_3) (.block 0 (.loop (.seq (.seq (.reg q52_4) (.cond (.t 14) .skip (.exit 0))) (.seq (.block 1 (.seq (.reg q52_5) (.seq (.seq (.reg q52_6) (.cond (.t 25) (.seq (.reg q52_7) .ret) .skip)) (.seq (.seq (.reg q52_8) (.cond (.t 44) (.seq (.reg q52_9) .ret) .skip)) (.seq (.reg q52_10) (.seq (.reg q52_11) (.cond (.t 53) (.seq (.reg q52_12) .ret) .skip))))))) (.reg q52_13)))))) (.seq (.reg q52_14) .ret))))
theorem Try.c_ref5_ReleasesCode : fnComp Try.prog 52 = some (55, Try.l_ref5_ReleasesCode,[.t 4]) := by kernel_rfl
def q31_0 : LReg := rG [oO 1 (.box 24 1 (.t 0)),oO 2 (.alloc 30 2 [.int .i64 0,.int .i64 0])]
def q31_1 : LReg := rG [oO 5 (fA 0 1),oO 6 (lV 1 5),oO 7 (lN 6),oO 8 (bK .gtr 7 6)]
def q31_2 : LReg := rG [oO 9 (.call 34 [(kI 2),(kI (-1))]),oX (sT 2 2 9)]
def q31_3 : LReg := rG [oO 3 (mK (kI 0))]
def q31_4 : LReg := rG [oM 10 3,oO 11 (fA 0 1),oO 12 (lV 1 11),oO 13 (lN 12),oO 14 (bT .lss 10 13)]
def q31_5 : LReg := ⟨[oO 17 (fA 0 1),oO 18 (lV 1 17),oO 19 (lN 18),oO 20 (fA 0 1),oO 21 (lV 1 20),oM 22 3,oO 23 (iX 1 21 22),oO 24 (lV 1 23),oO 25 (cA 52 [19,24]),oM 4 25],true,[(0,3),(1,3),(2,3),(0,4),(1,4),(2,4),(0,6),(1,6),(2,6),(0,7),(1,7),(2,7)]⟩
def q31_6 : LReg := rG [oM 26 4,oO 27 (bK .neq 26 0)]
def q31_7 : LReg := rG [oM 28 4,oM 29 3,oO 30 (cA 34 [28,29]),oX (sT 2 2 30)]
def q31_8 : LReg := rG [oM 15 3,oO 16 (bK .add 15 1),oM 3 16]
def q31_9 : LReg := rG [oO 31 (.build [.int .i64 0,.int .i64 0] []),oX (sT 2 2 31)]
def Try.l_ref5_UniverseFault : LCode := (.seq (.reg q31_0) (.seq (.seq (.reg q31_1) (.cond (.t 8) (.seq (.reg q31_2) .ret) .skip)) (.seq (.seq (.reg q31_3) (.block 0 (.loop (.seq (.seq (.reg q31_4) (.cond (.t 14) .skip (.exit 0))) (.seq (.block 1 (.seq (.reg q31_5) (.seq (.reg q31_6) (.cond (.t 27) (.seq (.reg q31_7) .ret) .skip)))) (.reg q31_8)))))) (.seq (.reg q31_9) .ret))))
theorem Try.c_ref5_UniverseFault : fnComp Try.prog 31 = some (32, Try.l_ref5_UniverseFault,[.cell 2 2 true]) := by kernel_rfl
def q9_0 : LReg := rG [oO 0 (mK (kB false))]
def q9_1 : LReg := rG [oO 12 (.call 29 [(kI 1),(kI 0),(kI 0)]),oO 13 (.call 29 [(kI 2),(kI 0),(kI 0)]),oO 14 (.call 28 [(kI 0),(.t 12),(.t 13)]),oO 15 (.mkSlice 60 2 1 [.int .i64 0,.nils] [(0,(.t 14))]),oM 1 15]
def q9_2 : LReg := rG [oO 17 (cA 30 []),oM 18 1,oO 19 (cA 12 [17,18]),oM 16 19,oO 20 (eX 0 16),oO 21 (eX 1 16),oO 3 (.alloc 30 2 [.int .i64 0,.int .i64 0]),oM 2 20,oX (sT 2 3 21)]
def q9_3 : LReg := rG [oO 23 (cA 30 []),oM 24 1,oO 25 (cA 19 [23,24]),oM 22 25,oO 26 (eX 0 22),oO 27 (eX 1 22),oO 5 (.alloc 30 2 [.int .i64 0,.int .i64 0]),oM 4 26,oX (sT 2 5 27)]
def q9_4 : LReg := rG [oO 29 (cA 30 []),oM 30 1,oO 31 (.mkSlice 3 1 1 [.int .i64 0] [(0,(kI 0))]),oO 32 (cA 15 [29,30,31]),oM 28 32,oO 33 (eX 0 28),oO 34 (eX 1 28),oO 35 (eX 2 28),oO 6 (.alloc 24 1 [.nils]),oO 8 (.alloc 30 2 [.int .i64 0,.int .i64 0]),oX (sT 1 6 33),oM 7 34,oX (sT 2 8 35)]
def q9_5 : LReg := rG [oO 37 (cA 30 []),oO 38 (.call 19 [(.t 37),(.c (.nils))]),oM 36 38,oO 39 (eX 0 36),oO 40 (eX 1 36),oO 10 (.alloc 30 2 [.int .i64 0,.int .i64 0]),oM 9 39,oX (sT 2 10 40)]
def q9_6 : LReg := ⟨[oO 41 (fA 0 3),oO 42 (lV 1 41),oO 43 (bK .eql 42 0),oM 44 43,oT 45 44 (fA 0 5),oT 46 44 (lV 1 45),oT 47 44 (bK .eql 46 0),oO 48 (pK 44 47 (kB false)),oM 49 48,oT 50 49 (fA 0 8),oT 51 49 (lV 1 50),oT 52 49 (bK .eql 51 0),oO 53 (pK 49 52 (kB false)),oM 54 53,oT 55 54 (lA 2 10),oT 56 54 (.call 21 [(kI 11),(kI 0)]),oT 57 54 (.eqs false [0,0] (.t 55) (.t 56)),oO 58 (pK 54 57 (kB false)),oM 11 58],true,[(14,15)]⟩
def q9_7 : LReg := rG [oM 59 11,oM 60 59,oT 61 60 (.mv (.t 2)),oT 62 60 (bK .eql 61 2),oO 63 (pK 60 62 (kB false)),oM 64 63,oT 65 64 (.mv (.t 4)),oT 66 64 (.mkSlice 3 1 2 [.int .i64 0] [(0,(kI 0)),(1,(kI 1))]),oT 67 64 (cA 23 [65,66]),oO 68 (pK 64 67 (kB false)),oM 69 68,oT 70 69 (fA 0 6),oT 71 69 (lV 1 70),oT 72 69 (lN 71),oT 73 69 (bK .eql 72 2),oO 74 (pK 69 73 (kB false)),oM 75 74,oT 76 75 (.mv (.t 7)),oT 77 75 (lN 76),oT 78 75 (bK .eql 77 1),oO 79 (pK 75 78 (kB false)),oM 80 79,oT 81 80 (lA 1 6),oT 82 80 (cA 31 [81]),oT 83 80 (.field 0 1 false (.t 82)),oT 84 80 (bK .eql 83 0),oO 85 (pK 80 84 (kB false)),oM 86 85,oT 87 86 (lA 1 6),oT 88 86 (.mv (.t 7)),oT 89 86 (cA 13 [87,88]),oT 90 86 (bK .eql 89 1),oO 91 (pK 86 90 (kB false)),oM 0 91]
def Try.l_law6_explains : LCode := (.seq (.reg q9_0) (.seq (.reg q9_1) (.seq (.reg q9_2) (.seq (.reg q9_3) (.seq (.reg q9_4) (.seq (.reg q9_5) (.seq (.reg q9_6) (.seq (.reg q9_7) .ret))))))))
theorem Try.c_law6_explains : fnComp Try.prog 9 = some (92, Try.l_law6_explains,[.t 0]) := by kernel_rfl
def q32_0 : LReg := rG [oO 2 (mK (kB false))]
def q32_1 : LReg := rG [oO 3 (mK (kI 0))]
def q32_2 : LReg := rG [oM 5 3,oM 6 0,oO 7 (lN 6),oO 8 (bT .lss 5 7),oM 9 8,oT 10 9 (.mv (.t 3)),oT 11 9 (bK .lss 10 20),oO 12 (pK 9 11 (kB false))]
def q32_3 : LReg := rG [oM 15 0,oM 16 3,oO 17 (iX 2 15 16),oO 18 (fA 1 17),oO 19 (fA 0 18),oO 20 (lV 1 19),oO 21 (lN 20),oO 22 (bK .gtr 21 40)]
def q32_4 : LReg := rG [oO 2 (mK (kB true))]
def q32_5 : LReg := rG [oO 4 (mK (kI 0))]
def q32_6 : LReg := rG [oM 23 4,oM 24 0,oM 25 3,oO 26 (iX 2 24 25),oO 27 (fA 1 26),oO 28 (fA 0 27),oO 29 (lV 1 28),oO 30 (lN 29),oO 31 (bT .lss 23 30)]
def q32_7 : LReg := rG [oM 34 0,oM 35 3,oO 36 (iX 2 34 35),oO 37 (fA 1 36),oO 38 (fA 0 37),oO 39 (lV 1 38),oM 40 4,oO 41 (iX 9 39 40),oO 42 (fA 0 41),oO 43 (fA 3 42),oO 44 (lV 1 43),oO 45 (lN 44),oO 46 (bK .gtr 45 40),oM 47 46,oF 48 47 (.mv (.t 0)),oF 49 47 (.mv (.t 3)),oF 50 47 (iX 2 48 49),oF 51 47 (fA 1 50),oF 52 47 (fA 0 51),oF 53 47 (lV 1 52),oF 54 47 (.mv (.t 4)),oF 55 47 (iX 9 53 54),oF 56 47 (fA 4 55),oF 57 47 (fA 3 56),oF 58 47 (lV 1 57),oF 59 47 (lN 58),oF 60 47 (bK .gtr 59 40),oO 61 (pL 47 (kB true) 60)]
def q32_8 : LReg := rG [oO 2 (mK (kB true))]
def q32_9 : LReg := rG [oM 32 4,oO 33 (bK .add 32 1),oM 4 33]
def q32_10 : LReg := rG [oM 13 3,oO 14 (bK .add 13 1),oM 3 14]
def q32_11 : LReg := rG [oM 62 0,oO 63 (lN 62),oO 64 (bK .gtr 63 20),oM 2 64]
def Try.l_law6_vastNeeds : LCode := (.seq (.reg q32_0) (.seq (.seq (.reg q32_1) (.block 0 (.loop (.seq (.seq (.reg q32_2) (.cond (.t 12) .skip (.exit 0))) (.seq (.block 1 (.seq (.seq (.reg q32_3) (.cond (.t 22) (.seq (.reg q32_4) .ret) .skip)) (.seq (.reg q32_5) (.block 2 (.loop (.seq (.seq (.reg q32_6) (.cond (.t 31) .skip (.exit 2))) (.seq (.block 3 (.seq (.reg q32_7) (.cond (.t 61) (.seq (.reg q32_8) .ret) .skip))) (.reg q32_9)))))))) (.reg q32_10)))))) (.seq (.reg q32_11) .ret)))
theorem Try.c_law6_vastNeeds : fnComp Try.prog 32 = some (65, Try.l_law6_vastNeeds,[.t 2]) := by kernel_rfl
def q10_0 : LReg := rG [oO 2 (.box 24 1 (.t 0)),oO 4 (mK (kB false))]
def q10_1 : LReg := rG [oO 5 (mK (kI 0))]
def q10_2 : LReg := rG [oM 7 5,oO 8 (fA 0 2),oO 9 (lV 1 8),oO 10 (lN 9),oO 11 (bT .lss 7 10),oM 12 11,oT 13 12 (.mv (.t 5)),oT 14 12 (bK .lss 13 20),oO 15 (pK 12 14 (kB false))]
def q10_3 : LReg := rG [oO 18 (fA 0 2),oO 19 (lV 1 18),oM 20 5,oO 21 (iX 1 19 20),oO 22 (lV 1 21),oO 23 (lN 22),oO 24 (bK .gtr 23 20)]
def q10_4 : LReg := rG [oO 4 (mK (kB true))]
def q10_5 : LReg := rG [oO 6 (mK (kI 0))]
def q10_6 : LReg := rG [oM 25 6,oO 26 (fA 0 2),oO 27 (lV 1 26),oM 28 5,oO 29 (iX 1 27 28),oO 30 (lV 1 29),oO 31 (lN 30),oO 32 (bT .lss 25 31)]
def q10_7 : LReg := rG [oO 35 (fA 0 2),oO 36 (lV 1 35),oM 37 5,oO 38 (iX 1 36 37),oO 39 (lV 1 38),oM 40 6,oO 41 (iX 5 39 40),oO 42 (fA 0 41),oO 43 (fA 3 42),oO 44 (lV 1 43),oO 45 (lN 44),oO 46 (bK .gtr 45 40),oM 47 46,oF 48 47 (fA 0 2),oF 49 47 (lV 1 48),oF 50 47 (.mv (.t 5)),oF 51 47 (iX 1 49 50),oF 52 47 (lV 1 51),oF 53 47 (.mv (.t 6)),oF 54 47 (iX 5 52 53),oF 55 47 (fA 4 54),oF 56 47 (lV 1 55),oF 57 47 (cA 32 [56]),oO 58 (pL 47 (kB true) 57)]
def q10_8 : LReg := rG [oO 4 (mK (kB true))]
def q10_9 : LReg := rG [oM 33 6,oO 34 (bK .add 33 1),oM 6 34]
def q10_10 : LReg := rG [oM 16 5,oO 17 (bK .add 16 1),oM 5 17]
def q10_11 : LReg := rG [oO 59 (fA 0 2),oO 60 (lV 1 59),oO 61 (lN 60),oO 62 (bK .gtr 61 20),oM 63 62,oF 64 63 (.mv (.t 1)),oF 65 63 (cA 32 [64]),oO 66 (pL 63 (kB true) 65),oM 4 66]
def Try.l_law6_vast : LCode := (.seq (.reg q10_0) (.seq (.seq (.reg q10_1) (.block 0 (.loop (.seq (.seq (.reg q10_2) (.cond (.t 15) .skip (.exit 0))) (.seq (.block 1 (.seq (.seq (.reg q10_3) (.cond (.t 24) (.seq (.reg q10_4) .ret) .skip)) (.seq (.reg q10_5) (.block 2 (.loop (.seq (.seq (.reg q10_6) (.cond (.t 32) .skip (.exit 2))) (.seq (.block 3 (.seq (.reg q10_7) (.cond (.t 58) (.seq (.reg q10_8) .ret) .skip))) (.reg q10_9)))))))) (.reg q10_10)))))) (.seq (.reg q10_11) .ret)))
theorem Try.c_law6_vast : fnComp Try.prog 10 = some (67, Try.l_law6_vast,[.t 4]) := by kernel_rfl
def q11_0 : LReg := rG [oO 2 (.box 24 1 (.t 0)),oO 4 (.alloc 30 2 [.int .i64 0,.int .i64 0])]
def q11_1 : LReg := rG [oO 7 (lA 1 2),oO 8 (cA 31 [7]),oO 5 (.alloc 30 2 [.int .i64 0,.int .i64 0]),oX (sT 2 5 8)]
def q11_2 : LReg := rG [oO 9 (fA 0 5),oO 10 (lV 1 9),oO 11 (bK .eql 10 0)]
def q11_3 : LReg := rG [oO 12 (fA 0 2),oO 13 (lV 1 12),oO 14 (lN 13),oM 15 1,oO 16 (cA 33 [14,15]),oM 6 16]
def q11_4 : LReg := rG [oM 17 6,oO 18 (bK .neq 17 0)]
def q11_5 : LReg := rG [oM 19 6,oO 20 (.call 34 [(.t 19),(kI (-2))]),oX (sT 2 5 20)]
def q11_6 : LReg := rG [oO 21 (lA 2 5),oX (sT 2 4 21)]
def Try.l_ref5_WantsFault : LCode := (.seq (.reg q11_0) (.seq (.reg q11_1) (.seq (.seq (.reg q11_2) (.cond (.t 11) (.seq (.reg q11_3) (.seq (.reg q11_4) (.cond (.t 18) (.reg q11_5) .skip))) .skip)) (.seq (.reg q11_6) .ret))))
theorem Try.c_ref5_WantsFault : fnComp Try.prog 11 = some (22, Try.l_ref5_WantsFault,[.cell 4 2 true]) := by kernel_rfl
def q61_0 : LReg := rG [oO 4 (mK (kB false))]
def q61_1 : LReg := rG [oO 5 (mK (kI 0))]
def q61_2 : LReg := rG [oM 6 5,oM 7 0,oO 8 (lN 7),oO 9 (bT .lss 6 8)]
def q61_3 : LReg := rG [oM 12 0,oM 13 5,oO 14 (iX 1 12 13),oO 15 (lV 1 14),oM 16 1,oO 17 (bT .eql 15 16)]
def q61_4 : LReg := rG [oO 4 (mK (kB true))]
def q61_5 : LReg := rG [oM 10 5,oO 11 (bK .add 10 1),oM 5 11]
def q61_6 : LReg := rG [oO 4 (mK (kB false))]
def Try.l_ref5_Has : LCode := (.seq (.reg q61_0) (.seq (.seq (.reg q61_1) (.block 0 (.loop (.seq (.seq (.reg q61_2) (.cond (.t 9) .skip (.exit 0))) (.seq (.block 1 (.seq (.reg q61_3) (.cond (.t 17) (.seq (.reg q61_4) .ret) .skip))) (.reg q61_5)))))) (.seq (.reg q61_6) .ret)))
theorem Try.c_ref5_Has : fnComp Try.prog 61 = some (18, Try.l_ref5_Has,[.t 4]) := by kernel_rfl
def q42_0 : LReg := rG [oO 6 (mK (.c (.nils)))]
def q42_1 : LReg := rG [oO 7 (mK (.c (.nils)))]
def q42_2 : LReg := rG [oO 8 (mK (kI 0))]
def q42_3 : LReg := rG [oM 9 8,oM 10 0,oO 11 (lN 10),oO 12 (bT .lss 9 11)]
def q42_4 : LReg := rG [oM 15 2,oM 16 1,oM 17 8,oO 18 (bT .add 16 17),oO 19 (cA 61 [15,18])]
def q42_5 : LReg := rG [oM 20 7,oM 21 0,oM 22 8,oO 23 (iX 2 21 22),oO 24 (lA 2 23),oO 25 (.mkSlice 60 2 1 [.int .i64 0,.nils] [(0,(.t 24))]),oO 26 (.append 60 2 32 (.t 20) (.t 25)),oM 7 26]
def q42_6 : LReg := rG [oM 13 8,oO 14 (bK .add 13 1),oM 8 14]
def q42_7 : LReg := rG [oM 27 7,oM 6 27]
def Try.l_ref6_part : LCode := (.seq (.reg q42_0) (.seq (.reg q42_1) (.seq (.seq (.reg q42_2) (.block 0 (.loop (.seq (.seq (.reg q42_3) (.cond (.t 12) .skip (.exit 0))) (.seq (.block 1 (.seq (.reg q42_4) (.cond (.t 19) (.reg q42_5) .skip))) (.reg q42_6)))))) (.seq (.reg q42_7) .ret))))
theorem Try.c_ref6_part : fnComp Try.prog 42 = some (28, Try.l_ref6_part,[.t 6]) := by kernel_rfl
def q16_0 : LReg := rG [oO 3 (.box 24 1 (.t 0)),oO 6 (.alloc 24 1 [.nils]),oO 7 (mK (.c (.nils)))]
def q16_1 : LReg := rG [oO 8 (.alloc 24 1 [.nils])]
def q16_2 : LReg := rG [oM 14 1,oO 15 (lN 14),oM 9 15]
def q16_3 : LReg := rG [oO 10 (mK (kI 0))]
def q16_4 : LReg := rG [oM 16 10,oO 17 (fA 0 3),oO 18 (lV 1 17),oO 19 (lN 18),oO 20 (bT .lss 16 19)]
def q16_5 : LReg := rG [oO 11 (mK (.c (.nils)))]
def q16_6 : LReg := rG [oO 12 (mK (kI 0))]
def q16_7 : LReg := rG [oM 23 12,oO 24 (fA 0 3),oO 25 (lV 1 24),oM 26 10,oO 27 (iX 1 25 26),oO 28 (lV 1 27),oO 29 (lN 28),oO 30 (bT .lss 23 29)]
def q16_8 : LReg := rG [oO 33 (fA 0 3),oO 34 (lV 1 33),oM 35 10,oO 36 (iX 1 34 35),oO 37 (lV 1 36),oM 38 12,oO 39 (iX 5 37 38),oO 40 (lA 5 39),oO 13 (.alloc 70 5 [.int .i64 0,.int .i64 0,.int .i64 0,.nils,.nils]),oX (sT 5 13 40)]
def q16_9 : LReg := ⟨[oM 41 11,oO 42 (fA 0 13),oO 43 (lA 4 42),oO 44 (fA 4 13),oO 45 (lV 1 44),oM 46 9,oM 47 2,oO 48 (cA 42 [45,46,47]),oO 49 (.build [.int .i64 0,.int .i64 0,.int .i64 0,.nils,.nils] [(0,4,(.t 43)),(4,1,(.t 48))]),oO 50 (.mkSlice 70 5 1 [.int .i64 0,.int .i64 0,.int .i64 0,.nils,.nils] [(0,(.t 49))]),oO 51 (.append 70 5 72 (.t 41) (.t 50)),oM 11 51],true,[(1,3),(2,3),(1,4),(2,4),(1,7),(2,7)]⟩
def q16_10 : LReg := rG [oM 52 9,oO 53 (fA 4 13),oO 54 (lV 1 53),oO 55 (lN 54),oO 56 (bT .add 52 55),oM 9 56]
def q16_11 : LReg := rG [oM 31 12,oO 32 (bK .add 31 1),oM 12 32]
def q16_12 : LReg := rG [oO 57 (fA 0 8),oO 58 (lV 1 57),oM 59 11,oO 60 (.mkSlice 68 1 1 [.nils] [(0,(.t 59))]),oO 61 (.append 68 1 24 (.t 58) (.t 60)),oO 62 (fA 0 8),oX (sT 1 62 61)]
def q16_13 : LReg := rG [oM 21 10,oO 22 (bK .add 21 1),oM 10 22]
def q16_14 : LReg := ⟨[oO 63 (lA 1 8),oM 64 1,oM 65 2,oO 66 (.call 42 [(.t 64),(kI 0),(.t 65)]),oX (sT 1 6 63),oM 7 66],true,[(0,3)]⟩
def Try.l_ref6_Kept : LCode := (.seq (.reg q16_0) (.seq (.reg q16_1) (.seq (.reg q16_2) (.seq (.seq (.reg q16_3) (.block 0 (.loop (.seq (.seq (.reg q16_4) (.cond (.t 20) .skip (.exit 0))) (.seq (.block 1 (.seq (.reg q16_5) (.seq (.seq (.reg q16_6) (.block 2 (.loop (.seq (.seq (.reg q16_7) (.cond (.t 30) .skip (.exit 2))) (.seq (.block 3 (.seq (.reg q16_8) (.seq (.reg q16_9) (.reg q16_10)))) (.reg q16_11)))))) (.reg q16_12)))) (.reg q16_13)))))) (.seq (.reg q16_14) .ret)))))
theorem Try.c_ref6_Kept : fnComp Try.prog 16 = some (67, Try.l_ref6_Kept,[.cell 6 1 true,.t 7]) := by kernel_rfl
def q46_0 : LReg := rG [oO 1 (.box 24 1 (.t 0)),oO 2 (mK (kI 0))]
def q46_1 : LReg := rG [oO 3 (mK (kI 1))]
def q46_2 : LReg := rG [oO 4 (mK (kI 0))]
def q46_3 : LReg := rG [oM 5 4,oO 6 (fA 0 1),oO 7 (lV 1 6),oO 8 (lN 7),oO 9 (bT .lss 5 8)]
def q46_4 : LReg := rG [oM 12 3,oO 13 (fA 0 1),oO 14 (lV 1 13),oM 15 4,oO 16 (iX 1 14 15),oO 17 (lV 1 16),oO 18 (lN 17),oO 19 (bK .add 18 1),oO 20 (bT .mul 12 19),oM 3 20]
def q46_5 : LReg := rG [oM 10 4,oO 11 (bK .add 10 1),oM 4 11]
def q46_6 : LReg := rG [oM 21 3,oM 2 21]
def Try.l_ref5_Selections : LCode := (.seq (.reg q46_0) (.seq (.reg q46_1) (.seq (.seq (.reg q46_2) (.block 0 (.loop (.seq (.seq (.reg q46_3) (.cond (.t 9) .skip (.exit 0))) (.seq (.block 1 (.reg q46_4)) (.reg q46_5)))))) (.seq (.reg q46_6) .ret))))
theorem Try.c_ref5_Selections : fnComp Try.prog 46 = some (22, Try.l_ref5_Selections,[.t 2]) := by kernel_rfl
def q20_0 : LReg := rG [oO 2 (.box 24 1 (.t 0)),oO 4 (mK (kB false))]
def q20_1 : LReg := ⟨[oO 5 (lA 1 2),oO 6 (cA 46 [5]),oO 7 (lA 1 2),oM 8 1,oO 9 (cA 13 [7,8]),oO 10 (.bin .add (kI 1) (.t 9)),oO 11 (bT .mul 6 10),oO 12 (bK .gtr 11 4000),oM 4 12],true,[(0,2),(1,2)]⟩
def Try.l_law6_slow : LCode := (.seq (.reg q20_0) (.seq (.reg q20_1) .ret))
theorem Try.c_law6_slow : fnComp Try.prog 20 = some (13, Try.l_law6_slow,[.t 4]) := by kernel_rfl
def q89_0 : LReg := rG [oO 2 (.box 88 9 (.t 0)),oO 3 (.box 64 4 (.t 1)),oO 4 (mK (kB false))]
def q89_1 : LReg := rG [oO 5 (fA 0 2),oO 6 (lA 4 5),oO 7 (lA 4 3),oO 8 (cA 65 [6,7]),oO 9 (bK .leq 8 0),oM 10 9,oT 11 10 (fA 8 2),oT 12 10 (lV 1 11),oT 13 10 (.mv (.t 12)),oF 14 13 (lA 4 3),oF 15 13 (fA 4 2),oF 16 13 (lA 4 15),oF 17 13 (cA 65 [14,16]),oF 18 13 (bK .lss 17 0),oT 19 10 (pL 13 (kB true) 18),oO 20 (pK 10 19 (kB false)),oM 4 20]
def Try.l_ref5_within : LCode := (.seq (.reg q89_0) (.seq (.reg q89_1) .ret))
theorem Try.c_ref5_within : fnComp Try.prog 89 = some (21, Try.l_ref5_within,[.t 4]) := by kernel_rfl
def q78_0 : LReg := rG [oO 2 (.box 58 1 (.t 0)),oO 3 (.box 64 4 (.t 1)),oO 4 (mK (kB false))]
def q78_1 : LReg := rG [oO 5 (mK (kI 0))]
def q78_2 : LReg := rG [oM 6 5,oO 7 (fA 0 2),oO 8 (lV 1 7),oO 9 (lN 8),oO 10 (bT .lss 6 9)]
def q78_3 : LReg := ⟨[oO 13 (fA 0 2),oO 14 (lV 1 13),oM 15 5,oO 16 (iX 9 14 15),oO 17 (lA 9 16),oO 18 (lA 4 3),oO 19 (cA 89 [17,18])],true,[(0,5),(1,5),(3,5),(4,5)]⟩
def q78_4 : LReg := rG [oO 4 (mK (kB true))]
def q78_5 : LReg := rG [oM 11 5,oO 12 (bK .add 11 1),oM 5 12]
def q78_6 : LReg := rG [oO 4 (mK (kB false))]
def Try.l_ref5_RangeHas : LCode := (.seq (.reg q78_0) (.seq (.seq (.reg q78_1) (.block 0 (.loop (.seq (.seq (.reg q78_2) (.cond (.t 10) .skip (.exit 0))) (.seq (.block 1 (.seq (.reg q78_3) (.cond (.t 19) (.seq (.reg q78_4) .ret) .skip))) (.reg q78_5)))))) (.seq (.reg q78_6) .ret)))
theorem Try.c_ref5_RangeHas : fnComp Try.prog 78 = some (20, Try.l_ref5_RangeHas,[.t 4]) := by kernel_rfl
def q69_0 : LReg := rG [oO 3 (.box 24 1 (.t 0)),oO 6 (mK (kB false))]
def q69_1 : LReg := rG [oO 7 (mK (kI 0))]
def q69_2 : LReg := rG [oM 9 7,oM 10 1,oO 11 (lN 10),oO 12 (bT .lss 9 11)]
def q69_3 : LReg := rG [oM 15 2,oM 16 1,oM 17 7,oO 18 (iX 2 16 17),oO 19 (fA 0 18),oO 20 (lV 1 19),oO 21 (iX 1 15 20),oO 22 (lV 1 21),oM 8 22]
def q69_4 : LReg := ⟨[oM 23 8,oO 24 (bK .lss 23 0),oM 25 24,oF 26 25 (.mv (.t 1)),oF 27 25 (.mv (.t 7)),oF 28 25 (iX 2 26 27),oF 29 25 (fA 1 28),oF 30 25 (lA 1 29),oF 31 25 (fA 0 3),oF 32 25 (lV 1 31),oF 33 25 (.mv (.t 1)),oF 34 25 (.mv (.t 7)),oF 35 25 (iX 2 33 34),oF 36 25 (fA 0 35),oF 37 25 (lV 1 36),oF 38 25 (iX 1 32 37),oF 39 25 (lV 1 38),oF 40 25 (.mv (.t 8)),oF 41 25 (iX 5 39 40),oF 42 25 (fA 0 41),oF 43 25 (lA 4 42),oF 44 25 (cA 78 [30,43]),oF 45 25 (.un .not (.t 44)),oO 46 (pL 25 (kB true) 45)],true,[(5,8),(6,8),(7,8),(5,9),(6,9),(7,9),(5,12),(6,12),(7,12),(8,12),(9,12),(5,13),(6,13),(7,13),(8,13),(9,13),(5,14),(6,14),(7,14),(8,14),(9,14),(5,15),(6,15),(7,15),(5,16),(6,16),(7,16),(5,18),(6,18),(7,18),(5,19),(6,19),(7,19),(5,20),(6,20),(7,20)]⟩
def q69_5 : LReg := rG [oO 6 (mK (kB false))]
def q69_6 : LReg := rG [oM 13 7,oO 14 (bK .add 13 1),oM 7 14]
def q69_7 : LReg := rG [oO 6 (mK (kB true))]
def Try.l_ref5_satisfied : LCode := (.seq (.reg q69_0) (.seq (.seq (.reg q69_1) (.block 0 (.loop (.seq (.seq (.reg q69_2) (.cond (.t 12) .skip (.exit 0))) (.seq (.block 1 (.seq (.reg q69_3) (.seq (.reg q69_4) (.cond (.t 46) (.seq (.reg q69_5) .ret) .skip)))) (.reg q69_6)))))) (.seq (.reg q69_7) .ret)))
theorem Try.c_ref5_satisfied : fnComp Try.prog 69 = some (47, Try.l_ref5_satisfied,[.t 6]) := by kernel_rfl
def q70_0 : LReg := rG [oO 4 (mK (.c (.nils)))]
def q70_1 : LReg := rG [oO 5 (mK (kI 0))]
def q70_2 : LReg := rG [oM 6 5,oM 7 1,oO 8 (lN 7),oO 9 (bT .lss 6 8)]
def q70_3 : LReg := rG [oM 12 0,oM 13 1,oM 14 5,oO 15 (iX 2 13 14),oO 16 (fA 0 15),oO 17 (lV 1 16),oO 18 (iX 1 12 17),oX (.store 1 (.t 18) (kB true))]
def q70_4 : LReg := rG [oM 10 5,oO 11 (bK .add 10 1),oM 5 11]
def q70_5 : LReg := rG [oM 19 0,oM 4 19]
def Try.l_ref5_mark : LCode := (.seq (.reg q70_0) (.seq (.seq (.reg q70_1) (.block 0 (.loop (.seq (.seq (.reg q70_2) (.cond (.t 9) .skip (.exit 0))) (.seq (.block 1 (.reg q70_3)) (.reg q70_4)))))) (.seq (.reg q70_5) .ret)))
theorem Try.c_ref5_mark : fnComp Try.prog 70 = some (20, Try.l_ref5_mark,[.t 4]) := by kernel_rfl
def q62_0 : LReg := rG [oO 3 (.box 24 1 (.t 0)),oO 6 (mK (kB false))]
def q62_1 : LReg := rG [oO 11 (lA 1 3),oM 12 1,oM 13 2,oO 14 (cA 69 [11,12,13]),oO 15 (.un .not (.t 14))]
def q62_2 : LReg := rG [oO 6 (mK (kB false))]
def q62_3 : LReg := rG [oM 16 2,oO 17 (lN 16),oO 18 (.make 4 1 1 [.bool false] (.t 17)),oM 19 1,oO 20 (cA 70 [18,19]),oM 7 20]
def q62_4 : LReg := rG [oO 8 (mK (kI 0))]
def q62_5 : LReg := rG [oM 21 8,oM 22 2,oO 23 (lN 22),oO 24 (bT .lss 21 23)]
def q62_6 : LReg := rG [oO 9 (mK (kI 0))]
def q62_7 : LReg := rG [oM 27 9,oM 28 2,oO 29 (lN 28),oO 30 (bT .lss 27 29)]
def q62_8 : LReg := rG [oM 33 7,oM 34 9,oO 35 (iX 1 33 34),oO 36 (lV 1 35),oM 37 36,oT 38 37 (.mv (.t 2)),oT 39 37 (.mv (.t 9)),oT 40 37 (iX 1 38 39),oT 41 37 (lV 1 40),oT 42 37 (bK .geq 41 0),oO 43 (pK 37 42 (kB false))]
def q62_9 : LReg := ⟨[oM 44 7,oO 45 (fA 0 3),oO 46 (lV 1 45),oM 47 9,oO 48 (iX 1 46 47),oO 49 (lV 1 48),oM 50 2,oM 51 9,oO 52 (iX 1 50 51),oO 53 (lV 1 52),oO 54 (iX 5 49 53),oO 55 (fA 4 54),oO 56 (lV 1 55),oO 57 (cA 70 [44,56]),oM 7 57],true,[(1,8),(2,8),(4,8),(5,8),(1,9),(2,9),(4,9),(5,9)]⟩
def q62_10 : LReg := rG [oM 31 9,oO 32 (bK .add 31 1),oM 9 32]
def q62_11 : LReg := rG [oM 25 8,oO 26 (bK .add 25 1),oM 8 26]
def q62_12 : LReg := rG [oO 10 (mK (kI 0))]
def q62_13 : LReg := rG [oM 58 10,oM 59 2,oO 60 (lN 59),oO 61 (bT .lss 58 60)]
def q62_14 : LReg := ⟨[oM 64 2,oM 65 10,oO 66 (iX 1 64 65),oO 67 (lV 1 66),oO 68 (bK .geq 67 0),oM 69 68,oT 70 69 (.mv (.t 7)),oT 71 69 (.mv (.t 10)),oT 72 69 (iX 1 70 71),oT 73 69 (lV 1 72),oT 74 69 (.un .not (.t 73)),oT 75 69 (.mv (.t 74)),oF 76 75 (lA 1 3),oF 77 75 (fA 0 3),oF 78 75 (lV 1 77),oF 79 75 (.mv (.t 10)),oF 80 75 (iX 1 78 79),oF 81 75 (lV 1 80),oF 82 75 (.mv (.t 2)),oF 83 75 (.mv (.t 10)),oF 84 75 (iX 1 82 83),oF 85 75 (lV 1 84),oF 86 75 (iX 5 81 85),oF 87 75 (fA 4 86),oF 88 75 (lV 1 87),oF 89 75 (.mv (.t 2)),oF 90 75 (cA 69 [76,88,89]),oF 91 75 (.un .not (.t 90)),oT 92 69 (pL 75 (kB true) 91),oO 93 (pK 69 92 (kB false))],true,[(12,13),(12,14),(12,16),(12,17),(12,20),(13,20),(14,20),(16,20),(17,20),(12,21),(13,21),(14,21),(16,21),(17,21),(12,22),(12,23),(12,24)]⟩
def q62_15 : LReg := rG [oO 6 (mK (kB false))]
def q62_16 : LReg := rG [oM 62 10,oO 63 (bK .add 62 1),oM 10 63]
def q62_17 : LReg := rG [oO 6 (mK (kB true))]
def Try.l_ref5_Solution : LCode := (.seq (.reg q62_0) (.seq (.seq (.reg q62_1) (.cond (.t 15) (.seq (.reg q62_2) .ret) .skip)) (.seq (.reg q62_3) (.seq (.seq (.reg q62_4) (.block 0 (.loop (.seq (.seq (.reg q62_5) (.cond (.t 24) .skip (.exit 0))) (.seq (.block 1 (.seq (.reg q62_6) (.block 2 (.loop (.seq (.seq (.reg q62_7) (.cond (.t 30) .skip (.exit 2))) (.seq (.block 3 (.seq (.reg q62_8) (.cond (.t 43) (.reg q62_9) .skip))) (.reg q62_10))))))) (.reg q62_11)))))) (.seq (.seq (.reg q62_12) (.block 4 (.loop (.seq (.seq (.reg q62_13) (.cond (.t 61) .skip (.exit 4))) (.seq (.block 5 (.seq (.reg q62_14) (.cond (.t 93) (.seq (.reg q62_15) .ret) .skip))) (.reg q62_16)))))) (.seq (.reg q62_17) .ret))))))
theorem Try.c_ref5_Solution : fnComp Try.prog 62 = some (94, Try.l_ref5_Solution,[.t 6]) := by kernel_rfl
def q47_0 : LReg := rG [oO 2 (.box 24 1 (.t 0)),oO 4 (mK (.c (.nils))),oO 5 (mK (kB false))]
def q47_1 : LReg := rG [oO 12 (lA 1 2),oO 13 (cA 46 [12]),oM 6 13]
def q47_2 : LReg := rG [oO 7 (mK (kI 0))]
def q47_3 : LReg := rG [oM 14 7,oM 15 6,oO 16 (bT .lss 14 15)]
def q47_4 : LReg := rG [oO 19 (fA 0 2),oO 20 (lV 1 19),oO 21 (lN 20),oO 22 (.make 3 1 8 [.int .i64 0] (.t 21)),oM 8 22]
def q47_5 : LReg := rG [oM 23 7,oM 9 23]
def q47_6 : LReg := rG [oM 24 8,oO 25 (lN 24),oO 26 (bK .sub 25 1),oM 10 26]
def q47_7 : LReg := rG [oM 27 10,oO 28 (bK .geq 27 0)]
def q47_8 : LReg := rG [oO 31 (fA 0 2),oO 32 (lV 1 31),oM 33 10,oO 34 (iX 1 32 33),oO 35 (lV 1 34),oO 36 (lN 35),oO 37 (bK .add 36 1),oM 11 37]
def q47_9 : LReg := rG [oM 38 8,oM 39 10,oM 40 11,oO 41 (bK .sub 40 2),oM 42 9,oM 43 11,oO 44 (bT .rem 42 43),oO 45 (bT .sub 41 44),oO 46 (iX 1 38 39),oX (sT 1 46 45)]
def q47_10 : LReg := rG [oM 47 9,oM 48 11,oO 49 (bT .quo 47 48),oM 9 49]
def q47_11 : LReg := rG [oM 29 10,oO 30 (bK .sub 29 1),oM 10 30]
def q47_12 : LReg := rG [oO 50 (lA 1 2),oM 51 1,oM 52 8,oO 53 (cA 62 [50,51,52])]
def q47_13 : LReg := rG [oM 54 8,oM 4 54,oO 5 (mK (kB true))]
def q47_14 : LReg := rG [oM 17 7,oO 18 (bK .add 17 1),oM 7 18]
def q47_15 : LReg := rG [oO 4 (mK (.c (.nils))),oO 5 (mK (kB false))]
def Try.l_ref5_Best : LCode := (.seq (.reg q47_0) (.seq (.reg q47_1) (.seq (.seq (.reg q47_2) (.block 0 (.loop (.seq (.seq (.reg q47_3) (.cond (.t 16) .skip (.exit 0))) (.seq (.block 1 (.seq (.reg q47_4) (.seq (.reg q47_5) (.seq (.seq (.reg q47_6) (.block 2 (.loop (.seq (.seq (.reg q47_7) (.cond (.t 28) .skip (.exit 2))) (.seq (.block 3 (.seq (.reg q47_8) (.seq (.reg q47_9) (.reg q47_10)))) (.reg q47_11)))))) (.seq (.reg q47_12) (.cond (.t 53) (.seq (.reg q47_13) .ret) .skip)))))) (.reg q47_14)))))) (.seq (.reg q47_15) .ret))))
theorem Try.c_ref5_Best : fnComp Try.prog 47 = some (55, Try.l_ref5_Best,[.t 4,.t 5]) := by kernel_rfl
def q48_0 : LReg := rG [oO 4 (mK (.c (.nils)))]
def q48_1 : LReg := rG [oO 5 (mK (.c (.nils)))]
def q48_2 : LReg := rG [oO 6 (mK (kI 0))]
def q48_3 : LReg := rG [oM 7 6,oM 8 0,oO 9 (lN 8),oO 10 (bT .lss 7 9)]
def q48_4 : LReg := rG [oM 13 0,oM 14 6,oO 15 (iX 1 13 14),oO 16 (lV 1 15),oM 17 1,oO 18 (bT .neq 16 17)]
def q48_5 : LReg := rG [oM 19 5,oM 20 0,oM 21 6,oO 22 (iX 1 20 21),oO 23 (lV 1 22),oO 24 (.mkSlice 3 1 1 [.int .i64 0] [(0,(.t 23))]),oO 25 (.append 3 1 8 (.t 19) (.t 24)),oM 5 25]
def q48_6 : LReg := rG [oM 11 6,oO 12 (bK .add 11 1),oM 6 12]
def q48_7 : LReg := rG [oM 26 5,oM 4 26]
def Try.l_ref6_without : LCode := (.seq (.reg q48_0) (.seq (.reg q48_1) (.seq (.seq (.reg q48_2) (.block 0 (.loop (.seq (.seq (.reg q48_3) (.cond (.t 10) .skip (.exit 0))) (.seq (.block 1 (.seq (.reg q48_4) (.cond (.t 18) (.reg q48_5) .skip))) (.reg q48_6)))))) (.seq (.reg q48_7) .ret))))
theorem Try.c_ref6_without : fnComp Try.prog 48 = some (27, Try.l_ref6_without,[.t 4]) := by kernel_rfl
def q22_0 : LReg := rG [oO 2 (.box 24 1 (.t 0)),oO 4 (mK (.c (.nils))),oO 5 (mK (kB false))]
def q22_1 : LReg := rG [oO 14 (lA 1 2),oM 15 1,oO 16 (cA 13 [14,15]),oM 6 16]
def q22_2 : LReg := rG [oO 7 (mK (.c (.nils)))]
def q22_3 : LReg := rG [oO 8 (mK (kI 0))]
def q22_4 : LReg := rG [oM 17 8,oM 18 6,oO 19 (bT .lss 17 18)]
def q22_5 : LReg := rG [oM 22 7,oM 23 8,oO 24 (.mkSlice 3 1 1 [.int .i64 0] [(0,(.t 23))]),oO 25 (.append 3 1 8 (.t 22) (.t 24)),oM 7 25]
def q22_6 : LReg := rG [oM 20 8,oO 21 (bK .add 20 1),oM 8 21]
def q22_7 : LReg := rG [oO 27 (lA 1 2),oM 28 1,oO 29 (cA 47 [27,28]),oM 26 29,oO 30 (eX 0 26),oO 31 (eX 1 26),oM 9 30,oM 10 31]
def q22_8 : LReg := rG [oM 32 10]
def q22_9 : LReg := rG [oO 4 (mK (.c (.nils))),oO 5 (mK (kB false))]
def q22_10 : LReg := rG [oO 11 (mK (kI 0))]
def q22_11 : LReg := rG [oM 33 11,oM 34 6,oO 35 (bT .lss 33 34)]
def q22_12 : LReg := ⟨[oO 39 (lA 1 2),oM 40 1,oM 41 7,oM 42 11,oO 43 (cA 48 [41,42]),oO 44 (cA 16 [39,40,43]),oM 38 44,oO 45 (eX 0 38),oO 46 (eX 1 38),oO 12 (.alloc 24 1 [.nils]),oX (sT 1 12 45),oM 13 46],true,[(0,4),(0,9),(4,9),(5,9)]⟩
def q22_13 : LReg := rG [oO 48 (lA 1 12),oM 49 13,oO 50 (cA 47 [48,49]),oM 47 50,oO 51 (eX 0 47),oO 52 (eX 1 47),oM 10 52]
def q22_14 : LReg := rG [oM 53 10,oO 54 (.un .not (.t 53))]
def q22_15 : LReg := rG [oM 55 7,oM 56 11,oO 57 (cA 48 [55,56]),oM 7 57]
def q22_16 : LReg := rG [oM 36 11,oO 37 (bK .add 36 1),oM 11 37]
def q22_17 : LReg := rG [oM 58 7,oM 4 58,oO 5 (mK (kB true))]
def Try.l_ref6_Reason : LCode := (.seq (.reg q22_0) (.seq (.reg q22_1) (.seq (.reg q22_2) (.seq (.seq (.reg q22_3) (.block 0 (.loop (.seq (.seq (.reg q22_4) (.cond (.t 19) .skip (.exit 0))) (.seq (.block 1 (.reg q22_5)) (.reg q22_6)))))) (.seq (.reg q22_7) (.seq (.seq (.reg q22_8) (.cond (.t 32) (.seq (.reg q22_9) .ret) .skip)) (.seq (.seq (.reg q22_10) (.block 2 (.loop (.seq (.seq (.reg q22_11) (.cond (.t 35) .skip (.exit 2))) (.seq (.block 3 (.seq (.reg q22_12) (.seq (.reg q22_13) (.seq (.reg q22_14) (.cond (.t 54) (.reg q22_15) .skip))))) (.reg q22_16)))))) (.seq (.reg q22_17) .ret))))))))
theorem Try.c_ref6_Reason : fnComp Try.prog 22 = some (59, Try.l_ref6_Reason,[.t 4,.t 5]) := by kernel_rfl
def q4_0 : LReg := rG [oO 2 (.box 24 1 (.t 0)),oO 4 (mK (kB false))]
def q4_1 : LReg := rG [oO 10 (cA 9 []),oO 11 (.un .not (.t 10))]
def q4_2 : LReg := rG [oO 4 (mK (kB false))]
def q4_3 : LReg := rG [oO 12 (lA 1 2),oM 13 1,oO 14 (cA 10 [12,13])]
def q4_4 : LReg := rG [oO 4 (mK (kB true))]
def q4_5 : LReg := rG [oO 15 (lA 1 2),oM 16 1,oO 17 (cA 11 [15,16]),oO 5 (.alloc 30 2 [.int .i64 0,.int .i64 0]),oX (sT 2 5 17)]
def q4_6 : LReg := rG [oO 19 (lA 1 2),oM 20 1,oO 21 (cA 19 [19,20]),oM 18 21,oO 22 (eX 0 18),oO 23 (eX 1 18),oO 7 (.alloc 30 2 [.int .i64 0,.int .i64 0]),oM 6 22,oX (sT 2 7 23)]
def q4_7 : LReg := rG [oO 24 (fA 0 5),oO 25 (lV 1 24),oO 26 (bK .neq 25 0)]
def q4_8 : LReg := rG [oO 27 (lA 2 7),oO 28 (lA 2 5),oO 29 (.eqs false [0,0] (.t 27) (.t 28)),oM 30 29,oT 31 30 (.mv (.t 6)),oT 32 30 (lN 31),oT 33 30 (bK .eql 32 0),oO 34 (pK 30 33 (kB false)),oM 4 34]
def q4_9 : LReg := rG [oO 35 (lA 1 2),oM 36 1,oO 37 (cA 20 [35,36])]
def q4_10 : LReg := ⟨[oO 38 (fA 0 7),oO 39 (lV 1 38),oO 40 (bK .eql 39 0),oM 41 40,oF 42 41 (lA 2 7),oF 43 41 (.call 21 [(kI 11),(kI 0)]),oF 44 41 (.eqs false [0,0] (.t 42) (.t 43)),oO 45 (pL 41 (kB true) 44),oM 4 45],true,[(4,5)]⟩
def q4_11 : LReg := rG [oO 47 (lA 1 2),oM 48 1,oO 49 (cA 22 [47,48]),oM 46 49,oO 50 (eX 0 46),oO 51 (eX 1 46),oM 8 50,oM 9 51]
def q4_12 : LReg := rG [oM 52 9,oO 53 (.un .not (.t 52))]
def q4_13 : LReg := ⟨[oO 54 (lA 2 7),oO 55 (.call 21 [(kI 11),(kI 0)]),oO 56 (.eqs false [0,0] (.t 54) (.t 55)),oM 57 56,oT 58 57 (.mv (.t 6)),oT 59 57 (lN 58),oT 60 57 (bK .eql 59 0),oO 61 (pK 57 60 (kB false)),oM 4 61],true,[(0,1)]⟩
def q4_14 : LReg := rG [oO 62 (fA 0 7),oO 63 (lV 1 62),oO 64 (bK .eql 63 0),oM 65 64,oT 66 65 (.mv (.t 6)),oT 67 65 (.mv (.t 8)),oT 68 65 (cA 23 [66,67]),oO 69 (pK 65 68 (kB false)),oM 4 69]
def Try.l_law6_ExplainReasonMatchesSpec : LCode := (.seq (.reg q4_0) (.seq (.seq (.reg q4_1) (.cond (.t 11) (.seq (.reg q4_2) .ret) .skip)) (.seq (.seq (.reg q4_3) (.cond (.t 14) (.seq (.reg q4_4) .ret) .skip)) (.seq (.reg q4_5) (.seq (.reg q4_6) (.seq (.seq (.reg q4_7) (.cond (.t 26) (.seq (.reg q4_8) .ret) .skip)) (.seq (.seq (.reg q4_9) (.cond (.t 37) (.seq (.reg q4_10) .ret) .skip)) (.seq (.reg q4_11) (.seq (.seq (.reg q4_12) (.cond (.t 53) (.seq (.reg q4_13) .ret) .skip)) (.seq (.reg q4_14) .ret))))))))))
theorem Try.c_law6_ExplainReasonMatchesSpec : fnComp Try.prog 4 = some (70, Try.l_law6_ExplainReasonMatchesSpec,[.t 4]) := by kernel_rfl
end Go.Proofs.Ytfdennmaeoahgaa
