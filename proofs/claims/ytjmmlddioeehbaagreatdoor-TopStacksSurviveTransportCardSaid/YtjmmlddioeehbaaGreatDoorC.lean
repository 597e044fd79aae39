/- The code of the functions, as the evaluator reads it. Laid by a program (wip/gen/dec.py). -/
import Derived.Test.YtjmmlddioeehbaaGreatDoorProg
import Derived.Test.YtjmmlddioeehbaaGreatDoorPwFam
import Derived.Test.YtjmmlddioeehbaaGreatDoorPwAuto
namespace Go.Proofs.YtjmmlddioeehbaaGreatDoor
open Go.PW Go
theorem hm : Tryz.prog.follows .mixedOrders = true := by kernel_rfl
instance : Hm Tryz.prog := ⟨hm⟩
def q11_0 : LReg := rG [oO 1 (.box 45 3 (.t 0)),oO 2 (mK (kI 0))]
def q11_1 : LReg := rG [oO 3 (fA 0 1),oO 4 (lV 1 3),oO 5 (fA 1 1),oO 6 (lV 1 5),oO 7 (lN 6),oO 8 (bT .add 4 7),oM 2 8]
def Tryz.l_textpatch_End : LCode := (.seq (.reg q11_0) (.seq (.reg q11_1) .ret))
theorem Tryz.c_textpatch_End : fnComp Tryz.prog 11 = some (9, Tryz.l_textpatch_End,[.t 2]) := by kernel_rfl
def q42_0 : LReg := rG [oO 2 (.alloc 25 2 [.int .i64 0,.int .i64 0])]
def q42_1 : LReg := rG [oM 5 0,oO 6 (lN 5),oO 7 (bK .gtr 6 120)]
def q42_2 : LReg := rG [oO 8 (.build [.int .i64 0,.int .i64 0] [(0,1,(kI 2)),(1,1,(kI (-1)))]),oX (sT 2 2 8)]
def q42_3 : LReg := rG [oM 9 0,oO 10 (lN 9),oO 11 (mK (kI 0))]
def q42_4 : LReg := rG [oO 12 (bT .lss 11 10)]
def q42_5 : LReg := rG [oM 13 11,oO 14 (iX 1 9 11),oO 15 (lV 1 14),oM 3 13,oM 4 15]
def q42_6 : LReg := rG [oM 16 4,oO 17 (sN 16),oO 18 (bK .gtr 17 80)]
def q42_7 : LReg := rG [oM 19 3,oO 20 (.build [.int .i64 0,.int .i64 0] [(0,1,(kI 2)),(1,1,(.t 19))]),oX (sT 2 2 20)]
def q42_8 : LReg := rG [oM 21 4,oO 22 (.call 60 [(.t 21),(.c (.int .u8 10))]),oO 23 (bK .geq 22 0)]
def q42_9 : LReg := rG [oM 24 3,oO 25 (.build [.int .i64 0,.int .i64 0] [(0,1,(kI 5)),(1,1,(.t 24))]),oX (sT 2 2 25)]
def q42_10 : LReg := rG [oO 26 (bK .add 11 1),oM 11 26]
def q42_11 : LReg := rG [oO 27 (.build [.int .i64 0,.int .i64 0] []),oX (sT 2 2 27)]
def Tryz.l_lines_Validate : LCode := (.seq (.reg q42_0) (.seq (.seq (.reg q42_1) (.cond (.t 7) (.seq (.reg q42_2) .ret) .skip)) (.seq (.seq (.reg q42_3) (.block 0 (.loop (.seq (.reg q42_4) (.seq (.cond (.t 12) .skip (.exit 0)) (.seq (.block 1 (.seq (.reg q42_5) (.seq (.seq (.reg q42_6) (.cond (.t 18) (.seq (.reg q42_7) .ret) .skip)) (.seq (.reg q42_8) (.cond (.t 23) (.seq (.reg q42_9) .ret) .skip))))) (.reg q42_10))))))) (.seq (.reg q42_11) .ret))))
theorem Tryz.c_lines_Validate : fnComp Tryz.prog 42 = some (28, Tryz.l_lines_Validate,[.cell 2 2 true]) := by kernel_rfl
def q41_0 : LReg := rG [oO 2 (.box 45 3 (.t 0)),oO 4 (mK (kI 0))]
def q41_1 : LReg := rG [oO 8 (fA 0 2),oO 9 (lV 1 8),oO 10 (bK .lss 9 0),oM 11 10,oF 12 11 (fA 0 2),oF 13 11 (lV 1 12),oF 14 11 (bK .gtr 13 120),oO 15 (pL 11 (kB true) 14)]
def q41_2 : LReg := rG [oO 4 (mK (kI 3))]
def q41_3 : LReg := rG [oO 16 (fA 1 2),oO 17 (lV 1 16),oO 18 (fA 2 2),oO 19 (lV 1 18),oO 20 (.build [.nils,.nils] [(0,1,(.t 17)),(1,1,(.t 19))]),oO 21 (mK (kI 0))]
def q41_4 : LReg := rG [oO 22 (bK .lss 21 2)]
def q41_5 : LReg := rG [oO 23 (.vidx 2 1 false (.t 20) (.t 21)),oM 6 23]
def q41_6 : LReg := rG [oM 24 6,oO 25 (cA 42 [24]),oO 7 (.alloc 25 2 [.int .i64 0,.int .i64 0]),oX (sT 2 7 25)]
def q41_7 : LReg := rG [oO 26 (lA 2 7),oO 27 (.build [.int .i64 0,.int .i64 0] []),oO 28 (.eqs true [0,0] (.t 26) (.t 27))]
def q41_8 : LReg := rG [oO 29 (fA 0 7),oO 30 (lV 1 29),oM 4 30]
def q41_9 : LReg := rG [oO 31 (bK .add 21 1),oM 21 31]
def q41_10 : LReg := rG [oO 32 (fA 1 2),oO 33 (lV 1 32),oO 34 (lN 33),oO 35 (fA 2 2),oO 36 (lV 1 35),oO 37 (lN 36),oO 38 (bT .add 34 37),oO 39 (bK .eql 38 0),oM 40 39,oF 41 40 (fA 0 2),oF 42 40 (lV 1 41),oF 43 40 (.mv (.t 1)),oF 44 40 (bT .leq 42 43),oO 45 (pL 40 (kB true) 44)]
def q41_11 : LReg := rG [oO 4 (mK (kI 5))]
def q41_12 : LReg := rG [oO 46 (lA 3 2),oO 47 (cA 11 [46]),oO 48 (bK .gtr 47 120)]
def q41_13 : LReg := rG [oO 4 (mK (kI 3))]
def q41_14 : LReg := rG [oO 4 (mK (kI 0))]
def Tryz.l_textpatch_hunk : LCode := (.seq (.reg q41_0) (.seq (.seq (.reg q41_1) (.cond (.t 15) (.seq (.reg q41_2) .ret) .skip)) (.seq (.seq (.reg q41_3) (.block 0 (.loop (.seq (.reg q41_4) (.seq (.cond (.t 22) .skip (.exit 0)) (.seq (.block 1 (.seq (.reg q41_5) (.seq (.reg q41_6) (.seq (.reg q41_7) (.cond (.t 28) (.seq (.reg q41_8) .ret) .skip))))) (.reg q41_9))))))) (.seq (.seq (.reg q41_10) (.cond (.t 45) (.seq (.reg q41_11) .ret) .skip)) (.seq (.seq (.reg q41_12) (.cond (.t 48) (.seq (.reg q41_13) .ret) .skip)) (.seq (.reg q41_14) .ret))))))
theorem Tryz.c_textpatch_hunk : fnComp Tryz.prog 41 = some (49, Tryz.l_textpatch_hunk,[.t 4]) := by kernel_rfl
def q22_0 : LReg := rG [oO 1 (.box 30 1 (.t 0)),oO 2 (.alloc 25 2 [.int .i64 0,.int .i64 0])]
def q22_1 : LReg := rG [oO 7 (fA 0 1),oO 8 (lV 1 7),oO 9 (lN 8),oO 10 (bK .gtr 9 130)]
def q22_2 : LReg := rG [oO 11 (.build [.int .i64 0,.int .i64 0] [(0,1,(kI 2)),(1,1,(kI (-1)))]),oX (sT 2 2 11)]
def q22_3 : LReg := rG [oO 3 (mK (kI (-1)))]
def q22_4 : LReg := rG [oO 12 (fA 0 1),oO 13 (lV 1 12),oO 14 (lN 13),oO 15 (mK (kI 0))]
def q22_5 : LReg := rG [oO 16 (bT .lss 15 14)]
def q22_6 : LReg := rG [oM 17 15,oO 18 (iX 3 13 15),oO 19 (lA 3 18),oO 5 (.alloc 45 3 [.int .i64 0,.nils,.nils]),oM 4 17,oX (sT 3 5 19)]
def q22_7 : LReg := rG [oO 20 (lA 3 5),oM 21 3,oO 22 (cA 41 [20,21]),oM 6 22]
def q22_8 : LReg := rG [oM 23 6,oO 24 (bK .neq 23 0)]
def q22_9 : LReg := rG [oM 25 6,oM 26 4,oO 27 (.build [.int .i64 0,.int .i64 0] [(0,1,(.t 25)),(1,1,(.t 26))]),oX (sT 2 2 27)]
def q22_10 : LReg := rG [oO 28 (lA 3 5),oO 29 (cA 11 [28]),oM 3 29]
def q22_11 : LReg := rG [oO 30 (bK .add 15 1),oM 15 30]
def q22_12 : LReg := rG [oO 31 (.build [.int .i64 0,.int .i64 0] []),oX (sT 2 2 31)]
def Tryz.l_textpatch_Validate : LCode := (.seq (.reg q22_0) (.seq (.seq (.reg q22_1) (.cond (.t 10) (.seq (.reg q22_2) .ret) .skip)) (.seq (.reg q22_3) (.seq (.seq (.reg q22_4) (.block 0 (.loop (.seq (.reg q22_5) (.seq (.cond (.t 16) .skip (.exit 0)) (.seq (.block 1 (.seq (.reg q22_6) (.seq (.seq (.reg q22_7) (.seq (.reg q22_8) (.cond (.t 24) (.seq (.reg q22_9) .ret) .skip))) (.reg q22_10)))) (.reg q22_11))))))) (.seq (.reg q22_12) .ret)))))
theorem Tryz.c_textpatch_Validate : fnComp Tryz.prog 22 = some (32, Tryz.l_textpatch_Validate,[.cell 2 2 true]) := by kernel_rfl
def q23_0 : LReg := rG [oO 4 (.alloc 25 2 [.int .i64 0,.int .i64 0])]
def q23_1 : LReg := rG [oM 6 0,oO 7 (cA 42 [6]),oO 5 (.alloc 25 2 [.int .i64 0,.int .i64 0]),oX (sT 2 5 7)]
def q23_2 : LReg := rG [oO 8 (lA 2 5),oO 9 (.build [.int .i64 0,.int .i64 0] []),oO 10 (.eqs true [0,0] (.t 8) (.t 9))]
def q23_3 : LReg := rG [oO 11 (fA 0 5),oO 12 (lV 1 11),oM 13 1,oO 14 (.build [.int .i64 0,.int .i64 0] [(0,1,(.t 12)),(1,1,(.t 13))]),oX (sT 2 4 14)]
def q23_4 : LReg := rG [oO 15 (.build [.int .i64 0,.int .i64 0] []),oX (sT 2 4 15)]
def Tryz.l_lines_Second : LCode := (.seq (.reg q23_0) (.seq (.seq (.reg q23_1) (.seq (.reg q23_2) (.cond (.t 10) (.seq (.reg q23_3) .ret) .skip))) (.seq (.reg q23_4) .ret)))
theorem Tryz.c_lines_Second : fnComp Tryz.prog 23 = some (16, Tryz.l_lines_Second,[.cell 4 2 true]) := by kernel_rfl
def q43_0 : LReg := rG [oO 4 (mK (kB false))]
def q43_1 : LReg := rG [oM 6 0,oO 7 (lN 6),oM 8 1,oO 9 (lN 8),oO 10 (bT .neq 7 9)]
def q43_2 : LReg := rG [oO 4 (mK (kB false))]
def q43_3 : LReg := rG [oM 11 0,oO 12 (lN 11),oO 13 (mK (kI 0))]
def q43_4 : LReg := rG [oO 14 (bT .lss 13 12)]
def q43_5 : LReg := rG [oM 15 13,oM 5 15]
def q43_6 : LReg := ⟨[oM 16 0,oM 17 5,oO 18 (iX 1 16 17),oO 19 (lV 1 18),oM 20 1,oM 21 5,oO 22 (iX 1 20 21),oO 23 (lV 1 22),oO 24 (bT .neq 19 23)],true,[(2,6),(3,6),(2,7),(3,7)]⟩
def q43_7 : LReg := rG [oO 4 (mK (kB false))]
def q43_8 : LReg := rG [oO 25 (bK .add 13 1),oM 13 25]
def q43_9 : LReg := rG [oO 4 (mK (kB true))]
def Tryz.l_slices_Equal_string : LCode := (.seq (.reg q43_0) (.seq (.seq (.reg q43_1) (.cond (.t 10) (.seq (.reg q43_2) .ret) .skip)) (.seq (.seq (.reg q43_3) (.block 0 (.loop (.seq (.reg q43_4) (.seq (.cond (.t 14) .skip (.exit 0)) (.seq (.block 1 (.seq (.reg q43_5) (.seq (.reg q43_6) (.cond (.t 24) (.seq (.reg q43_7) .ret) .skip)))) (.reg q43_8))))))) (.seq (.reg q43_9) .ret))))
theorem Tryz.c_slices_Equal_string : fnComp Tryz.prog 43 = some (26, Tryz.l_slices_Equal_string,[.t 4]) := by kernel_rfl
def q24_0 : LReg := rG [oO 6 (mK (kB false))]
def q24_1 : LReg := rG [oM 7 2,oO 8 (bK .geq 7 0),oM 9 8,oT 10 9 (.mv (.t 2)),oT 11 9 (.mv (.t 0)),oT 12 9 (lN 11),oT 13 9 (bT .leq 10 12),oO 14 (pK 9 13 (kB false)),oM 15 14,oT 16 15 (.mv (.t 1)),oT 17 15 (lN 16),oT 18 15 (.mv (.t 0)),oT 19 15 (lN 18),oT 20 15 (.mv (.t 2)),oT 21 15 (bT .sub 19 20),oT 22 15 (bT .leq 17 21),oO 23 (pK 15 22 (kB false)),oM 24 23,oT 25 24 (.mv (.t 0)),oT 26 24 (.mv (.t 2)),oT 27 24 (.mv (.t 2)),oT 28 24 (.mv (.t 1)),oT 29 24 (lN 28),oT 30 24 (bT .add 27 29),oT 31 24 (.slice 1 (.t 25) (some (.t 26)) (some (.t 30))),oT 32 24 (.mv (.t 1)),oT 33 24 (cA 43 [31,32]),oO 34 (pK 24 33 (kB false)),oM 6 34]
def Tryz.l_lines_Occurs : LCode := (.seq (.reg q24_0) (.seq (.reg q24_1) .ret))
theorem Tryz.c_lines_Occurs : fnComp Tryz.prog 24 = some (35, Tryz.l_lines_Occurs,[.t 6]) := by kernel_rfl
def q25_0 : LReg := rG [oO 8 (mK (.c (.nils)))]
def q25_1 : LReg := rG [oO 9 (mK (.c (.nils)))]
def q25_2 : LReg := rG [oM 12 0,oO 13 (lN 12),oO 14 (mK (kI 0))]
def q25_3 : LReg := rG [oO 15 (bT .lss 14 13)]
def q25_4 : LReg := rG [oO 16 (iX 3 12 14),oO 17 (lA 3 16),oO 11 (.alloc 45 3 [.int .i64 0,.nils,.nils]),oX (sT 3 11 17)]
def q25_5 : LReg := ⟨[oM 18 9,oM 19 1,oM 20 2,oO 21 (fA 0 11),oO 22 (lV 1 21),oO 23 (.slice 1 (.t 19) (some (.t 20)) (some (.t 22))),oO 24 (.append 9 1 16 (.t 18) (.t 23)),oO 25 (fA 2 11),oO 26 (lV 1 25),oO 27 (.append 9 1 16 (.t 24) (.t 26)),oM 9 27],true,[(3,7),(4,7),(5,7),(6,7),(3,8),(4,8),(5,8),(6,8)]⟩
def q25_6 : LReg := rG [oO 28 (lA 3 11),oO 29 (cA 11 [28]),oM 2 29]
def q25_7 : LReg := rG [oO 30 (bK .add 14 1),oM 14 30]
def q25_8 : LReg := rG [oM 31 9,oM 32 1,oM 33 2,oM 34 3,oO 35 (.slice 1 (.t 32) (some (.t 33)) (some (.t 34))),oO 36 (.append 9 1 16 (.t 31) (.t 35)),oM 8 36]
def Tryz.l_textpatch_Raw : LCode := (.seq (.reg q25_0) (.seq (.reg q25_1) (.seq (.seq (.reg q25_2) (.block 0 (.loop (.seq (.reg q25_3) (.seq (.cond (.t 15) .skip (.exit 0)) (.seq (.block 1 (.seq (.reg q25_4) (.seq (.reg q25_5) (.reg q25_6)))) (.reg q25_7))))))) (.seq (.reg q25_8) .ret))))
theorem Tryz.c_textpatch_Raw : fnComp Tryz.prog 25 = some (37, Tryz.l_textpatch_Raw,[.t 8]) := by kernel_rfl
def q7_0 : LReg := rG [oO 2 (.box 30 1 (.t 0)),oO 4 (mK (.c (.nils))),oO 5 (.alloc 25 2 [.int .i64 0,.int .i64 0])]
def q7_1 : LReg := rG [oO 11 (lA 1 2),oO 12 (cA 22 [11]),oO 6 (.alloc 25 2 [.int .i64 0,.int .i64 0]),oX (sT 2 6 12)]
def q7_2 : LReg := rG [oO 13 (lA 2 6),oO 14 (.build [.int .i64 0,.int .i64 0] []),oO 15 (.eqs true [0,0] (.t 13) (.t 14))]
def q7_3 : LReg := ⟨[oO 16 (lA 2 6),oO 4 (mK (.c (.nils))),oX (sT 2 5 16)],true,[]⟩
def q7_4 : LReg := rG [oM 17 1,oO 18 (.call 23 [(.t 17),(kI (-2))]),oO 7 (.alloc 25 2 [.int .i64 0,.int .i64 0]),oX (sT 2 7 18)]
def q7_5 : LReg := rG [oO 19 (lA 2 7),oO 20 (.build [.int .i64 0,.int .i64 0] []),oO 21 (.eqs true [0,0] (.t 19) (.t 20))]
def q7_6 : LReg := ⟨[oO 22 (lA 2 7),oO 4 (mK (.c (.nils))),oX (sT 2 5 22)],true,[]⟩
def q7_7 : LReg := rG [oO 23 (fA 0 2),oO 24 (lV 1 23),oO 25 (lN 24),oO 26 (mK (kI 0))]
def q7_8 : LReg := rG [oO 27 (bT .lss 26 25)]
def q7_9 : LReg := rG [oM 28 26,oO 29 (iX 3 24 26),oO 30 (lA 3 29),oO 9 (.alloc 45 3 [.int .i64 0,.nils,.nils]),oM 8 28,oX (sT 3 9 30)]
def q7_10 : LReg := rG [oM 31 1,oO 32 (fA 1 9),oO 33 (lV 1 32),oO 34 (fA 0 9),oO 35 (lV 1 34),oO 36 (cA 24 [31,33,35]),oO 37 (.un .not (.t 36))]
def q7_11 : LReg := rG [oM 38 8,oO 39 (.build [.int .i64 0,.int .i64 0] [(0,1,(kI 19)),(1,1,(.t 38))]),oO 4 (mK (.c (.nils))),oX (sT 2 5 39)]
def q7_12 : LReg := rG [oO 40 (bK .add 26 1),oM 26 40]
def q7_13 : LReg := rG [oO 41 (fA 0 2),oO 42 (lV 1 41),oM 43 1,oM 44 1,oO 45 (lN 44),oO 46 (.call 25 [(.t 42),(.t 43),(kI 0),(.t 45)]),oM 10 46]
def q7_14 : LReg := rG [oM 47 10,oO 48 (lN 47),oO 49 (bK .gtr 48 120)]
def q7_15 : LReg := rG [oO 50 (.build [.int .i64 0,.int .i64 0] [(0,1,(kI 10)),(1,1,(kI (-1)))]),oO 4 (mK (.c (.nils))),oX (sT 2 5 50)]
def q7_16 : LReg := rG [oM 51 10,oO 52 (.build [.int .i64 0,.int .i64 0] []),oM 4 51,oX (sT 2 5 52)]
def Tryz.l_textpatch_Apply : LCode := (.seq (.reg q7_0) (.seq (.seq (.reg q7_1) (.seq (.reg q7_2) (.cond (.t 15) (.seq (.reg q7_3) .ret) .skip))) (.seq (.seq (.reg q7_4) (.seq (.reg q7_5) (.cond (.t 21) (.seq (.reg q7_6) .ret) .skip))) (.seq (.seq (.reg q7_7) (.block 0 (.loop (.seq (.reg q7_8) (.seq (.cond (.t 27) .skip (.exit 0)) (.seq (.block 1 (.seq (.reg q7_9) (.seq (.reg q7_10) (.cond (.t 37) (.seq (.reg q7_11) .ret) .skip)))) (.reg q7_12))))))) (.seq (.reg q7_13) (.seq (.seq (.reg q7_14) (.cond (.t 49) (.seq (.reg q7_15) .ret) .skip)) (.seq (.reg q7_16) .ret)))))))
theorem Tryz.c_textpatch_Apply : fnComp Tryz.prog 7 = some (53, Tryz.l_textpatch_Apply,[.t 4,.cell 5 2 true]) := by kernel_rfl
def q28_0 : LReg := rG [oO 1 (.box 45 3 (.t 0)),oO 2 (mK (kI 0))]
def q28_1 : LReg := rG [oO 3 (fA 2 1),oO 4 (lV 1 3),oO 5 (lN 4),oO 6 (fA 1 1),oO 7 (lV 1 6),oO 8 (lN 7),oO 9 (bT .sub 5 8),oM 2 9]
def Tryz.l_textpatch_Growth : LCode := (.seq (.reg q28_0) (.seq (.reg q28_1) .ret))
theorem Tryz.c_textpatch_Growth : fnComp Tryz.prog 28 = some (10, Tryz.l_textpatch_Growth,[.t 2]) := by kernel_rfl
def q30_0 : LReg := rG [oM 6 2,oO 7 (bK .gtr 6 0)]
def q30_1 : LReg := rG [oM 8 1,oO 9 (bK .add 8 1),oM 1 9]
def q30_2 : LReg := rG [oM 10 0,oM 11 1,oO 12 (cA 45 [11]),oO 13 (.bin .add (.t 12) (.c (.str [44]))),oM 14 2,oO 15 (cA 45 [14]),oO 16 (bT .add 13 15),oO 17 (cA 29 [10,16])]
def Tryz.l_unified_side : LCode := (.seq (.seq (.reg q30_0) (.cond (.t 7) (.reg q30_1) .skip)) (.reg q30_2))
theorem Tryz.c_unified_side : fnComp Tryz.prog 30 = some (18, Tryz.l_unified_side,[]) := by kernel_rfl
def q31_0 : LReg := rG [oM 8 2,oO 9 (lN 8),oO 10 (mK (kI 0))]
def q31_1 : LReg := rG [oO 11 (bT .lss 10 9)]
def q31_2 : LReg := rG [oO 12 (iX 1 8 10),oO 13 (lV 1 12),oM 7 13]
def q31_3 : LReg := rG [oM 14 0,oM 15 1,oO 16 (cA 46 [14,15])]
def q31_4 : LReg := rG [oM 17 0,oM 18 7,oO 19 (cA 29 [17,18])]
def q31_5 : LReg := rG [oM 20 0,oO 21 (.call 46 [(.t 20),(.c (.int .u8 10))])]
def q31_6 : LReg := rG [oO 22 (bK .add 10 1),oM 10 22]
def Tryz.l_unified_prefixed : LCode := (.seq (.reg q31_0) (.block 0 (.loop (.seq (.reg q31_1) (.seq (.cond (.t 11) .skip (.exit 0)) (.seq (.block 1 (.seq (.reg q31_2) (.seq (.reg q31_3) (.seq (.reg q31_4) (.reg q31_5))))) (.reg q31_6)))))))
theorem Tryz.c_unified_prefixed : fnComp Tryz.prog 31 = some (23, Tryz.l_unified_prefixed,[]) := by kernel_rfl
def q12_0 : LReg := rG [oO 10 (mK (kI 0))]
def q12_1 : LReg := rG [oM 19 2,oO 20 (.idx 3 (.t 19) (kI 0)),oO 21 (fA 0 20),oO 22 (lV 1 21),oM 23 3,oO 24 (bT .sub 22 23),oO 25 (.mx (.t 24) (kI 0)),oM 11 25]
def q12_2 : LReg := rG [oM 26 2,oM 27 2,oO 28 (lN 27),oO 29 (bK .sub 28 1),oO 30 (iX 3 26 29),oO 31 (lA 3 30),oO 32 (cA 11 [31]),oM 33 3,oO 34 (bT .add 32 33),oM 35 1,oO 36 (lN 35),oO 37 (.mn (.t 34) (.t 36)),oM 12 37]
def q12_3 : LReg := rG [oO 13 (mK (kI 0))]
def q12_4 : LReg := rG [oM 38 2,oO 39 (lN 38),oO 40 (mK (kI 0))]
def q12_5 : LReg := rG [oO 41 (bT .lss 40 39)]
def q12_6 : LReg := rG [oO 42 (iX 3 38 40),oO 43 (lA 3 42),oO 15 (.alloc 45 3 [.int .i64 0,.nils,.nils]),oX (sT 3 15 43)]
def q12_7 : LReg := rG [oM 44 13,oO 45 (lA 3 15),oO 46 (cA 28 [45]),oO 47 (bT .add 44 46),oM 13 47]
def q12_8 : LReg := rG [oO 48 (bK .add 40 1),oM 40 48]
def q12_9 : LReg := rG [oM 49 0,oO 50 (.call 29 [(.t 49),(.c (.str [64,64,32,45]))])]
def q12_10 : LReg := rG [oM 51 0,oM 52 11,oM 53 12,oM 54 11,oO 55 (bT .sub 53 54),oO 56 (cA 30 [51,52,55])]
def q12_11 : LReg := rG [oM 57 0,oO 58 (.call 29 [(.t 57),(.c (.str [32,43]))])]
def q12_12 : LReg := rG [oM 59 0,oM 60 11,oM 61 4,oO 62 (bT .add 60 61),oM 63 12,oM 64 11,oO 65 (bT .sub 63 64),oM 66 13,oO 67 (bT .add 65 66),oO 68 (cA 30 [59,62,67])]
def q12_13 : LReg := rG [oM 69 0,oO 70 (.call 29 [(.t 69),(.c (.str [32,64,64,10]))])]
def q12_14 : LReg := rG [oM 71 11,oM 16 71]
def q12_15 : LReg := rG [oM 72 2,oO 73 (lN 72),oO 74 (mK (kI 0))]
def q12_16 : LReg := rG [oO 75 (bT .lss 74 73)]
def q12_17 : LReg := rG [oO 76 (iX 3 72 74),oO 77 (lA 3 76),oO 18 (.alloc 45 3 [.int .i64 0,.nils,.nils]),oX (sT 3 18 77)]
def q12_18 : LReg := rG [oM 78 0,oM 79 1,oM 80 16,oO 81 (fA 0 18),oO 82 (lV 1 81),oO 83 (.slice 1 (.t 79) (some (.t 80)) (some (.t 82))),oO 84 (.call 31 [(.t 78),(.c (.int .u8 32)),(.t 83)])]
def q12_19 : LReg := rG [oM 85 0,oO 86 (fA 1 18),oO 87 (lV 1 86),oO 88 (.call 31 [(.t 85),(.c (.int .u8 45)),(.t 87)])]
def q12_20 : LReg := rG [oM 89 0,oO 90 (fA 2 18),oO 91 (lV 1 90),oO 92 (.call 31 [(.t 89),(.c (.int .u8 43)),(.t 91)])]
def q12_21 : LReg := rG [oO 93 (lA 3 18),oO 94 (cA 11 [93]),oM 16 94]
def q12_22 : LReg := rG [oO 95 (bK .add 74 1),oM 74 95]
def q12_23 : LReg := rG [oM 96 0,oM 97 1,oM 98 16,oM 99 12,oO 100 (.slice 1 (.t 97) (some (.t 98)) (some (.t 99))),oO 101 (.call 31 [(.t 96),(.c (.int .u8 32)),(.t 100)])]
def q12_24 : LReg := rG [oM 102 4,oM 103 13,oO 104 (bT .add 102 103),oM 10 104]
def Tryz.l_unified_group : LCode := (.seq (.reg q12_0) (.seq (.reg q12_1) (.seq (.reg q12_2) (.seq (.reg q12_3) (.seq (.seq (.reg q12_4) (.block 0 (.loop (.seq (.reg q12_5) (.seq (.cond (.t 41) .skip (.exit 0)) (.seq (.block 1 (.seq (.reg q12_6) (.reg q12_7))) (.reg q12_8))))))) (.seq (.reg q12_9) (.seq (.reg q12_10) (.seq (.reg q12_11) (.seq (.reg q12_12) (.seq (.reg q12_13) (.seq (.reg q12_14) (.seq (.seq (.reg q12_15) (.block 2 (.loop (.seq (.reg q12_16) (.seq (.cond (.t 75) .skip (.exit 2)) (.seq (.block 3 (.seq (.reg q12_17) (.seq (.reg q12_18) (.seq (.reg q12_19) (.seq (.reg q12_20) (.reg q12_21)))))) (.reg q12_22))))))) (.seq (.reg q12_23) (.seq (.reg q12_24) .ret))))))))))))))
theorem Tryz.c_unified_group : fnComp Tryz.prog 12 = some (105, Tryz.l_unified_group,[.t 10]) := by kernel_rfl
def q4_0 : LReg := rG [oO 4 (.box 30 1 (.t 1)),oO 6 (mK (.c (.str []))),oO 7 (.alloc 25 2 [.int .i64 0,.int .i64 0])]
def q4_1 : LReg := rG [oO 15 (lA 1 4),oM 16 0,oO 17 (cA 7 [15,16]),oM 14 17,oO 18 (eX 0 14),oO 19 (eX 1 14),oO 9 (.alloc 25 2 [.int .i64 0,.int .i64 0]),oM 8 18,oX (sT 2 9 19)]
def q4_2 : LReg := rG [oO 20 (lA 2 9),oO 21 (.build [.int .i64 0,.int .i64 0] []),oO 22 (.eqs true [0,0] (.t 20) (.t 21))]
def q4_3 : LReg := ⟨[oO 23 (lA 2 9),oO 6 (mK (.c (.str []))),oX (sT 2 7 23)],true,[]⟩
def q4_4 : LReg := rG [oM 24 2,oO 25 (bK .lss 24 0),oM 26 25,oF 27 26 (.mv (.t 2)),oF 28 26 (bK .gtr 27 120),oO 29 (pL 26 (kB true) 28)]
def q4_5 : LReg := rG [oO 30 (.build [.int .i64 0,.int .i64 0] [(0,1,(kI 3)),(1,1,(kI (-3)))]),oO 6 (mK (.c (.str []))),oX (sT 2 7 30)]
def q4_6 : LReg := rG [oO 10 (.alloc 43 2 [.pnil,.nils])]
def q4_7 : LReg := rG [oO 11 (mK (kI 0))]
def q4_8 : LReg := rG [oO 12 (mK (kI 0))]
def q4_9 : LReg := rG [oM 31 12,oO 32 (fA 0 4),oO 33 (lV 1 32),oO 34 (lN 33),oO 35 (bT .lss 31 34)]
def q4_10 : LReg := rG [oM 36 12,oO 37 (bK .add 36 1),oM 13 37]
def q4_11 : LReg := ⟨[oM 38 13,oO 39 (fA 0 4),oO 40 (lV 1 39),oO 41 (lN 40),oO 42 (bT .lss 38 41),oM 43 42,oT 44 43 (fA 0 4),oT 45 43 (lV 1 44),oT 46 43 (.mv (.t 13)),oT 47 43 (iX 3 45 46),oT 48 43 (fA 0 47),oT 49 43 (lV 1 48),oT 50 43 (fA 0 4),oT 51 43 (lV 1 50),oT 52 43 (.mv (.t 13)),oT 53 43 (bK .sub 52 1),oT 54 43 (iX 3 51 53),oT 55 43 (lA 3 54),oT 56 43 (cA 11 [55]),oT 57 43 (bT .sub 49 56),oT 58 43 (.mv (.t 2)),oT 59 43 (.bin .mul (kI 2) (.t 58)),oT 60 43 (bT .leq 57 59),oO 61 (pK 43 60 (kB false))],true,[(6,12),(7,12),(9,12),(10,12),(11,12),(6,13),(7,13),(9,13),(10,13),(11,13),(6,16),(7,16),(9,16),(10,16),(11,16),(6,17),(7,17),(9,17),(10,17),(11,17),(6,18),(7,18),(8,18),(9,18),(10,18),(11,18)]⟩
def q4_12 : LReg := rG [oM 62 13,oO 63 (bK .add 62 1),oM 13 63]
def q4_13 : LReg := rG [oM 64 0,oO 65 (fA 0 4),oO 66 (lV 1 65),oM 67 12,oM 68 13,oO 69 (.slice 3 (.t 66) (some (.t 67)) (some (.t 68))),oM 70 2,oM 71 11,oO 72 (cA 12 [10,64,69,70,71]),oM 11 72]
def q4_14 : LReg := rG [oM 73 13,oM 12 73]
def q4_15 : LReg := rG [oO 74 (cA 13 [10]),oO 75 (bK .gtr 74 4096)]
def q4_16 : LReg := rG [oO 76 (.build [.int .i64 0,.int .i64 0] [(0,1,(kI 10)),(1,1,(kI (-1)))]),oO 6 (mK (.c (.str []))),oX (sT 2 7 76)]
def q4_17 : LReg := rG [oO 77 (cA 14 [10]),oO 78 (.build [.int .i64 0,.int .i64 0] []),oM 6 77,oX (sT 2 7 78)]
def Tryz.l_unified_Format : LCode := (.seq (.reg q4_0) (.seq (.seq (.reg q4_1) (.seq (.reg q4_2) (.cond (.t 22) (.seq (.reg q4_3) .ret) .skip))) (.seq (.seq (.reg q4_4) (.cond (.t 29) (.seq (.reg q4_5) .ret) .skip)) (.seq (.reg q4_6) (.seq (.reg q4_7) (.seq (.seq (.reg q4_8) (.block 0 (.loop (.seq (.seq (.reg q4_9) (.cond (.t 35) .skip (.exit 0))) (.block 1 (.seq (.reg q4_10) (.seq (.block 2 (.loop (.seq (.seq (.reg q4_11) (.cond (.t 61) .skip (.exit 2))) (.block 3 (.reg q4_12))))) (.seq (.reg q4_13) (.reg q4_14))))))))) (.seq (.seq (.reg q4_15) (.cond (.t 75) (.seq (.reg q4_16) .ret) .skip)) (.seq (.reg q4_17) .ret))))))))
theorem Tryz.c_unified_Format : fnComp Tryz.prog 4 = some (79, Tryz.l_unified_Format,[.t 6,.cell 7 2 true]) := by kernel_rfl
def q10_0 : LReg := rG [oO 4 (mK (kB false))]
def q10_1 : LReg := rG [oM 6 0,oO 7 (lN 6),oM 8 1,oO 9 (lN 8),oO 10 (bT .neq 7 9)]
def q10_2 : LReg := rG [oO 4 (mK (kB false))]
def q10_3 : LReg := rG [oO 5 (mK (kI 0))]
def q10_4 : LReg := rG [oM 11 5,oM 12 0,oO 13 (lN 12),oO 14 (bT .lss 11 13)]
def q10_5 : LReg := ⟨[oM 17 0,oM 18 5,oO 19 (iX 1 17 18),oO 20 (lV 1 19),oM 21 1,oM 22 5,oO 23 (iX 1 21 22),oO 24 (lV 1 23),oO 25 (bT .neq 20 24)],true,[(2,6),(3,6),(2,7),(3,7)]⟩
def q10_6 : LReg := rG [oO 4 (mK (kB false))]
def q10_7 : LReg := rG [oM 15 5,oO 16 (bK .add 15 1),oM 5 16]
def q10_8 : LReg := rG [oO 4 (mK (kB true))]
def Tryz.l_equal_Strings : LCode := (.seq (.reg q10_0) (.seq (.seq (.reg q10_1) (.cond (.t 10) (.seq (.reg q10_2) .ret) .skip)) (.seq (.seq (.reg q10_3) (.block 0 (.loop (.seq (.seq (.reg q10_4) (.cond (.t 14) .skip (.exit 0))) (.seq (.block 1 (.seq (.reg q10_5) (.cond (.t 25) (.seq (.reg q10_6) .ret) .skip))) (.reg q10_7)))))) (.seq (.reg q10_8) .ret))))
theorem Tryz.c_equal_Strings : fnComp Tryz.prog 10 = some (26, Tryz.l_equal_Strings,[.t 4]) := by kernel_rfl
def q84_0 : LReg := rG [oO 4 (mK (kB false))]
def q84_1 : LReg := rG [oM 5 0,oO 6 (sN 5),oM 7 1,oO 8 (sN 7),oO 9 (bT .geq 6 8),oM 10 9,oT 11 10 (.mv (.t 0)),oT 12 10 (.mv (.t 1)),oT 13 10 (sN 12),oT 14 10 (.sslice (.t 11) none (some (.t 13))),oT 15 10 (.mv (.t 1)),oT 16 10 (bT .eql 14 15),oO 17 (pK 10 16 (kB false)),oM 4 17]
def Tryz.l_internal_stringslite_HasPrefix : LCode := (.seq (.reg q84_0) (.seq (.reg q84_1) .ret))
theorem Tryz.c_internal_stringslite_HasPrefix : fnComp Tryz.prog 84 = some (18, Tryz.l_internal_stringslite_HasPrefix,[.t 4]) := by kernel_rfl
def q78_0 : LReg := rG [oO 4 (mK (kB false))]
def q78_1 : LReg := rG [oM 5 0,oM 6 1,oO 7 (cA 84 [5,6]),oM 4 7]
def Tryz.l_strings_HasPrefix : LCode := (.seq (.reg q78_0) (.seq (.reg q78_1) .ret))
theorem Tryz.c_strings_HasPrefix : fnComp Tryz.prog 78 = some (8, Tryz.l_strings_HasPrefix,[.t 4]) := by kernel_rfl
def q64_0 : LReg := rG [oO 4 (mK (kB false))]
def q64_1 : LReg := rG [oM 5 0,oM 6 1,oO 7 (bT .eql 5 6),oM 8 7,oF 9 8 (.mv (.t 0)),oF 10 8 (.mv (.t 1)),oF 11 8 (.bin .add (.t 10) (.c (.str [47]))),oF 12 8 (cA 78 [9,11]),oO 13 (pL 8 (kB true) 12),oM 14 13,oF 15 14 (.mv (.t 1)),oF 16 14 (.mv (.t 0)),oF 17 14 (.bin .add (.t 16) (.c (.str [47]))),oF 18 14 (cA 78 [15,17]),oO 19 (pL 14 (kB true) 18),oM 4 19]
def Tryz.l_treepatch_Related : LCode := (.seq (.reg q64_0) (.seq (.reg q64_1) .ret))
theorem Tryz.c_treepatch_Related : fnComp Tryz.prog 64 = some (20, Tryz.l_treepatch_Related,[.t 4]) := by kernel_rfl
def q47_0 : LReg := rG [oO 1 (.box 88 5 (.t 0)),oO 2 (mK (kI 0))]
def q47_1 : LReg := ⟨[oO 6 (fA 0 1),oO 7 (lV 1 6),oO 8 (bK .eql 7 4),oO 9 (fA 0 1),oO 10 (lV 1 9),oO 11 (bK .eql 10 3),oM 3 8,oM 4 11],true,[(0,3),(1,3),(0,4),(1,4)]⟩
def q47_2 : LReg := rG [oO 13 (fA 0 1),oO 14 (lV 1 13),oO 15 (bK .lss 14 1),oM 16 15,oF 17 16 (fA 0 1),oF 18 16 (lV 1 17),oF 19 16 (bK .gtr 18 4),oO 20 (pL 16 (kB true) 19),oM 12 20]
def q47_3 : LReg := rG [oO 2 (mK (kI 4))]
def q47_4 : LReg := rG [oO 22 (fA 1 1),oO 23 (lV 1 22),oO 24 (cA 63 [23]),oO 25 (.un .not (.t 24)),oM 26 25,oF 27 26 (.mv (.t 4)),oF 28 26 (.mv (.t 27)),oT 29 28 (fA 2 1),oT 30 28 (lV 1 29),oT 31 28 (cA 63 [30]),oT 32 28 (.un .not (.t 31)),oF 33 26 (pK 28 32 (kB false)),oO 34 (pL 26 (kB true) 33),oM 21 34]
def q47_5 : LReg := rG [oO 2 (mK (kI 12))]
def q47_6 : LReg := rG [oM 36 4,oO 37 (.un .not (.t 36)),oM 38 37,oT 39 38 (fA 2 1),oT 40 38 (lV 1 39),oT 41 38 (.bin .neq (.t 40) (.c (.str []))),oO 42 (pK 38 41 (kB false)),oM 43 42,oF 44 43 (.mv (.t 4)),oF 45 43 (.mv (.t 44)),oT 46 45 (fA 1 1),oT 47 45 (lV 1 46),oT 48 45 (fA 2 1),oT 49 45 (lV 1 48),oT 50 45 (cA 64 [47,49]),oF 51 43 (pK 45 50 (kB false)),oO 52 (pL 43 (kB true) 51),oM 35 52]
def q47_7 : LReg := rG [oO 2 (mK (kI 5))]
def q47_8 : LReg := rG [oO 54 (fA 3 1),oO 55 (lV 1 54),oO 56 (lN 55),oO 57 (bK .gtr 56 0),oM 58 57,oT 59 58 (.mv (.t 3)),oT 60 58 (.mv (.t 59)),oF 61 60 (.mv (.t 4)),oT 62 58 (pL 60 (kB true) 61),oO 63 (pK 58 62 (kB false)),oM 53 63]
def q47_9 : LReg := rG [oO 2 (mK (kI 5))]
def q47_10 : LReg := rG [oM 65 3,oO 66 (fA 4 1),oO 67 (fA 0 66),oO 68 (lV 1 67),oO 69 (lN 68),oO 70 (bK .gtr 69 0),oO 71 (.eqb true (.t 65) (.t 70)),oM 64 71]
def q47_11 : LReg := rG [oO 2 (mK (kI 5))]
def q47_12 : LReg := rG [oO 72 (fA 3 1),oO 73 (lV 1 72),oO 74 (cA 42 [73]),oO 5 (.alloc 25 2 [.int .i64 0,.int .i64 0]),oX (sT 2 5 74)]
def q47_13 : LReg := rG [oO 75 (lA 2 5),oO 76 (.build [.int .i64 0,.int .i64 0] []),oO 77 (.eqs true [0,0] (.t 75) (.t 76))]
def q47_14 : LReg := rG [oO 78 (fA 0 5),oO 79 (lV 1 78),oM 2 79]
def q47_15 : LReg := rG [oO 80 (fA 4 1),oO 81 (lA 1 80),oO 82 (cA 22 [81]),oO 83 (.field 0 1 false (.t 82)),oM 2 83]
def Tryz.l_treepatch_check : LCode := (.seq (.reg q47_0) (.seq (.reg q47_1) (.seq (.block 0 (.seq (.reg q47_2) (.cond (.t 12) (.seq (.reg q47_3) .ret) (.seq (.reg q47_4) (.cond (.t 21) (.seq (.reg q47_5) .ret) (.seq (.reg q47_6) (.cond (.t 35) (.seq (.reg q47_7) .ret) (.seq (.reg q47_8) (.cond (.t 53) (.seq (.reg q47_9) .ret) (.seq (.reg q47_10) (.cond (.t 64) (.seq (.reg q47_11) .ret) .skip))))))))))) (.seq (.seq (.reg q47_12) (.seq (.reg q47_13) (.cond (.t 77) (.seq (.reg q47_14) .ret) .skip))) (.seq (.reg q47_15) .ret)))))
theorem Tryz.c_treepatch_check : fnComp Tryz.prog 47 = some (84, Tryz.l_treepatch_check,[.t 2]) := by kernel_rfl
def q32_0 : LReg := rG [oO 1 (.box 57 1 (.t 0)),oO 2 (.alloc 25 2 [.int .i64 0,.int .i64 0])]
def q32_1 : LReg := rG [oO 6 (fA 0 1),oO 7 (lV 1 6),oO 8 (lN 7),oO 9 (bK .gtr 8 30)]
def q32_2 : LReg := rG [oO 10 (.build [.int .i64 0,.int .i64 0] [(0,1,(kI 2)),(1,1,(kI (-1)))]),oX (sT 2 2 10)]
def q32_3 : LReg := rG [oO 11 (fA 0 1),oO 12 (lV 1 11),oO 13 (lN 12),oO 14 (mK (kI 0))]
def q32_4 : LReg := rG [oO 15 (bT .lss 14 13)]
def q32_5 : LReg := rG [oM 16 14,oO 17 (iX 5 12 14),oO 18 (lA 5 17),oO 4 (.alloc 88 5 [.int .i64 0,.str [],.str [],.nils,.nils]),oM 3 16,oX (sT 5 4 18)]
def q32_6 : LReg := rG [oO 19 (lA 5 4),oO 20 (cA 47 [19]),oM 5 20]
def q32_7 : LReg := rG [oM 21 5,oO 22 (bK .neq 21 0)]
def q32_8 : LReg := rG [oM 23 5,oM 24 3,oO 25 (.build [.int .i64 0,.int .i64 0] [(0,1,(.t 23)),(1,1,(.t 24))]),oX (sT 2 2 25)]
def q32_9 : LReg := rG [oO 26 (bK .add 14 1),oM 14 26]
def q32_10 : LReg := rG [oO 27 (.build [.int .i64 0,.int .i64 0] []),oX (sT 2 2 27)]
def Tryz.l_treepatch_ValidatePatch : LCode := (.seq (.reg q32_0) (.seq (.seq (.reg q32_1) (.cond (.t 9) (.seq (.reg q32_2) .ret) .skip)) (.seq (.seq (.reg q32_3) (.block 0 (.loop (.seq (.reg q32_4) (.seq (.cond (.t 15) .skip (.exit 0)) (.seq (.block 1 (.seq (.reg q32_5) (.seq (.reg q32_6) (.seq (.reg q32_7) (.cond (.t 22) (.seq (.reg q32_8) .ret) .skip))))) (.reg q32_9))))))) (.seq (.reg q32_10) .ret))))
theorem Tryz.c_treepatch_ValidatePatch : fnComp Tryz.prog 32 = some (28, Tryz.l_treepatch_ValidatePatch,[.cell 2 2 true]) := by kernel_rfl
def q51_0 : LReg := rG [oO 6 (mK (kB false))]
def q51_1 : LReg := rG [oM 9 0,oO 10 (lN 9),oO 11 (mK (kI 0))]
def q51_2 : LReg := rG [oO 12 (bT .lss 11 10)]
def q51_3 : LReg := rG [oM 13 11,oO 14 (iX 2 9 11),oO 15 (lA 2 14),oO 8 (.alloc 60 2 [.str [],.nils]),oM 7 13,oX (sT 2 8 15)]
def q51_4 : LReg := rG [oM 16 7,oM 17 2,oO 18 (bT .neq 16 17),oM 19 18,oT 20 19 (fA 0 8),oT 21 19 (lV 1 20),oT 22 19 (.mv (.t 1)),oT 23 19 (cA 64 [21,22]),oO 24 (pK 19 23 (kB false))]
def q51_5 : LReg := rG [oO 6 (mK (kB true))]
def q51_6 : LReg := rG [oO 25 (bK .add 11 1),oM 11 25]
def q51_7 : LReg := rG [oO 6 (mK (kB false))]
def Tryz.l_treepatch_Clash : LCode := (.seq (.reg q51_0) (.seq (.seq (.reg q51_1) (.block 0 (.loop (.seq (.reg q51_2) (.seq (.cond (.t 12) .skip (.exit 0)) (.seq (.block 1 (.seq (.reg q51_3) (.seq (.reg q51_4) (.cond (.t 24) (.seq (.reg q51_5) .ret) .skip)))) (.reg q51_6))))))) (.seq (.reg q51_7) .ret)))
theorem Tryz.c_treepatch_Clash : fnComp Tryz.prog 51 = some (26, Tryz.l_treepatch_Clash,[.t 6]) := by kernel_rfl
def q48_0 : LReg := rG [oO 1 (.box 52 1 (.t 0)),oO 2 (.alloc 25 2 [.int .i64 0,.int .i64 0])]
def q48_1 : LReg := rG [oO 6 (fA 0 1),oO 7 (lV 1 6),oO 8 (lN 7),oO 9 (bK .gtr 8 24)]
def q48_2 : LReg := rG [oO 10 (.build [.int .i64 0,.int .i64 0] [(0,1,(kI 2)),(1,1,(kI (-1)))]),oX (sT 2 2 10)]
def q48_3 : LReg := rG [oO 11 (fA 0 1),oO 12 (lV 1 11),oO 13 (lN 12),oO 14 (mK (kI 0))]
def q48_4 : LReg := rG [oO 15 (bT .lss 14 13)]
def q48_5 : LReg := rG [oM 16 14,oO 17 (iX 2 12 14),oO 18 (lA 2 17),oO 4 (.alloc 60 2 [.str [],.nils]),oM 3 16,oX (sT 2 4 18)]
def q48_6 : LReg := rG [oO 20 (fA 0 4),oO 21 (lV 1 20),oO 22 (cA 63 [21]),oO 23 (.un .not (.t 22)),oM 19 23]
def q48_7 : LReg := rG [oM 24 3,oO 25 (.build [.int .i64 0,.int .i64 0] [(0,1,(kI 12)),(1,1,(.t 24))]),oX (sT 2 2 25)]
def q48_8 : LReg := ⟨[oM 27 3,oO 28 (bK .gtr 27 0),oM 29 28,oT 30 29 (fA 0 4),oT 31 29 (lV 1 30),oT 32 29 (fA 0 1),oT 33 29 (lV 1 32),oT 34 29 (.mv (.t 3)),oT 35 29 (bK .sub 34 1),oT 36 29 (iX 2 33 35),oT 37 29 (fA 0 36),oT 38 29 (lV 1 37),oT 39 29 (bT .leq 31 38),oO 40 (pK 29 39 (kB false)),oM 26 40],true,[(3,5),(4,5),(3,6),(4,6),(3,9),(4,9),(3,10),(4,10),(3,11),(4,11)]⟩
def q48_9 : LReg := rG [oM 41 3,oO 42 (.build [.int .i64 0,.int .i64 0] [(0,1,(kI 5)),(1,1,(.t 41))]),oX (sT 2 2 42)]
def q48_10 : LReg := ⟨[oO 44 (fA 0 1),oO 45 (lV 1 44),oM 46 3,oO 47 (.slice 2 (.t 45) none (some (.t 46))),oO 48 (fA 0 4),oO 49 (lV 1 48),oO 50 (.call 51 [(.t 47),(.t 49),(kI (-1))]),oM 43 50],true,[(0,4),(1,4),(3,4),(0,5),(1,5),(3,5)]⟩
def q48_11 : LReg := rG [oM 51 3,oO 52 (.build [.int .i64 0,.int .i64 0] [(0,1,(kI 7)),(1,1,(.t 51))]),oX (sT 2 2 52)]
def q48_12 : LReg := rG [oO 53 (fA 1 4),oO 54 (lV 1 53),oM 55 3,oO 56 (cA 23 [54,55]),oO 5 (.alloc 25 2 [.int .i64 0,.int .i64 0]),oX (sT 2 5 56)]
def q48_13 : LReg := rG [oO 57 (lA 2 5),oO 58 (.build [.int .i64 0,.int .i64 0] []),oO 59 (.eqs true [0,0] (.t 57) (.t 58))]
def q48_14 : LReg := rG [oO 60 (lA 2 5),oX (sT 2 2 60)]
def q48_15 : LReg := rG [oO 61 (bK .add 14 1),oM 14 61]
def q48_16 : LReg := rG [oO 62 (.build [.int .i64 0,.int .i64 0] []),oX (sT 2 2 62)]
def Tryz.l_treepatch_Validate : LCode := (.seq (.reg q48_0) (.seq (.seq (.reg q48_1) (.cond (.t 9) (.seq (.reg q48_2) .ret) .skip)) (.seq (.seq (.reg q48_3) (.block 0 (.loop (.seq (.reg q48_4) (.seq (.cond (.t 15) .skip (.exit 0)) (.seq (.block 1 (.seq (.reg q48_5) (.seq (.block 2 (.seq (.reg q48_6) (.cond (.t 19) (.seq (.reg q48_7) .ret) (.seq (.reg q48_8) (.cond (.t 26) (.seq (.reg q48_9) .ret) (.seq (.reg q48_10) (.cond (.t 43) (.seq (.reg q48_11) .ret) .skip))))))) (.seq (.reg q48_12) (.seq (.reg q48_13) (.cond (.t 59) (.seq (.reg q48_14) .ret) .skip)))))) (.reg q48_15))))))) (.seq (.reg q48_16) .ret))))
theorem Tryz.c_treepatch_Validate : fnComp Tryz.prog 48 = some (63, Tryz.l_treepatch_Validate,[.cell 2 2 true]) := by kernel_rfl
def q33_0 : LReg := rG [oO 2 (.box 52 1 (.t 0)),oO 4 (.alloc 25 2 [.int .i64 0,.int .i64 0])]
def q33_1 : LReg := rG [oO 6 (lA 1 2),oO 7 (cA 48 [6]),oO 5 (.alloc 25 2 [.int .i64 0,.int .i64 0]),oX (sT 2 5 7)]
def q33_2 : LReg := rG [oO 8 (lA 2 5),oO 9 (.build [.int .i64 0,.int .i64 0] []),oO 10 (.eqs true [0,0] (.t 8) (.t 9))]
def q33_3 : LReg := rG [oO 11 (fA 0 5),oO 12 (lV 1 11),oM 13 1,oO 14 (.build [.int .i64 0,.int .i64 0] [(0,1,(.t 12)),(1,1,(.t 13))]),oX (sT 2 4 14)]
def q33_4 : LReg := rG [oO 15 (.build [.int .i64 0,.int .i64 0] []),oX (sT 2 4 15)]
def Tryz.l_treepatch_Second : LCode := (.seq (.reg q33_0) (.seq (.seq (.reg q33_1) (.seq (.reg q33_2) (.cond (.t 10) (.seq (.reg q33_3) .ret) .skip))) (.seq (.reg q33_4) .ret)))
theorem Tryz.c_treepatch_Second : fnComp Tryz.prog 33 = some (16, Tryz.l_treepatch_Second,[.cell 4 2 true]) := by kernel_rfl
def q49_0 : LReg := rG [oO 2 (mK (.c (.nils)))]
def q49_1 : LReg := rG [oM 3 0,oO 4 (.isnil false (.t 3))]
def q49_2 : LReg := rG [oO 2 (mK (.c (.nils)))]
def q49_3 : LReg := rG [oO 5 (.mkSlice 9 1 0 [.str []] []),oM 6 0,oO 7 (.append 9 1 16 (.t 5) (.t 6)),oM 2 7]
def Tryz.l_slices_Clone_string : LCode := (.seq (.reg q49_0) (.seq (.seq (.reg q49_1) (.cond (.t 4) (.seq (.reg q49_2) .ret) .skip)) (.seq (.reg q49_3) .ret)))
theorem Tryz.c_slices_Clone_string : fnComp Tryz.prog 49 = some (8, Tryz.l_slices_Clone_string,[.t 2]) := by kernel_rfl
def q34_0 : LReg := rG [oO 1 (.box 52 1 (.t 0)),oO 2 (.alloc 52 1 [.nils])]
def q34_1 : LReg := rG [oO 3 (.alloc 52 1 [.nils])]
def q34_2 : LReg := rG [oO 6 (fA 0 1),oO 7 (lV 1 6),oO 8 (lN 7),oO 9 (mK (kI 0))]
def q34_3 : LReg := rG [oO 10 (bT .lss 9 8)]
def q34_4 : LReg := rG [oO 11 (iX 2 7 9),oO 12 (lA 2 11),oO 5 (.alloc 60 2 [.str [],.nils]),oX (sT 2 5 12)]
def q34_5 : LReg := ⟨[oO 13 (fA 0 3),oO 14 (lV 1 13),oO 15 (fA 0 5),oO 16 (lV 1 15),oO 17 (fA 1 5),oO 18 (lV 1 17),oO 19 (cA 49 [18]),oO 20 (.build [.str [],.nils] [(0,1,(.t 16)),(1,1,(.t 19))]),oO 21 (.mkSlice 60 2 1 [.str [],.nils] [(0,(.t 20))]),oO 22 (.append 60 2 40 (.t 14) (.t 21)),oO 23 (fA 0 3),oX (sT 1 23 22)],true,[(0,2),(1,2),(0,3),(1,3),(0,4),(1,4),(2,4),(3,4),(0,5),(1,5),(2,5),(3,5),(0,6),(1,6),(2,6),(3,6),(0,8),(1,8)]⟩
def q34_6 : LReg := rG [oO 24 (bK .add 9 1),oM 9 24]
def q34_7 : LReg := rG [oO 25 (lA 1 3),oX (sT 1 2 25)]
def Tryz.l_treepatch_CopyTree : LCode := (.seq (.reg q34_0) (.seq (.reg q34_1) (.seq (.seq (.reg q34_2) (.block 0 (.loop (.seq (.reg q34_3) (.seq (.cond (.t 10) .skip (.exit 0)) (.seq (.block 1 (.seq (.reg q34_4) (.reg q34_5))) (.reg q34_6))))))) (.seq (.reg q34_7) .ret))))
theorem Tryz.c_treepatch_CopyTree : fnComp Tryz.prog 34 = some (26, Tryz.l_treepatch_CopyTree,[.cell 2 1 true]) := by kernel_rfl
def q65_0 : LReg := rG [oO 6 (mK (kI 0)),oO 7 (mK (kB false))]
def q65_1 : LReg := rG [oM 12 0,oO 13 (lN 12),oM 8 13]
def q65_2 : LReg := rG [oM 14 8,oO 9 (mK (kI 0)),oM 10 14]
def q65_3 : LReg := rG [oM 15 9,oM 16 10,oO 17 (bT .lss 15 16)]
def q65_4 : LReg := rG [oM 18 9,oM 19 10,oO 20 (bT .add 18 19),oO 21 (.conv .u64 (.t 20)),oO 22 (.bin .shr (.t 21) (.c (.int .u64 1))),oO 23 (.conv .i64 (.t 22)),oM 11 23]
def q65_5 : LReg := rG [oM 24 2,oM 25 0,oM 26 11,oO 27 (iX 2 25 26),oO 28 (lA 2 27),oM 29 1,oO 30 (.callv (.t 24) [(.t 28),(.t 29)]),oO 31 (bK .lss 30 0)]
def q65_6 : LReg := rG [oM 32 11,oO 33 (bK .add 32 1),oM 9 33]
def q65_7 : LReg := rG [oM 34 11,oM 10 34]
def q65_8 : LReg := rG [oM 35 9,oM 36 9,oM 37 8,oO 38 (bT .lss 36 37),oM 39 38,oT 40 39 (.mv (.t 2)),oT 41 39 (.mv (.t 0)),oT 42 39 (.mv (.t 9)),oT 43 39 (iX 2 41 42),oT 44 39 (lA 2 43),oT 45 39 (.mv (.t 1)),oT 46 39 (.callv (.t 40) [(.t 44),(.t 45)]),oT 47 39 (bK .eql 46 0),oO 48 (pK 39 47 (kB false)),oM 6 35,oM 7 48]
def Tryz.l_slices_BinarySearchFunc_api_File_api_File_string : LCode := (.seq (.reg q65_0) (.seq (.reg q65_1) (.seq (.reg q65_2) (.seq (.block 0 (.loop (.seq (.seq (.reg q65_3) (.cond (.t 17) .skip (.exit 0))) (.block 1 (.seq (.reg q65_4) (.seq (.reg q65_5) (.cond (.t 31) (.reg q65_6) (.reg q65_7)))))))) (.seq (.reg q65_8) .ret)))))
theorem Tryz.c_slices_BinarySearchFunc_api_File_api_File_string : fnComp Tryz.prog 65 = some (49, Tryz.l_slices_BinarySearchFunc_api_File_api_File_string,[.t 6,.t 7]) := by kernel_rfl
theorem Tryz.b_treepatch_Find_1 : bodied Tryz.prog 66 = true := by kernel_rfl
def q66_0 : LReg := rG [oO 2 (.box 60 2 (.t 0)),oO 4 (mK (kI 0))]
def q66_1 : LReg := rG [oO 5 (fA 0 2),oO 6 (lV 1 5),oM 7 1,oO 8 (cA 67 [6,7]),oM 4 8]
def Tryz.l_treepatch_Find_1 : LCode := (.seq (.reg q66_0) (.seq (.reg q66_1) .ret))
theorem Tryz.c_treepatch_Find_1 : fnComp Tryz.prog 66 = some (9, Tryz.l_treepatch_Find_1,[.t 4]) := by kernel_rfl
def q50_0 : LReg := rG [oO 4 (mK (kI 0)),oO 5 (mK (kB false))]
def q50_1 : LReg := rG [oM 6 0,oM 7 1,oO 8 (.call 65 [(.t 6),(.t 7),(.c (.fn 66 [] []))]),oO 9 (eX 0 8),oO 10 (eX 1 8),oM 4 9,oM 5 10]
def Tryz.l_treepatch_Find : LCode := (.seq (.reg q50_0) (.seq (.reg q50_1) .ret))
theorem Tryz.c_treepatch_Find : fnComp Tryz.prog 50 = some (11, Tryz.l_treepatch_Find,[.t 4,.t 5]) := by kernel_rfl
def q35_0 : LReg := rG [oO 2 (.box 88 5 (.t 0)),oO 4 (mK (kI 0))]
def q35_1 : LReg := ⟨[oM 11 1,oO 12 (.nilCheck (.t 11)),oO 13 (fA 0 12),oO 14 (lV 1 13),oO 15 (fA 1 2),oO 16 (lV 1 15),oO 17 (cA 50 [14,16]),oM 10 17,oO 18 (eX 0 10),oO 19 (eX 1 10),oM 5 18,oM 6 19],true,[(1,4),(2,4),(3,4),(1,5),(2,5),(3,5)]⟩
def q35_2 : LReg := rG [oO 21 (fA 0 2),oO 22 (lV 1 21),oO 23 (bK .eql 22 1),oM 20 23]
def q35_3 : LReg := ⟨[oM 24 1,oO 25 (.nilCheck (.t 24)),oO 26 (fA 0 25),oO 27 (lV 1 26),oO 28 (fA 1 2),oO 29 (lV 1 28),oO 30 (.call 51 [(.t 27),(.t 29),(kI (-1))])],true,[(1,4),(2,4),(3,4),(1,5),(2,5),(3,5)]⟩
def q35_4 : LReg := rG [oO 4 (mK (kI 7))]
def q35_5 : LReg := rG [oM 31 1,oO 32 (.nilCheck (.t 31)),oO 33 (fA 0 32),oO 34 (lV 1 33),oO 35 (lN 34),oO 36 (bK .geq 35 24)]
def q35_6 : LReg := rG [oO 4 (mK (kI 14))]
def q35_7 : LReg := rG [oM 37 1,oO 38 (fA 1 2),oO 39 (lV 1 38),oO 40 (fA 3 2),oO 41 (lV 1 40),oO 42 (cA 52 [37,39,41])]
def q35_8 : LReg := rG [oO 4 (mK (kI 0))]
def q35_9 : LReg := rG [oM 44 6,oO 45 (.un .not (.t 44)),oM 43 45]
def q35_10 : LReg := rG [oO 4 (mK (kI 6))]
def q35_11 : LReg := rG [oM 46 1,oO 47 (.nilCheck (.t 46)),oO 48 (fA 0 47),oO 49 (lV 1 48),oM 50 5,oO 51 (iX 2 49 50),oO 52 (fA 1 51),oO 53 (lV 1 52),oM 7 53]
def q35_12 : LReg := rG [oO 54 (fA 0 2),oO 55 (lV 1 54)]
def q35_13 : LReg := rG [oO 77 (bK .eql 55 2),oM 76 77]
def q35_14 : LReg := rG [oM 78 7,oO 79 (fA 3 2),oO 80 (lV 1 79),oO 81 (cA 43 [78,80]),oO 82 (.un .not (.t 81))]
def q35_15 : LReg := rG [oO 4 (mK (kI 19))]
def q35_16 : LReg := rG [oM 83 1,oM 84 1,oO 85 (.nilCheck (.t 84)),oO 86 (fA 0 85),oO 87 (lV 1 86),oM 88 5,oM 89 5,oO 90 (bK .add 89 1),oO 91 (cA 53 [87,88,90]),oO 92 (.nilCheck (.t 83)),oO 93 (fA 0 92),oX (sT 1 93 91)]
def q35_17 : LReg := rG [oO 95 (bK .eql 55 3),oM 94 95]
def q35_18 : LReg := ⟨[oM 96 1,oO 97 (.nilCheck (.t 96)),oO 98 (fA 0 97),oO 99 (lV 1 98),oO 100 (fA 2 2),oO 101 (lV 1 100),oM 102 5,oO 103 (cA 51 [99,101,102])],true,[(1,4),(2,4),(3,4),(1,5),(2,5),(3,5)]⟩
def q35_19 : LReg := rG [oO 4 (mK (kI 7))]
def q35_20 : LReg := rG [oM 104 1,oM 105 1,oO 106 (.nilCheck (.t 105)),oO 107 (fA 0 106),oO 108 (lV 1 107),oM 109 5,oM 110 5,oO 111 (bK .add 110 1),oO 112 (cA 53 [108,109,111]),oO 113 (.nilCheck (.t 104)),oO 114 (fA 0 113),oX (sT 1 114 112)]
def q35_21 : LReg := rG [oM 115 1,oO 116 (fA 2 2),oO 117 (lV 1 116),oM 118 7,oO 119 (cA 52 [115,117,118])]
def q35_22 : LReg := rG [oO 57 (fA 4 2),oO 58 (lA 1 57),oM 59 7,oO 60 (cA 7 [58,59]),oM 56 60,oO 61 (eX 0 56),oO 62 (eX 1 56),oO 9 (.alloc 25 2 [.int .i64 0,.int .i64 0]),oM 8 61,oX (sT 2 9 62)]
def q35_23 : LReg := rG [oO 63 (lA 2 9),oO 64 (.build [.int .i64 0,.int .i64 0] []),oO 65 (.eqs true [0,0] (.t 63) (.t 64))]
def q35_24 : LReg := rG [oO 66 (fA 0 9),oO 67 (lV 1 66),oM 4 67]
def q35_25 : LReg := rG [oM 68 1,oO 69 (.nilCheck (.t 68)),oO 70 (fA 0 69),oO 71 (lV 1 70),oM 72 5,oM 73 8,oO 74 (iX 2 71 72),oO 75 (fA 1 74),oX (sT 1 75 73)]
def q35_26 : LReg := rG [oO 4 (mK (kI 0))]
def Tryz.l_treepatch_make1 : LCode := (.seq (.reg q35_0) (.seq (.reg q35_1) (.seq (.block 0 (.seq (.reg q35_2) (.cond (.t 20) (.seq (.seq (.reg q35_3) (.cond (.t 30) (.seq (.reg q35_4) .ret) .skip)) (.seq (.seq (.reg q35_5) (.cond (.t 36) (.seq (.reg q35_6) .ret) .skip)) (.seq (.reg q35_7) (.seq (.reg q35_8) .ret)))) (.seq (.reg q35_9) (.cond (.t 43) (.seq (.reg q35_10) .ret) .skip))))) (.seq (.reg q35_11) (.seq (.seq (.reg q35_12) (.block 1 (.seq (.reg q35_13) (.cond (.t 76) (.seq (.seq (.reg q35_14) (.cond (.t 82) (.seq (.reg q35_15) .ret) .skip)) (.reg q35_16)) (.seq (.reg q35_17) (.cond (.t 94) (.seq (.seq (.reg q35_18) (.cond (.t 103) (.seq (.reg q35_19) .ret) .skip)) (.seq (.reg q35_20) (.reg q35_21))) (.seq (.reg q35_22) (.seq (.seq (.reg q35_23) (.cond (.t 65) (.seq (.reg q35_24) .ret) .skip)) (.reg q35_25))))))))) (.seq (.reg q35_26) .ret))))))
theorem Tryz.c_treepatch_make1 : fnComp Tryz.prog 35 = some (120, Tryz.l_treepatch_make1,[.t 4]) := by kernel_rfl
def q15_0 : LReg := rG [oO 2 (.box 57 1 (.t 0)),oO 3 (.box 52 1 (.t 1)),oO 4 (.alloc 52 1 [.nils]),oO 5 (.alloc 25 2 [.int .i64 0,.int .i64 0])]
def q15_1 : LReg := rG [oO 12 (lA 1 2),oO 13 (cA 32 [12]),oO 6 (.alloc 25 2 [.int .i64 0,.int .i64 0]),oX (sT 2 6 13)]
def q15_2 : LReg := rG [oO 14 (lA 2 6),oO 15 (.build [.int .i64 0,.int .i64 0] []),oO 16 (.eqs true [0,0] (.t 14) (.t 15))]
def q15_3 : LReg := ⟨[oO 17 (.build [.nils] []),oO 18 (lA 2 6),oX (sT 1 4 17),oX (sT 2 5 18)],true,[(1,2)]⟩
def q15_4 : LReg := rG [oO 19 (lA 1 3),oO 20 (.call 33 [(.t 19),(kI (-2))]),oO 7 (.alloc 25 2 [.int .i64 0,.int .i64 0]),oX (sT 2 7 20)]
def q15_5 : LReg := rG [oO 21 (lA 2 7),oO 22 (.build [.int .i64 0,.int .i64 0] []),oO 23 (.eqs true [0,0] (.t 21) (.t 22))]
def q15_6 : LReg := ⟨[oO 24 (.build [.nils] []),oO 25 (lA 2 7),oX (sT 1 4 24),oX (sT 2 5 25)],true,[(1,2)]⟩
def q15_7 : LReg := rG [oO 26 (lA 1 3),oO 27 (cA 34 [26]),oO 8 (.alloc 52 1 [.nils]),oX (sT 1 8 27)]
def q15_8 : LReg := rG [oO 28 (fA 0 2),oO 29 (lV 1 28),oO 30 (lN 29),oO 31 (mK (kI 0))]
def q15_9 : LReg := rG [oO 32 (bT .lss 31 30)]
def q15_10 : LReg := rG [oM 33 31,oO 34 (iX 5 29 31),oO 35 (lA 5 34),oO 10 (.alloc 88 5 [.int .i64 0,.str [],.str [],.nils,.nils]),oM 9 33,oX (sT 5 10 35)]
def q15_11 : LReg := rG [oO 36 (lA 5 10),oO 37 (cA 35 [36,8]),oM 11 37]
def q15_12 : LReg := rG [oM 38 11,oO 39 (bK .neq 38 0)]
def q15_13 : LReg := rG [oO 40 (.build [.nils] []),oM 41 11,oM 42 9,oO 43 (.build [.int .i64 0,.int .i64 0] [(0,1,(.t 41)),(1,1,(.t 42))]),oX (sT 1 4 40),oX (sT 2 5 43)]
def q15_14 : LReg := rG [oO 44 (bK .add 31 1),oM 31 44]
def q15_15 : LReg := rG [oO 45 (lA 1 8),oO 46 (.build [.int .i64 0,.int .i64 0] []),oX (sT 1 4 45),oX (sT 2 5 46)]
def Tryz.l_treepatch_Apply : LCode := (.seq (.reg q15_0) (.seq (.seq (.reg q15_1) (.seq (.reg q15_2) (.cond (.t 16) (.seq (.reg q15_3) .ret) .skip))) (.seq (.seq (.reg q15_4) (.seq (.reg q15_5) (.cond (.t 23) (.seq (.reg q15_6) .ret) .skip))) (.seq (.reg q15_7) (.seq (.seq (.reg q15_8) (.block 0 (.loop (.seq (.reg q15_9) (.seq (.cond (.t 32) .skip (.exit 0)) (.seq (.block 1 (.seq (.reg q15_10) (.seq (.reg q15_11) (.seq (.reg q15_12) (.cond (.t 39) (.seq (.reg q15_13) .ret) .skip))))) (.reg q15_14))))))) (.seq (.reg q15_15) .ret))))))
theorem Tryz.c_treepatch_Apply : fnComp Tryz.prog 15 = some (47, Tryz.l_treepatch_Apply,[.cell 4 1 true,.cell 5 2 true]) := by kernel_rfl
def q16_0 : LReg := rG [oO 3 (.box 30 1 (.t 1)),oO 4 (.alloc 57 1 [.nils])]
def q16_1 : LReg := rG [oM 5 0,oO 6 (lA 1 3),oO 7 (.build [.int .i64 0,.str [],.str [],.nils,.nils] [(0,1,(kI 4)),(1,1,(.t 5)),(4,1,(.t 6))]),oO 8 (.mkSlice 88 5 1 [.int .i64 0,.str [],.str [],.nils,.nils] [(0,(.t 7))]),oO 9 (.build [.nils] [(0,1,(.t 8))]),oX (sT 1 4 9)]
def Tryz.l_top_h11Edit : LCode := (.seq (.reg q16_0) (.seq (.reg q16_1) .ret))
theorem Tryz.c_top_h11Edit : fnComp Tryz.prog 16 = some (10, Tryz.l_top_h11Edit,[.cell 4 1 true]) := by kernel_rfl
def q17_0 : LReg := rG [oO 2 (.box 52 1 (.t 0)),oO 3 (.box 52 1 (.t 1)),oO 4 (mK (kB false))]
def q17_1 : LReg := rG [oO 6 (fA 0 2),oO 7 (lV 1 6),oO 8 (lN 7),oO 9 (fA 0 3),oO 10 (lV 1 9),oO 11 (lN 10),oO 12 (bT .neq 8 11)]
def q17_2 : LReg := rG [oO 4 (mK (kB false))]
def q17_3 : LReg := rG [oO 5 (mK (kI 0))]
def q17_4 : LReg := rG [oM 13 5,oO 14 (fA 0 2),oO 15 (lV 1 14),oO 16 (lN 15),oO 17 (bT .lss 13 16)]
def q17_5 : LReg := ⟨[oO 20 (fA 0 2),oO 21 (lV 1 20),oM 22 5,oO 23 (iX 2 21 22),oO 24 (fA 0 23),oO 25 (lV 1 24),oO 26 (fA 0 3),oO 27 (lV 1 26),oM 28 5,oO 29 (iX 2 27 28),oO 30 (fA 0 29),oO 31 (lV 1 30),oO 32 (bT .neq 25 31),oM 33 32,oF 34 33 (fA 0 2),oF 35 33 (lV 1 34),oF 36 33 (.mv (.t 5)),oF 37 33 (iX 2 35 36),oF 38 33 (fA 1 37),oF 39 33 (lV 1 38),oF 40 33 (fA 0 3),oF 41 33 (lV 1 40),oF 42 33 (.mv (.t 5)),oF 43 33 (iX 2 41 42),oF 44 33 (fA 1 43),oF 45 33 (lV 1 44),oF 46 33 (cA 10 [39,45]),oF 47 33 (.un .not (.t 46)),oO 48 (pL 33 (kB true) 47)],true,[(0,6),(1,6),(3,6),(4,6),(5,6),(0,7),(1,7),(3,7),(4,7),(5,7),(0,9),(1,9),(3,9),(4,9),(5,9),(0,10),(1,10),(3,10),(4,10),(5,10),(0,11),(1,11),(3,11),(4,11),(5,11),(14,20),(15,20),(17,20),(18,20),(19,20),(14,21),(15,21),(17,21),(18,21),(19,21),(14,23),(15,23),(17,23),(18,23),(19,23),(14,24),(15,24),(17,24),(18,24),(19,24),(14,25),(15,25),(17,25),(18,25),(19,25)]⟩
def q17_6 : LReg := rG [oO 4 (mK (kB false))]
def q17_7 : LReg := rG [oM 18 5,oO 19 (bK .add 18 1),oM 5 19]
def q17_8 : LReg := rG [oO 4 (mK (kB true))]
def Tryz.l_equal_Tree : LCode := (.seq (.reg q17_0) (.seq (.seq (.reg q17_1) (.cond (.t 12) (.seq (.reg q17_2) .ret) .skip)) (.seq (.seq (.reg q17_3) (.block 0 (.loop (.seq (.seq (.reg q17_4) (.cond (.t 17) .skip (.exit 0))) (.seq (.block 1 (.seq (.reg q17_5) (.cond (.t 48) (.seq (.reg q17_6) .ret) .skip))) (.reg q17_7)))))) (.seq (.reg q17_8) .ret))))
theorem Tryz.c_equal_Tree : fnComp Tryz.prog 17 = some (49, Tryz.l_equal_Tree,[.t 4]) := by kernel_rfl
def q5_0 : LReg := rG [oO 0 (mK (kB false))]
def q5_1 : LReg := rG [oO 6 (.mkSlice 9 1 1 [.str []] [(0,(.c (.str [97])))]),oO 7 (.mkSlice 9 1 1 [.str []] [(0,(.c (.str [98])))]),oO 8 (.build [.int .i64 0,.nils,.nils] [(0,1,(kI 0)),(1,1,(.t 6)),(2,1,(.t 7))]),oO 9 (.mkSlice 45 3 1 [.int .i64 0,.nils,.nils] [(0,(.t 8))]),oO 10 (.build [.nils] [(0,1,(.t 9))]),oO 1 (.alloc 30 1 [.nils]),oX (sT 1 1 10)]
def q5_2 : LReg := rG [oO 12 (lA 1 1),oO 13 (.mkSlice 9 1 1 [.str []] [(0,(.c (.str [97])))]),oO 14 (cA 7 [12,13]),oM 11 14,oO 15 (eX 0 11),oO 16 (eX 1 11),oO 3 (.alloc 25 2 [.int .i64 0,.int .i64 0]),oM 2 15,oX (sT 2 3 16)]
def q5_3 : LReg := rG [oO 18 (lA 1 1),oO 19 (.call 16 [(.c (.str [120])),(.t 18)]),oO 20 (.mkSlice 9 1 1 [.str []] [(0,(.c (.str [97])))]),oO 21 (.build [.str [],.nils] [(0,1,(.c (.str [120]))),(1,1,(.t 20))]),oO 22 (.mkSlice 60 2 1 [.str [],.nils] [(0,(.t 21))]),oO 23 (.build [.nils] [(0,1,(.t 22))]),oO 24 (cA 15 [19,23]),oM 17 24,oO 25 (eX 0 17),oO 26 (eX 1 17),oO 4 (.alloc 52 1 [.nils]),oO 5 (.alloc 25 2 [.int .i64 0,.int .i64 0]),oX (sT 1 4 25),oX (sT 2 5 26)]
def q5_4 : LReg := rG [oO 27 (fA 0 3),oO 28 (lV 1 27),oO 29 (bK .eql 28 0),oM 30 29,oT 31 30 (fA 0 5),oT 32 30 (lV 1 31),oT 33 30 (bK .eql 32 0),oO 34 (pK 30 33 (kB false)),oM 35 34,oT 36 35 (.mv (.t 2)),oT 37 35 (.mkSlice 9 1 1 [.str []] [(0,(.c (.str [98])))]),oT 38 35 (cA 10 [36,37]),oO 39 (pK 35 38 (kB false)),oM 40 39,oT 41 40 (lA 1 4),oT 42 40 (.mkSlice 9 1 1 [.str []] [(0,(.c (.str [98])))]),oT 43 40 (.build [.str [],.nils] [(0,1,(.c (.str [120]))),(1,1,(.t 42))]),oT 44 40 (.mkSlice 60 2 1 [.str [],.nils] [(0,(.t 43))]),oT 45 40 (.build [.nils] [(0,1,(.t 44))]),oT 46 40 (cA 17 [41,45]),oO 47 (pK 40 46 (kB false)),oM 0 47]
def Tryz.l_top_h11Works : LCode := (.seq (.reg q5_0) (.seq (.reg q5_1) (.seq (.reg q5_2) (.seq (.reg q5_3) (.seq (.reg q5_4) .ret)))))
theorem Tryz.c_top_h11Works : fnComp Tryz.prog 5 = some (48, Tryz.l_top_h11Works,[.t 0]) := by kernel_rfl
def q58_0 : LReg := rG [oM 4 1,oO 5 (bK .gtr 4 0)]
def q58_1 : LReg := rG [oM 6 0,oM 7 0,oM 8 0,oO 9 (.nilCheck (.t 8)),oO 10 (fA 1 9),oO 11 (lV 1 10),oM 12 1,oO 13 (bT .add 11 12),oO 14 (.nilCheck (.t 6)),oO 15 (fA 1 14),oX (sT 1 15 13),oO 16 (.nilCheck (.t 7)),oO 17 (fA 2 16),oX (.store 1 (.t 17) (kB false))]
def Tryz.l_diff_Collector_Keep : LCode := (.seq (.reg q58_0) (.cond (.t 5) (.reg q58_1) .skip))
theorem Tryz.c_diff_Collector_Keep : fnComp Tryz.prog 58 = some (18, Tryz.l_diff_Collector_Keep,[]) := by kernel_rfl
def q38_0 : LReg := rG [oM 4 1,oO 5 (bK .gtr 4 0)]
def q38_1 : LReg := rG [oM 6 0,oO 7 (.nilCheck (.t 6)),oO 8 (fA 0 7),oM 9 1,oO 10 (cA 58 [8,9])]
def q38_2 : LReg := rG [oM 11 0,oM 12 0,oM 13 0,oO 14 (.nilCheck (.t 13)),oO 15 (fA 5 14),oO 16 (lV 1 15),oM 17 1,oO 18 (bT .add 16 17),oO 19 (.nilCheck (.t 11)),oO 20 (fA 5 19),oX (sT 1 20 18),oO 21 (.nilCheck (.t 12)),oO 22 (fA 7 21),oX (.store 1 (.t 22) (kB false))]
def Tryz.l_unified_parser_keep : LCode := (.seq (.reg q38_0) (.cond (.t 5) (.seq (.reg q38_1) (.reg q38_2)) .skip))
theorem Tryz.c_unified_parser_keep : fnComp Tryz.prog 38 = some (23, Tryz.l_unified_parser_keep,[]) := by kernel_rfl
def q73_0 : LReg := rG [oO 4 (mK (.c (.str []))),oO 5 (mK (kB false))]
def q73_1 : LReg := rG [oM 6 0,oM 7 1,oO 8 (cA 84 [6,7]),oO 9 (.un .not (.t 8))]
def q73_2 : LReg := rG [oM 10 0,oM 4 10,oO 5 (mK (kB false))]
def q73_3 : LReg := rG [oM 11 0,oM 12 1,oO 13 (sN 12),oO 14 (.sslice (.t 11) (some (.t 13)) none),oM 4 14,oO 5 (mK (kB true))]
def Tryz.l_internal_stringslite_CutPrefix : LCode := (.seq (.reg q73_0) (.seq (.seq (.reg q73_1) (.cond (.t 9) (.seq (.reg q73_2) .ret) .skip)) (.seq (.reg q73_3) .ret)))
theorem Tryz.c_internal_stringslite_CutPrefix : fnComp Tryz.prog 73 = some (15, Tryz.l_internal_stringslite_CutPrefix,[.t 4,.t 5]) := by kernel_rfl
def q55_0 : LReg := rG [oO 4 (mK (.c (.str []))),oO 5 (mK (kB false))]
def q55_1 : LReg := rG [oM 6 0,oM 7 1,oO 8 (cA 73 [6,7]),oO 9 (eX 0 8),oO 10 (eX 1 8),oM 4 9,oM 5 10]
def Tryz.l_strings_CutPrefix : LCode := (.seq (.reg q55_0) (.seq (.reg q55_1) .ret))
theorem Tryz.c_strings_CutPrefix : fnComp Tryz.prog 55 = some (11, Tryz.l_strings_CutPrefix,[.t 4,.t 5]) := by kernel_rfl
def q56_0 : LReg := rG [oO 4 (mK (kI 0)),oO 5 (mK (.c (.str []))),oO 6 (mK (kB false))]
def q56_1 : LReg := rG [oM 13 0,oM 14 1,oO 15 (cA 18 [13,14]),oM 12 15,oO 16 (eX 0 12),oO 17 (eX 1 12),oO 18 (eX 2 12),oM 7 16,oM 8 17,oM 9 18]
def q56_2 : LReg := rG [oM 20 7,oO 21 (cA 74 [20]),oM 19 21,oO 22 (eX 0 19),oO 23 (eX 1 19),oM 10 22,oM 11 23]
def q56_3 : LReg := rG [oM 24 10,oM 25 8,oM 26 9,oM 27 26,oT 28 27 (.mv (.t 11)),oT 29 27 (.isnilI false (.t 28)),oO 30 (pK 27 29 (kB false)),oM 31 30,oT 32 31 (.mv (.t 10)),oT 33 31 (cA 45 [32]),oT 34 31 (.mv (.t 7)),oT 35 31 (bT .eql 33 34),oO 36 (pK 31 35 (kB false)),oM 37 36,oT 38 37 (.mv (.t 10)),oT 39 37 (bK .geq 38 0),oO 40 (pK 37 39 (kB false)),oM 41 40,oT 42 41 (.mv (.t 10)),oT 43 41 (bK .leq 42 121),oO 44 (pK 41 43 (kB false)),oM 4 24,oM 5 25,oM 6 44]
def Tryz.l_unified_number : LCode := (.seq (.reg q56_0) (.seq (.reg q56_1) (.seq (.reg q56_2) (.seq (.reg q56_3) .ret))))
theorem Tryz.c_unified_number : fnComp Tryz.prog 56 = some (45, Tryz.l_unified_number,[.t 4,.t 5,.t 6]) := by kernel_rfl
def q57_0 : LReg := rG [oO 4 (mK (kI 0))]
def q57_1 : LReg := rG [oM 5 1,oO 6 (bK .gtr 5 0)]
def q57_2 : LReg := rG [oM 7 0,oO 8 (bK .sub 7 1),oM 4 8]
def q57_3 : LReg := rG [oM 9 0,oM 4 9]
def Tryz.l_unified_place : LCode := (.seq (.reg q57_0) (.seq (.seq (.reg q57_1) (.cond (.t 6) (.seq (.reg q57_2) .ret) .skip)) (.seq (.reg q57_3) .ret)))
theorem Tryz.c_unified_place : fnComp Tryz.prog 57 = some (10, Tryz.l_unified_place,[.t 4]) := by kernel_rfl
def q37_0 : LReg := rG [oO 4 (mK (kB false))]
def q37_1 : LReg := rG [oM 13 1,oO 14 (.call 55 [(.t 13),(.c (.str [64,64,32,45]))]),oM 12 14,oO 15 (eX 0 12),oO 16 (eX 1 12),oM 5 15,oM 6 16]
def q37_2 : LReg := rG [oM 17 6,oO 18 (.un .not (.t 17))]
def q37_3 : LReg := rG [oO 4 (mK (kB false))]
def q37_4 : LReg := rG [oO 7 (.alloc 110 4 [.int .i64 0,.int .i64 0,.int .i64 0,.int .i64 0])]
def q37_5 : LReg := rG [oO 19 (.build [.str [],.str [],.str [],.str []] [(0,1,(.c (.str [44]))),(1,1,(.c (.str [32,43]))),(2,1,(.c (.str [44]))),(3,1,(.c (.str [32,64,64])))]),oO 20 (mK (kI 0))]
def q37_6 : LReg := rG [oO 21 (bK .lss 20 4)]
def q37_7 : LReg := rG [oM 22 20,oO 23 (.vidx 4 1 false (.t 19) (.t 20)),oM 8 22,oM 9 23]
def q37_8 : LReg := rG [oM 25 8,oM 26 5,oM 27 9,oO 28 (cA 56 [26,27]),oM 24 28,oO 29 (eX 0 24),oO 30 (eX 1 24),oO 31 (eX 2 24),oO 32 (.idxA 4 1 (.t 7) (.t 25)),oX (sT 1 32 29),oM 5 30,oM 6 31]
def q37_9 : LReg := rG [oM 33 6,oO 34 (.un .not (.t 33))]
def q37_10 : LReg := rG [oO 4 (mK (kB false))]
def q37_11 : LReg := rG [oO 35 (bK .add 20 1),oM 20 35]
def q37_12 : LReg := ⟨[oO 36 (.idxA 4 1 (.t 7) (kI 0)),oO 37 (lV 1 36),oO 38 (.idxA 4 1 (.t 7) (kI 1)),oO 39 (lV 1 38),oO 40 (cA 57 [37,39]),oO 41 (.idxA 4 1 (.t 7) (kI 2)),oO 42 (lV 1 41),oO 43 (.idxA 4 1 (.t 7) (kI 3)),oO 44 (lV 1 43),oO 45 (cA 57 [42,44]),oM 10 40,oM 11 45],true,[(0,2),(1,2),(0,3),(1,3),(0,5),(1,5),(2,5),(3,5),(4,5),(0,6),(1,6),(2,6),(3,6),(4,6),(0,7),(1,7),(2,7),(3,7),(4,7),(5,7),(6,7),(0,8),(1,8),(2,8),(3,8),(4,8),(5,8),(6,8)]⟩
def q37_13 : LReg := rG [oM 46 5,oO 47 (.bin .neq (.t 46) (.c (.str []))),oM 48 47,oF 49 48 (.idxA 4 1 (.t 7) (kI 1)),oF 50 48 (lV 1 49),oF 51 48 (.idxA 4 1 (.t 7) (kI 3)),oF 52 48 (lV 1 51),oF 53 48 (bT .add 50 52),oF 54 48 (bK .eql 53 0),oO 55 (pL 48 (kB true) 54),oM 56 55,oF 57 56 (.mv (.t 10)),oF 58 56 (.mv (.t 0)),oF 59 56 (.nilCheck (.t 58)),oF 60 56 (fA 5 59),oF 61 56 (lV 1 60),oF 62 56 (bT .lss 57 61),oO 63 (pL 56 (kB true) 62),oM 64 63,oF 65 64 (.mv (.t 11)),oF 66 64 (.mv (.t 10)),oF 67 64 (bT .sub 65 66),oF 68 64 (.mv (.t 0)),oF 69 64 (.nilCheck (.t 68)),oF 70 64 (fA 6 69),oF 71 64 (lV 1 70),oF 72 64 (bT .neq 67 71),oO 73 (pL 64 (kB true) 72)]
def q37_14 : LReg := rG [oO 4 (mK (kB false))]
def q37_15 : LReg := rG [oM 74 0,oM 75 10,oM 76 0,oO 77 (.nilCheck (.t 76)),oO 78 (fA 5 77),oO 79 (lV 1 78),oO 80 (bT .sub 75 79),oO 81 (cA 38 [74,80])]
def q37_16 : LReg := ⟨[oM 82 0,oM 83 0,oO 84 (.idxA 4 1 (.t 7) (kI 1)),oO 85 (lV 1 84),oO 86 (.idxA 4 1 (.t 7) (kI 3)),oO 87 (lV 1 86),oO 88 (.nilCheck (.t 82)),oO 89 (fA 3 88),oX (sT 1 89 85),oO 90 (.nilCheck (.t 83)),oO 91 (fA 4 90),oX (sT 1 91 87)],true,[(2,4),(3,4),(2,5),(3,5),(4,6),(5,6),(4,7),(5,7),(4,8),(5,8)]⟩
def q37_17 : LReg := rG [oO 4 (mK (kB true))]
def Tryz.l_unified_parser_header : LCode := (.seq (.reg q37_0) (.seq (.reg q37_1) (.seq (.seq (.reg q37_2) (.cond (.t 18) (.seq (.reg q37_3) .ret) .skip)) (.seq (.reg q37_4) (.seq (.seq (.reg q37_5) (.block 0 (.loop (.seq (.reg q37_6) (.seq (.cond (.t 21) .skip (.exit 0)) (.seq (.block 1 (.seq (.reg q37_7) (.seq (.reg q37_8) (.seq (.reg q37_9) (.cond (.t 34) (.seq (.reg q37_10) .ret) .skip))))) (.reg q37_11))))))) (.seq (.reg q37_12) (.seq (.seq (.reg q37_13) (.cond (.t 73) (.seq (.reg q37_14) .ret) .skip)) (.seq (.reg q37_15) (.seq (.reg q37_16) (.seq (.reg q37_17) .ret))))))))))
theorem Tryz.c_unified_parser_header : fnComp Tryz.prog 37 = some (92, Tryz.l_unified_parser_header,[.t 4]) := by kernel_rfl
def q59_0 : LReg := rG [oO 2 (mK (.c (.pnil)))]
def q59_1 : LReg := rG [oM 3 0,oO 4 (.nilCheck (.t 3)),oO 5 (fA 2 4),oO 6 (lV 1 5),oO 7 (.un .not (.t 6))]
def q59_2 : LReg := ⟨[oM 8 0,oM 9 0,oM 10 0,oO 11 (.nilCheck (.t 10)),oO 12 (fA 0 11),oO 13 (lV 1 12),oM 14 0,oO 15 (.nilCheck (.t 14)),oO 16 (fA 1 15),oO 17 (lV 1 16),oO 18 (.build [.int .i64 0,.nils,.nils] [(0,1,(.t 17))]),oO 19 (.mkSlice 45 3 1 [.int .i64 0,.nils,.nils] [(0,(.t 18))]),oO 20 (.append 45 3 56 (.t 13) (.t 19)),oO 21 (.nilCheck (.t 8)),oO 22 (fA 0 21),oX (sT 1 22 20),oO 23 (.nilCheck (.t 9)),oO 24 (fA 2 23),oX (.store 1 (.t 24) (kB true))],true,[(3,7),(4,7),(5,7),(3,8),(4,8),(5,8),(3,9),(4,9),(5,9),(3,11),(4,11),(5,11)]⟩
def q59_3 : LReg := ⟨[oM 25 0,oO 26 (.nilCheck (.t 25)),oO 27 (fA 0 26),oO 28 (lV 1 27),oM 29 0,oO 30 (.nilCheck (.t 29)),oO 31 (fA 0 30),oO 32 (lV 1 31),oO 33 (lN 32),oO 34 (bK .sub 33 1),oO 35 (iX 3 28 34),oM 2 35],true,[(1,5),(2,5),(3,5),(1,6),(2,6),(3,6),(1,7),(2,7),(3,7),(1,8),(2,8),(3,8)]⟩
def Tryz.l_diff_Collector_hunk : LCode := (.seq (.reg q59_0) (.seq (.seq (.reg q59_1) (.cond (.t 7) (.reg q59_2) .skip)) (.seq (.reg q59_3) .ret)))
theorem Tryz.c_diff_Collector_hunk : fnComp Tryz.prog 59 = some (36, Tryz.l_diff_Collector_hunk,[.t 2]) := by kernel_rfl
def q39_0 : LReg := rG [oM 5 0,oO 6 (cA 59 [5]),oM 4 6]
def q39_1 : LReg := rG [oM 7 4,oM 8 4,oO 9 (.nilCheck (.t 8)),oO 10 (fA 1 9),oO 11 (lV 1 10),oM 12 1,oO 13 (.mkSlice 9 1 1 [.str []] [(0,(.t 12))]),oO 14 (.append 9 1 16 (.t 11) (.t 13)),oO 15 (.nilCheck (.t 7)),oO 16 (fA 1 15),oX (sT 1 16 14)]
def q39_2 : LReg := rG [oM 17 0,oO 18 (.nilCheck (.t 17)),oO 19 (fA 1 18),oO 20 (lV 1 19),oO 21 (bK .add 20 1),oO 22 (.nilCheck (.t 17)),oO 23 (fA 1 22),oX (sT 1 23 21)]
def Tryz.l_diff_Collector_Delete : LCode := (.seq (.reg q39_0) (.seq (.reg q39_1) (.reg q39_2)))
theorem Tryz.c_diff_Collector_Delete : fnComp Tryz.prog 39 = some (24, Tryz.l_diff_Collector_Delete,[]) := by kernel_rfl
def q40_0 : LReg := rG [oM 5 0,oO 6 (cA 59 [5]),oM 4 6]
def q40_1 : LReg := rG [oM 7 4,oM 8 4,oO 9 (.nilCheck (.t 8)),oO 10 (fA 2 9),oO 11 (lV 1 10),oM 12 1,oO 13 (.mkSlice 9 1 1 [.str []] [(0,(.t 12))]),oO 14 (.append 9 1 16 (.t 11) (.t 13)),oO 15 (.nilCheck (.t 7)),oO 16 (fA 2 15),oX (sT 1 16 14)]
def Tryz.l_diff_Collector_Insert : LCode := (.seq (.reg q40_0) (.reg q40_1))
theorem Tryz.c_diff_Collector_Insert : fnComp Tryz.prog 40 = some (17, Tryz.l_diff_Collector_Insert,[]) := by kernel_rfl
def q19_0 : LReg := rG [oO 4 (mK (kB false))]
def q19_1 : LReg := ⟨[oM 5 0,oO 6 (.nilCheck (.t 5)),oO 7 (fA 3 6),oO 8 (lV 1 7),oM 9 0,oO 10 (.nilCheck (.t 9)),oO 11 (fA 4 10),oO 12 (lV 1 11),oO 13 (bT .add 8 12),oO 14 (bK .eql 13 0)],true,[(1,5),(2,5),(3,5),(1,6),(2,6),(3,6),(1,7),(2,7),(3,7)]⟩
def q19_2 : LReg := rG [oM 15 0,oM 16 1,oO 17 (cA 37 [15,16]),oM 4 17]
def q19_3 : LReg := rG [oM 18 1,oO 19 (.bin .eql (.t 18) (.c (.str [])))]
def q19_4 : LReg := rG [oO 4 (mK (kB false))]
def q19_5 : LReg := rG [oM 20 1,oO 21 (.sidx (.t 20) (kI 0))]
def q19_6 : LReg := rG [oO 23 (.bin .eql (.t 21) (.c (.int .u8 32))),oM 22 23]
def q19_7 : LReg := ⟨[oM 24 0,oM 25 0,oM 26 0,oO 27 (.nilCheck (.t 26)),oO 28 (fA 3 27),oO 29 (lV 1 28),oO 30 (bK .sub 29 1),oM 31 0,oO 32 (.nilCheck (.t 31)),oO 33 (fA 4 32),oO 34 (lV 1 33),oO 35 (bK .sub 34 1),oO 36 (.nilCheck (.t 24)),oO 37 (fA 3 36),oX (sT 1 37 30),oO 38 (.nilCheck (.t 25)),oO 39 (fA 4 38),oX (sT 1 39 35)],true,[(3,8),(4,8),(5,8),(3,9),(4,9),(5,9),(3,10),(4,10),(5,10)]⟩
def q19_8 : LReg := rG [oM 40 0,oO 41 (.call 38 [(.t 40),(kI 1)])]
def q19_9 : LReg := rG [oO 43 (.bin .eql (.t 21) (.c (.int .u8 45))),oM 42 43]
def q19_10 : LReg := rG [oM 44 0,oO 45 (.nilCheck (.t 44)),oO 46 (fA 7 45),oO 47 (lV 1 46)]
def q19_11 : LReg := rG [oO 4 (mK (kB false))]
def q19_12 : LReg := ⟨[oM 48 0,oM 49 0,oM 50 0,oM 51 0,oO 52 (.nilCheck (.t 51)),oO 53 (fA 3 52),oO 54 (lV 1 53),oO 55 (bK .sub 54 1),oM 56 0,oO 57 (.nilCheck (.t 56)),oO 58 (fA 5 57),oO 59 (lV 1 58),oO 60 (bK .add 59 1),oM 61 0,oO 62 (.nilCheck (.t 61)),oO 63 (fA 6 62),oO 64 (lV 1 63),oO 65 (bK .sub 64 1),oO 66 (.nilCheck (.t 48)),oO 67 (fA 3 66),oX (sT 1 67 55),oO 68 (.nilCheck (.t 49)),oO 69 (fA 5 68),oX (sT 1 69 60),oO 70 (.nilCheck (.t 50)),oO 71 (fA 6 70),oX (sT 1 71 65)],true,[(4,9),(5,9),(6,9),(4,10),(5,10),(6,10),(4,11),(5,11),(6,11),(4,14),(5,14),(6,14),(9,14),(10,14),(11,14),(4,15),(5,15),(6,15),(9,15),(10,15),(11,15),(4,16),(5,16),(6,16),(9,16),(10,16),(11,16)]⟩
def q19_13 : LReg := ⟨[oM 72 0,oO 73 (.nilCheck (.t 72)),oO 74 (fA 0 73),oM 75 1,oO 76 (.sslice (.t 75) (some (kI 1)) none),oO 77 (cA 39 [74,76])],true,[]⟩
def q19_14 : LReg := rG [oO 79 (.bin .eql (.t 21) (.c (.int .u8 43))),oM 78 79]
def q19_15 : LReg := ⟨[oM 80 0,oM 81 0,oM 82 0,oM 83 0,oO 84 (.nilCheck (.t 83)),oO 85 (fA 4 84),oO 86 (lV 1 85),oO 87 (bK .sub 86 1),oM 88 0,oO 89 (.nilCheck (.t 88)),oO 90 (fA 6 89),oO 91 (lV 1 90),oO 92 (bK .add 91 1),oO 93 (.nilCheck (.t 80)),oO 94 (fA 4 93),oX (sT 1 94 87),oO 95 (.nilCheck (.t 81)),oO 96 (fA 6 95),oX (sT 1 96 92),oO 97 (.nilCheck (.t 82)),oO 98 (fA 7 97),oX (.store 1 (.t 98) (kB true))],true,[(4,9),(5,9),(6,9),(4,10),(5,10),(6,10),(4,11),(5,11),(6,11)]⟩
def q19_16 : LReg := ⟨[oM 99 0,oO 100 (.nilCheck (.t 99)),oO 101 (fA 0 100),oM 102 1,oO 103 (.sslice (.t 102) (some (kI 1)) none),oO 104 (cA 40 [101,103])],true,[]⟩
def q19_17 : LReg := rG [oO 4 (mK (kB false))]
def q19_18 : LReg := rG [oM 105 0,oO 106 (.nilCheck (.t 105)),oO 107 (fA 3 106),oO 108 (lV 1 107),oO 109 (bK .geq 108 0),oM 110 109,oT 111 110 (.mv (.t 0)),oT 112 110 (.nilCheck (.t 111)),oT 113 110 (fA 4 112),oT 114 110 (lV 1 113),oT 115 110 (bK .geq 114 0),oO 116 (pK 110 115 (kB false)),oM 4 116]
def Tryz.l_unified_parser_line : LCode := (.seq (.reg q19_0) (.seq (.seq (.reg q19_1) (.cond (.t 14) (.seq (.reg q19_2) .ret) .skip)) (.seq (.seq (.reg q19_3) (.cond (.t 19) (.seq (.reg q19_4) .ret) .skip)) (.seq (.seq (.reg q19_5) (.block 0 (.seq (.reg q19_6) (.cond (.t 22) (.seq (.reg q19_7) (.reg q19_8)) (.seq (.reg q19_9) (.cond (.t 42) (.seq (.seq (.reg q19_10) (.cond (.t 47) (.seq (.reg q19_11) .ret) .skip)) (.seq (.reg q19_12) (.reg q19_13))) (.seq (.reg q19_14) (.cond (.t 78) (.seq (.reg q19_15) (.reg q19_16)) (.seq (.reg q19_17) .ret))))))))) (.seq (.reg q19_18) .ret)))))
theorem Tryz.c_unified_parser_line : fnComp Tryz.prog 19 = some (117, Tryz.l_unified_parser_line,[.t 4]) := by kernel_rfl
def q20_0 : LReg := rG [oO 2 (.alloc 30 1 [.nils])]
def q20_1 : LReg := rG [oM 3 0,oO 4 (.nilCheck (.t 3)),oO 5 (fA 0 4),oO 6 (lV 1 5),oO 7 (.build [.nils] [(0,1,(.t 6))]),oX (sT 1 2 7)]
def Tryz.l_diff_Collector_Patch : LCode := (.seq (.reg q20_0) (.seq (.reg q20_1) .ret))
theorem Tryz.c_diff_Collector_Patch : fnComp Tryz.prog 20 = some (8, Tryz.l_diff_Collector_Patch,[.cell 2 1 true]) := by kernel_rfl
def q21_0 : LReg := rG [oO 2 (.box 30 1 (.t 0)),oO 4 (.alloc 25 2 [.int .i64 0,.int .i64 0])]
def q21_1 : LReg := rG [oO 6 (lA 1 2),oO 7 (cA 22 [6]),oO 5 (.alloc 25 2 [.int .i64 0,.int .i64 0]),oX (sT 2 5 7)]
def q21_2 : LReg := rG [oO 8 (lA 2 5),oO 9 (.build [.int .i64 0,.int .i64 0] []),oO 10 (.eqs true [0,0] (.t 8) (.t 9))]
def q21_3 : LReg := rG [oO 11 (fA 0 5),oO 12 (lV 1 11),oM 13 1,oO 14 (.build [.int .i64 0,.int .i64 0] [(0,1,(.t 12)),(1,1,(.t 13))]),oX (sT 2 4 14)]
def q21_4 : LReg := rG [oO 15 (.build [.int .i64 0,.int .i64 0] []),oX (sT 2 4 15)]
def Tryz.l_textpatch_Second : LCode := (.seq (.reg q21_0) (.seq (.seq (.reg q21_1) (.seq (.reg q21_2) (.cond (.t 10) (.seq (.reg q21_3) .ret) .skip))) (.seq (.reg q21_4) .ret)))
theorem Tryz.c_textpatch_Second : fnComp Tryz.prog 21 = some (16, Tryz.l_textpatch_Second,[.cell 4 2 true]) := by kernel_rfl
def q6_0 : LReg := rG [oO 2 (.alloc 30 1 [.nils]),oO 3 (.alloc 25 2 [.int .i64 0,.int .i64 0])]
def q6_1 : LReg := rG [oM 12 0,oO 13 (sN 12),oO 14 (bK .gtr 13 4096)]
def q6_2 : LReg := rG [oO 15 (.build [.nils] []),oO 16 (.build [.int .i64 0,.int .i64 0] [(0,1,(kI 2))]),oX (sT 1 2 15),oX (sT 2 3 16)]
def q6_3 : LReg := rG [oO 4 (.alloc 65 8 [.nils,.int .i64 0,.bool false,.int .i64 0,.int .i64 0,.int .i64 0,.int .i64 0,.bool false])]
def q6_4 : LReg := rG [oO 5 (mK (kI 0))]
def q6_5 : LReg := rG [oM 17 0,oM 6 17]
def q6_6 : LReg := rG [oM 18 6,oO 19 (.bin .neq (.t 18) (.c (.str [])))]
def q6_7 : LReg := rG [oM 21 6,oO 22 (.call 18 [(.t 21),(.c (.str [10]))]),oM 20 22,oO 23 (eX 0 20),oO 24 (eX 1 20),oO 25 (eX 2 20),oM 7 23,oM 8 24,oM 9 25]
def q6_8 : LReg := rG [oM 26 9,oO 27 (.un .not (.t 26)),oM 28 27,oF 29 28 (.mv (.t 7)),oF 30 28 (cA 19 [4,29]),oF 31 28 (.un .not (.t 30)),oO 32 (pL 28 (kB true) 31)]
def q6_9 : LReg := rG [oO 33 (.build [.nils] []),oM 34 5,oO 35 (.build [.int .i64 0,.int .i64 0] [(0,1,(kI 1)),(1,1,(.t 34))]),oX (sT 1 2 33),oX (sT 2 3 35)]
def q6_10 : LReg := rG [oM 36 8,oM 6 36]
def q6_11 : LReg := rG [oM 37 5,oO 38 (bK .add 37 1),oM 5 38]
def q6_12 : LReg := rG [oO 39 (fA 3 4),oO 40 (lV 1 39),oO 41 (fA 4 4),oO 42 (lV 1 41),oO 43 (bT .add 40 42),oO 44 (bK .gtr 43 0)]
def q6_13 : LReg := rG [oO 45 (.build [.nils] []),oM 46 5,oO 47 (.build [.int .i64 0,.int .i64 0] [(0,1,(kI 1)),(1,1,(.t 46))]),oX (sT 1 2 45),oX (sT 2 3 47)]
def q6_14 : LReg := rG [oO 48 (fA 0 4),oO 49 (cA 20 [48]),oO 10 (.alloc 30 1 [.nils]),oX (sT 1 10 49)]
def q6_15 : LReg := rG [oO 50 (lA 1 10),oO 51 (.call 21 [(.t 50),(kI (-2))]),oO 11 (.alloc 25 2 [.int .i64 0,.int .i64 0]),oX (sT 2 11 51)]
def q6_16 : LReg := rG [oO 52 (lA 2 11),oO 53 (.build [.int .i64 0,.int .i64 0] []),oO 54 (.eqs true [0,0] (.t 52) (.t 53))]
def q6_17 : LReg := ⟨[oO 55 (.build [.nils] []),oO 56 (lA 2 11),oX (sT 1 2 55),oX (sT 2 3 56)],true,[(1,2)]⟩
def q6_18 : LReg := rG [oO 57 (lA 1 10),oO 58 (.build [.int .i64 0,.int .i64 0] []),oX (sT 1 2 57),oX (sT 2 3 58)]
def Tryz.l_unified_Parse : LCode := (.seq (.reg q6_0) (.seq (.seq (.reg q6_1) (.cond (.t 14) (.seq (.reg q6_2) .ret) .skip)) (.seq (.reg q6_3) (.seq (.reg q6_4) (.seq (.seq (.reg q6_5) (.block 0 (.loop (.seq (.seq (.reg q6_6) (.cond (.t 19) .skip (.exit 0))) (.block 1 (.seq (.reg q6_7) (.seq (.seq (.reg q6_8) (.cond (.t 32) (.seq (.reg q6_9) .ret) .skip)) (.seq (.reg q6_10) (.reg q6_11))))))))) (.seq (.seq (.reg q6_12) (.cond (.t 44) (.seq (.reg q6_13) .ret) .skip)) (.seq (.reg q6_14) (.seq (.seq (.reg q6_15) (.seq (.reg q6_16) (.cond (.t 54) (.seq (.reg q6_17) .ret) .skip))) (.seq (.reg q6_18) .ret)))))))))
theorem Tryz.c_unified_Parse : fnComp Tryz.prog 6 = some (59, Tryz.l_unified_Parse,[.cell 2 1 true,.cell 3 2 true]) := by kernel_rfl
def q26_0 : LReg := rG [oO 2 (.alloc 25 2 [.int .i64 0,.int .i64 0])]
def q26_1 : LReg := rG [oM 6 0,oO 7 (lN 6),oO 8 (bK .gtr 7 12)]
def q26_2 : LReg := rG [oO 9 (.build [.int .i64 0,.int .i64 0] [(0,1,(kI 2)),(1,1,(kI (-1)))]),oX (sT 2 2 9)]
def q26_3 : LReg := rG [oM 10 0,oO 11 (lN 10),oO 12 (mK (kI 0))]
def q26_4 : LReg := rG [oO 13 (bT .lss 12 11)]
def q26_5 : LReg := rG [oM 14 12,oO 15 (iX 1 10 12),oO 16 (lA 1 15),oO 4 (.alloc 30 1 [.nils]),oM 3 14,oX (sT 1 4 16)]
def q26_6 : LReg := rG [oO 17 (lA 1 4),oM 18 3,oO 19 (cA 21 [17,18]),oO 5 (.alloc 25 2 [.int .i64 0,.int .i64 0]),oX (sT 2 5 19)]
def q26_7 : LReg := rG [oO 20 (lA 2 5),oO 21 (.build [.int .i64 0,.int .i64 0] []),oO 22 (.eqs true [0,0] (.t 20) (.t 21))]
def q26_8 : LReg := rG [oO 23 (lA 2 5),oX (sT 2 2 23)]
def q26_9 : LReg := rG [oO 24 (bK .add 12 1),oM 12 24]
def q26_10 : LReg := rG [oO 25 (.build [.int .i64 0,.int .i64 0] []),oX (sT 2 2 25)]
def Tryz.l_stack_check : LCode := (.seq (.reg q26_0) (.seq (.seq (.reg q26_1) (.cond (.t 8) (.seq (.reg q26_2) .ret) .skip)) (.seq (.seq (.reg q26_3) (.block 0 (.loop (.seq (.reg q26_4) (.seq (.cond (.t 13) .skip (.exit 0)) (.seq (.block 1 (.seq (.reg q26_5) (.seq (.reg q26_6) (.seq (.reg q26_7) (.cond (.t 22) (.seq (.reg q26_8) .ret) .skip))))) (.reg q26_9))))))) (.seq (.reg q26_10) .ret))))
theorem Tryz.c_stack_check : fnComp Tryz.prog 26 = some (26, Tryz.l_stack_check,[.cell 2 2 true]) := by kernel_rfl
def q8_0 : LReg := rG [oO 4 (mK (.c (.nils))),oO 5 (.alloc 25 2 [.int .i64 0,.int .i64 0])]
def q8_1 : LReg := rG [oM 13 1,oO 14 (cA 26 [13]),oO 6 (.alloc 25 2 [.int .i64 0,.int .i64 0]),oX (sT 2 6 14)]
def q8_2 : LReg := rG [oO 15 (lA 2 6),oO 16 (.build [.int .i64 0,.int .i64 0] []),oO 17 (.eqs true [0,0] (.t 15) (.t 16))]
def q8_3 : LReg := ⟨[oO 18 (lA 2 6),oO 4 (mK (.c (.nils))),oX (sT 2 5 18)],true,[]⟩
def q8_4 : LReg := rG [oM 19 0,oO 20 (.call 23 [(.t 19),(kI (-2))]),oO 7 (.alloc 25 2 [.int .i64 0,.int .i64 0]),oX (sT 2 7 20)]
def q8_5 : LReg := rG [oO 21 (lA 2 7),oO 22 (.build [.int .i64 0,.int .i64 0] []),oO 23 (.eqs true [0,0] (.t 21) (.t 22))]
def q8_6 : LReg := ⟨[oO 24 (lA 2 7),oO 4 (mK (.c (.nils))),oX (sT 2 5 24)],true,[]⟩
def q8_7 : LReg := rG [oM 25 0,oO 26 (.append 9 1 16 (.c (.nils)) (.t 25)),oM 8 26]
def q8_8 : LReg := rG [oM 27 1,oO 28 (lN 27),oO 29 (mK (kI 0))]
def q8_9 : LReg := rG [oO 30 (bT .lss 29 28)]
def q8_10 : LReg := rG [oM 31 29,oO 32 (iX 1 27 29),oO 33 (lA 1 32),oO 10 (.alloc 30 1 [.nils]),oM 9 31,oX (sT 1 10 33)]
def q8_11 : LReg := rG [oO 35 (lA 1 10),oM 36 8,oO 37 (cA 7 [35,36]),oM 34 37,oO 38 (eX 0 34),oO 39 (eX 1 34),oO 12 (.alloc 25 2 [.int .i64 0,.int .i64 0]),oM 11 38,oX (sT 2 12 39)]
def q8_12 : LReg := rG [oO 40 (lA 2 12),oO 41 (.build [.int .i64 0,.int .i64 0] []),oO 42 (.eqs true [0,0] (.t 40) (.t 41))]
def q8_13 : LReg := ⟨[oO 43 (fA 0 12),oO 44 (lV 1 43),oM 45 9,oO 46 (.build [.int .i64 0,.int .i64 0] [(0,1,(.t 44)),(1,1,(.t 45))]),oO 4 (mK (.c (.nils))),oX (sT 2 5 46)],true,[]⟩
def q8_14 : LReg := rG [oM 47 11,oM 8 47]
def q8_15 : LReg := rG [oO 48 (bK .add 29 1),oM 29 48]
def q8_16 : LReg := rG [oM 49 8,oO 50 (.build [.int .i64 0,.int .i64 0] []),oM 4 49,oX (sT 2 5 50)]
def Tryz.l_stack_Apply : LCode := (.seq (.reg q8_0) (.seq (.seq (.reg q8_1) (.seq (.reg q8_2) (.cond (.t 17) (.seq (.reg q8_3) .ret) .skip))) (.seq (.seq (.reg q8_4) (.seq (.reg q8_5) (.cond (.t 23) (.seq (.reg q8_6) .ret) .skip))) (.seq (.reg q8_7) (.seq (.seq (.reg q8_8) (.block 0 (.loop (.seq (.reg q8_9) (.seq (.cond (.t 30) .skip (.exit 0)) (.seq (.block 1 (.seq (.reg q8_10) (.seq (.reg q8_11) (.seq (.seq (.reg q8_12) (.cond (.t 42) (.seq (.reg q8_13) .ret) .skip)) (.reg q8_14))))) (.reg q8_15))))))) (.seq (.reg q8_16) .ret))))))
theorem Tryz.c_stack_Apply : fnComp Tryz.prog 8 = some (51, Tryz.l_stack_Apply,[.t 4,.cell 5 2 true]) := by kernel_rfl
def q27_0 : LReg := rG [oO 2 (.box 30 1 (.t 0)),oO 3 (.box 30 1 (.t 1)),oO 4 (mK (kB false))]
def q27_1 : LReg := rG [oO 6 (fA 0 2),oO 7 (lV 1 6),oO 8 (lN 7),oO 9 (fA 0 3),oO 10 (lV 1 9),oO 11 (lN 10),oO 12 (bT .neq 8 11)]
def q27_2 : LReg := rG [oO 4 (mK (kB false))]
def q27_3 : LReg := rG [oO 5 (mK (kI 0))]
def q27_4 : LReg := rG [oM 13 5,oO 14 (fA 0 2),oO 15 (lV 1 14),oO 16 (lN 15),oO 17 (bT .lss 13 16)]
def q27_5 : LReg := ⟨[oO 20 (fA 0 2),oO 21 (lV 1 20),oM 22 5,oO 23 (iX 3 21 22),oO 24 (fA 0 23),oO 25 (lV 1 24),oO 26 (fA 0 3),oO 27 (lV 1 26),oM 28 5,oO 29 (iX 3 27 28),oO 30 (fA 0 29),oO 31 (lV 1 30),oO 32 (bT .neq 25 31),oM 33 32,oF 34 33 (fA 0 2),oF 35 33 (lV 1 34),oF 36 33 (.mv (.t 5)),oF 37 33 (iX 3 35 36),oF 38 33 (fA 1 37),oF 39 33 (lV 1 38),oF 40 33 (fA 0 3),oF 41 33 (lV 1 40),oF 42 33 (.mv (.t 5)),oF 43 33 (iX 3 41 42),oF 44 33 (fA 1 43),oF 45 33 (lV 1 44),oF 46 33 (cA 10 [39,45]),oF 47 33 (.un .not (.t 46)),oO 48 (pL 33 (kB true) 47),oM 49 48,oF 50 49 (fA 0 2),oF 51 49 (lV 1 50),oF 52 49 (.mv (.t 5)),oF 53 49 (iX 3 51 52),oF 54 49 (fA 2 53),oF 55 49 (lV 1 54),oF 56 49 (fA 0 3),oF 57 49 (lV 1 56),oF 58 49 (.mv (.t 5)),oF 59 49 (iX 3 57 58),oF 60 49 (fA 2 59),oF 61 49 (lV 1 60),oF 62 49 (cA 10 [55,61]),oF 63 49 (.un .not (.t 62)),oO 64 (pL 49 (kB true) 63)],true,[(0,6),(1,6),(3,6),(4,6),(5,6),(0,7),(1,7),(3,7),(4,7),(5,7),(0,9),(1,9),(3,9),(4,9),(5,9),(0,10),(1,10),(3,10),(4,10),(5,10),(0,11),(1,11),(3,11),(4,11),(5,11),(14,20),(15,20),(17,20),(18,20),(19,20),(14,21),(15,21),(17,21),(18,21),(19,21),(14,23),(15,23),(17,23),(18,23),(19,23),(14,24),(15,24),(17,24),(18,24),(19,24),(14,25),(15,25),(17,25),(18,25),(19,25),(30,36),(31,36),(33,36),(34,36),(35,36),(30,37),(31,37),(33,37),(34,37),(35,37),(30,39),(31,39),(33,39),(34,39),(35,39),(30,40),(31,40),(33,40),(34,40),(35,40),(30,41),(31,41),(33,41),(34,41),(35,41)]⟩
def q27_6 : LReg := rG [oO 4 (mK (kB false))]
def q27_7 : LReg := rG [oM 18 5,oO 19 (bK .add 18 1),oM 5 19]
def q27_8 : LReg := rG [oO 4 (mK (kB true))]
def Tryz.l_equal_Patch : LCode := (.seq (.reg q27_0) (.seq (.seq (.reg q27_1) (.cond (.t 12) (.seq (.reg q27_2) .ret) .skip)) (.seq (.seq (.reg q27_3) (.block 0 (.loop (.seq (.seq (.reg q27_4) (.cond (.t 17) .skip (.exit 0))) (.seq (.block 1 (.seq (.reg q27_5) (.cond (.t 64) (.seq (.reg q27_6) .ret) .skip))) (.reg q27_7)))))) (.seq (.reg q27_8) .ret))))
theorem Tryz.c_equal_Patch : fnComp Tryz.prog 27 = some (65, Tryz.l_equal_Patch,[.t 4]) := by kernel_rfl
def q9_0 : LReg := rG [oO 4 (mK (kB false))]
def q9_1 : LReg := rG [oM 6 0,oO 7 (lN 6),oM 8 1,oO 9 (lN 8),oO 10 (bT .neq 7 9)]
def q9_2 : LReg := rG [oO 4 (mK (kB false))]
def q9_3 : LReg := rG [oO 5 (mK (kI 0))]
def q9_4 : LReg := rG [oM 11 5,oM 12 0,oO 13 (lN 12),oO 14 (bT .lss 11 13)]
def q9_5 : LReg := ⟨[oM 17 0,oM 18 5,oO 19 (iX 1 17 18),oO 20 (lA 1 19),oM 21 1,oM 22 5,oO 23 (iX 1 21 22),oO 24 (lA 1 23),oO 25 (cA 27 [20,24]),oO 26 (.un .not (.t 25))],true,[(2,6),(3,6),(2,7),(3,7)]⟩
def q9_6 : LReg := rG [oO 4 (mK (kB false))]
def q9_7 : LReg := rG [oM 15 5,oO 16 (bK .add 15 1),oM 5 16]
def q9_8 : LReg := rG [oO 4 (mK (kB true))]
def Tryz.l_equal_Patches : LCode := (.seq (.reg q9_0) (.seq (.seq (.reg q9_1) (.cond (.t 10) (.seq (.reg q9_2) .ret) .skip)) (.seq (.seq (.reg q9_3) (.block 0 (.loop (.seq (.seq (.reg q9_4) (.cond (.t 14) .skip (.exit 0))) (.seq (.block 1 (.seq (.reg q9_5) (.cond (.t 26) (.seq (.reg q9_6) .ret) .skip))) (.reg q9_7)))))) (.seq (.reg q9_8) .ret))))
theorem Tryz.c_equal_Patches : fnComp Tryz.prog 9 = some (27, Tryz.l_equal_Patches,[.t 4]) := by kernel_rfl
def q3_0 : LReg := rG [oO 6 (mK (kB false))]
def q3_1 : LReg := rG [oM 20 0,oM 7 20]
def q3_2 : LReg := rG [oO 8 (mK (.c (.nils)))]
def q3_3 : LReg := rG [oO 9 (mK (kI 0))]
def q3_4 : LReg := rG [oM 21 9,oM 22 1,oO 23 (lN 22),oO 24 (bT .lss 21 23)]
def q3_5 : LReg := rG [oM 28 7,oM 29 1,oM 30 9,oO 31 (iX 1 29 30),oO 32 (lA 1 31),oM 33 2,oO 34 (cA 4 [28,32,33]),oM 27 34,oO 35 (eX 0 27),oO 36 (eX 1 27),oO 11 (.alloc 25 2 [.int .i64 0,.int .i64 0]),oM 10 35,oX (sT 2 11 36)]
def q3_6 : LReg := rG [oO 37 (fA 0 11),oO 38 (lV 1 37),oO 39 (bK .neq 38 0)]
def q3_7 : LReg := rG [oO 40 (cA 5 []),oM 6 40]
def q3_8 : LReg := rG [oM 42 10,oO 43 (cA 6 [42]),oM 41 43,oO 44 (eX 0 41),oO 45 (eX 1 41),oO 12 (.alloc 30 1 [.nils]),oO 13 (.alloc 25 2 [.int .i64 0,.int .i64 0]),oX (sT 1 12 44),oX (sT 2 13 45)]
def q3_9 : LReg := rG [oO 46 (fA 0 13),oO 47 (lV 1 46),oO 48 (bK .neq 47 0)]
def q3_10 : LReg := rG [oO 6 (mK (kB false))]
def q3_11 : LReg := rG [oM 49 8,oO 50 (lA 1 12),oO 51 (.mkSlice 30 1 1 [.nils] [(0,(.t 50))]),oO 52 (.append 30 1 24 (.t 49) (.t 51)),oM 8 52]
def q3_12 : LReg := rG [oO 54 (lA 1 12),oM 55 7,oO 56 (cA 7 [54,55]),oM 53 56,oO 57 (eX 0 53),oO 58 (eX 1 53),oO 15 (.alloc 25 2 [.int .i64 0,.int .i64 0]),oM 14 57,oX (sT 2 15 58)]
def q3_13 : LReg := rG [oO 59 (fA 0 15),oO 60 (lV 1 59),oO 61 (bK .neq 60 0)]
def q3_14 : LReg := rG [oO 6 (mK (kB false))]
def q3_15 : LReg := rG [oM 62 14,oM 7 62]
def q3_16 : LReg := rG [oM 25 9,oO 26 (bK .add 25 1),oM 9 26]
def q3_17 : LReg := rG [oM 64 0,oM 65 1,oO 66 (cA 8 [64,65]),oM 63 66,oO 67 (eX 0 63),oO 68 (eX 1 63),oO 17 (.alloc 25 2 [.int .i64 0,.int .i64 0]),oM 16 67,oX (sT 2 17 68)]
def q3_18 : LReg := rG [oM 70 0,oM 71 8,oO 72 (cA 8 [70,71]),oM 69 72,oO 73 (eX 0 69),oO 74 (eX 1 69),oO 19 (.alloc 25 2 [.int .i64 0,.int .i64 0]),oM 18 73,oX (sT 2 19 74)]
def q3_19 : LReg := rG [oM 75 8,oM 76 1,oO 77 (cA 9 [75,76]),oM 78 77,oT 79 78 (lA 2 17),oT 80 78 (lA 2 19),oT 81 78 (.eqs false [0,0] (.t 79) (.t 80)),oO 82 (pK 78 81 (kB false)),oM 83 82,oT 84 83 (.mv (.t 16)),oT 85 83 (.mv (.t 18)),oT 86 83 (cA 10 [84,85]),oO 87 (pK 83 86 (kB false)),oM 88 87,oT 89 88 (fA 0 17),oT 90 88 (lV 1 89),oT 91 88 (bK .neq 90 0),oT 92 88 (.mv (.t 91)),oF 93 92 (.mv (.t 16)),oF 94 92 (.mv (.t 7)),oF 95 92 (cA 10 [93,94]),oT 96 88 (pL 92 (kB true) 95),oO 97 (pK 88 96 (kB false)),oM 98 97,oT 99 98 (cA 5 []),oO 100 (pK 98 99 (kB false)),oM 6 100]
def Tryz.l_top_TopStacksSurviveTransport : LCode := (.seq (.reg q3_0) (.seq (.reg q3_1) (.seq (.reg q3_2) (.seq (.seq (.reg q3_3) (.block 0 (.loop (.seq (.seq (.reg q3_4) (.cond (.t 24) .skip (.exit 0))) (.seq (.block 1 (.seq (.reg q3_5) (.seq (.seq (.reg q3_6) (.cond (.t 39) (.seq (.reg q3_7) .ret) .skip)) (.seq (.reg q3_8) (.seq (.seq (.reg q3_9) (.cond (.t 48) (.seq (.reg q3_10) .ret) .skip)) (.seq (.reg q3_11) (.seq (.reg q3_12) (.seq (.seq (.reg q3_13) (.cond (.t 61) (.seq (.reg q3_14) .ret) .skip)) (.reg q3_15))))))))) (.reg q3_16)))))) (.seq (.reg q3_17) (.seq (.reg q3_18) (.seq (.reg q3_19) .ret)))))))
theorem Tryz.c_top_TopStacksSurviveTransport : fnComp Tryz.prog 3 = some (101, Tryz.l_top_TopStacksSurviveTransport,[.t 6]) := by kernel_rfl
end Go.Proofs.YtjmmlddioeehbaaGreatDoor
