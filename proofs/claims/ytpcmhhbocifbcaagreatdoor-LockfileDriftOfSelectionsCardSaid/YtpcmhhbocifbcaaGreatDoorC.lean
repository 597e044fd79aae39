/- The code of the functions, as the evaluator reads it. Laid by a program (wip/gen/dec.py). -/
import Derived.Test.YtpcmhhbocifbcaaGreatDoorProg
import Derived.Test.YtpcmhhbocifbcaaGreatDoorPwFam
import Derived.Test.YtpcmhhbocifbcaaGreatDoorPwAuto
namespace Go.Proofs.YtpcmhhbocifbcaaGreatDoor
open Go.PW Go
theorem hm : Tryz.prog.follows .mixedOrders = true := by kernel_rfl
instance : Hm Tryz.prog := ⟨hm⟩
def q84_0 : LReg := rG [oO 2 (mK (kB false))]
def q84_1 : LReg := rG [oM 3 0,oO 4 (.call 100 [(.t 3),(.c (.fn 101 [] []))]),oO 5 (.un .not (.t 4)),oM 2 5]
def Tryz.l_version_numeric : LCode := (.seq (.reg q84_0) (.seq (.reg q84_1) .ret))
theorem Tryz.c_version_numeric : fnComp Tryz.prog 84 = some (6, Tryz.l_version_numeric,[.t 2]) := by kernel_rfl
def q64_0 : LReg := rG [oO 2 (mK (kB false))]
def q64_1 : LReg := rG [oM 5 0,oO 6 (sN 5),oO 7 (bK .eql 6 0),oM 8 7,oF 9 8 (.mv (.t 0)),oF 10 8 (sN 9),oF 11 8 (bK .gtr 10 8),oO 12 (pL 8 (kB true) 11)]
def q64_2 : LReg := rG [oO 2 (mK (kB false))]
def q64_3 : LReg := rG [oM 13 0,oO 14 (sN 13),oO 15 (mK (kI 0))]
def q64_4 : LReg := rG [oO 16 (bT .lss 15 14)]
def q64_5 : LReg := rG [oM 17 15,oM 3 17]
def q64_6 : LReg := rG [oM 18 0,oM 19 3,oO 20 (.sidx (.t 18) (.t 19)),oM 4 20]
def q64_7 : LReg := rG [oM 21 4,oO 22 (.bin .lss (.t 21) (.c (.int .u8 48))),oM 23 22,oF 24 23 (.mv (.t 4)),oF 25 23 (.bin .gtr (.t 24) (.c (.int .u8 57))),oO 26 (pL 23 (kB true) 25),oM 27 26,oT 28 27 (.mv (.t 4)),oT 29 27 (.bin .lss (.t 28) (.c (.int .u8 97))),oT 30 27 (.mv (.t 29)),oF 31 30 (.mv (.t 4)),oF 32 30 (.bin .gtr (.t 31) (.c (.int .u8 122))),oT 33 27 (pL 30 (kB true) 32),oO 34 (pK 27 33 (kB false)),oM 35 34,oT 36 35 (.mv (.t 4)),oT 37 35 (.bin .lss (.t 36) (.c (.int .u8 65))),oT 38 35 (.mv (.t 37)),oF 39 38 (.mv (.t 4)),oF 40 38 (.bin .gtr (.t 39) (.c (.int .u8 90))),oT 41 35 (pL 38 (kB true) 40),oO 42 (pK 35 41 (kB false)),oM 43 42,oT 44 43 (.mv (.t 4)),oT 45 43 (.bin .neq (.t 44) (.c (.int .u8 45))),oO 46 (pK 43 45 (kB false))]
def q64_8 : LReg := rG [oO 2 (mK (kB false))]
def q64_9 : LReg := rG [oO 47 (bK .add 15 1),oM 15 47]
def q64_10 : LReg := rG [oM 48 0,oO 49 (cA 84 [48]),oO 50 (.un .not (.t 49)),oM 51 50,oF 52 51 (.mv (.t 0)),oF 53 51 (sN 52),oF 54 51 (bK .eql 53 1),oO 55 (pL 51 (kB true) 54),oM 56 55,oF 57 56 (.mv (.t 0)),oF 58 56 (.sidx (.t 57) (kI 0)),oF 59 56 (.bin .neq (.t 58) (.c (.int .u8 48))),oO 60 (pL 56 (kB true) 59),oM 2 60]
def Tryz.l_version_identifier : LCode := (.seq (.reg q64_0) (.seq (.seq (.reg q64_1) (.cond (.t 12) (.seq (.reg q64_2) .ret) .skip)) (.seq (.seq (.reg q64_3) (.block 0 (.loop (.seq (.reg q64_4) (.seq (.cond (.t 16) .skip (.exit 0)) (.seq (.block 1 (.seq (.reg q64_5) (.seq (.reg q64_6) (.seq (.reg q64_7) (.cond (.t 46) (.seq (.reg q64_8) .ret) .skip))))) (.reg q64_9))))))) (.seq (.reg q64_10) .ret))))
theorem Tryz.c_version_identifier : fnComp Tryz.prog 64 = some (61, Tryz.l_version_identifier,[.t 2]) := by kernel_rfl
def q37_0 : LReg := rG [oO 1 (.box 60 4 (.t 0)),oO 2 (.alloc 26 2 [.int .i64 0,.int .i64 0])]
def q37_1 : LReg := rG [oO 7 (fA 0 1),oO 8 (lV 1 7),oO 9 (fA 1 1),oO 10 (lV 1 9),oO 11 (fA 2 1),oO 12 (lV 1 11),oO 13 (.build [.int .i64 0,.int .i64 0,.int .i64 0] [(0,1,(.t 8)),(1,1,(.t 10)),(2,1,(.t 12))]),oO 14 (mK (kI 0))]
def q37_2 : LReg := rG [oO 15 (bK .lss 14 3)]
def q37_3 : LReg := rG [oM 16 14,oO 17 (.vidx 3 1 false (.t 13) (.t 14)),oM 3 16,oM 4 17]
def q37_4 : LReg := rG [oM 18 4,oO 19 (bK .lss 18 0),oM 20 19,oF 21 20 (.mv (.t 4)),oF 22 20 (bK .gtr 21 1000000000),oO 23 (pL 20 (kB true) 22)]
def q37_5 : LReg := rG [oM 24 3,oO 25 (.build [.int .i64 0,.int .i64 0] [(0,1,(kI 3)),(1,1,(.t 24))]),oX (sT 2 2 25)]
def q37_6 : LReg := rG [oO 26 (bK .add 14 1),oM 14 26]
def q37_7 : LReg := rG [oO 27 (fA 3 1),oO 28 (lV 1 27),oO 29 (lN 28),oO 30 (bK .gtr 29 4)]
def q37_8 : LReg := rG [oO 31 (.build [.int .i64 0,.int .i64 0] [(0,1,(kI 2)),(1,1,(kI (-1)))]),oX (sT 2 2 31)]
def q37_9 : LReg := rG [oO 32 (fA 3 1),oO 33 (lV 1 32),oO 34 (lN 33),oO 35 (mK (kI 0))]
def q37_10 : LReg := rG [oO 36 (bT .lss 35 34)]
def q37_11 : LReg := rG [oM 37 35,oO 38 (iX 1 33 35),oO 39 (lV 1 38),oM 5 37,oM 6 39]
def q37_12 : LReg := rG [oM 40 6,oO 41 (cA 64 [40]),oO 42 (.un .not (.t 41))]
def q37_13 : LReg := rG [oM 43 5,oO 44 (.build [.int .i64 0,.int .i64 0] [(0,1,(kI 5)),(1,1,(.t 43))]),oX (sT 2 2 44)]
def q37_14 : LReg := rG [oO 45 (bK .add 35 1),oM 35 45]
def q37_15 : LReg := rG [oO 46 (.build [.int .i64 0,.int .i64 0] []),oX (sT 2 2 46)]
def Tryz.l_version_Validate : LCode := (.seq (.reg q37_0) (.seq (.seq (.reg q37_1) (.block 0 (.loop (.seq (.reg q37_2) (.seq (.cond (.t 15) .skip (.exit 0)) (.seq (.block 1 (.seq (.reg q37_3) (.seq (.reg q37_4) (.cond (.t 23) (.seq (.reg q37_5) .ret) .skip)))) (.reg q37_6))))))) (.seq (.seq (.reg q37_7) (.cond (.t 30) (.seq (.reg q37_8) .ret) .skip)) (.seq (.seq (.reg q37_9) (.block 2 (.loop (.seq (.reg q37_10) (.seq (.cond (.t 36) .skip (.exit 2)) (.seq (.block 3 (.seq (.reg q37_11) (.seq (.reg q37_12) (.cond (.t 42) (.seq (.reg q37_13) .ret) .skip)))) (.reg q37_14))))))) (.seq (.reg q37_15) .ret)))))
theorem Tryz.c_version_Validate : fnComp Tryz.prog 37 = some (47, Tryz.l_version_Validate,[.cell 2 2 true]) := by kernel_rfl
def q38_0 : LReg := rG [oO 2 (mK (kB false))]
def q38_1 : LReg := rG [oM 3 0,oO 4 (bK .geq 3 0),oM 5 4,oT 6 5 (.mv (.t 0)),oT 7 5 (bK .lss 6 2305843009213693951),oO 8 (pK 5 7 (kB false)),oM 2 8]
def Tryz.l_signing_IsDigest : LCode := (.seq (.reg q38_0) (.seq (.reg q38_1) .ret))
theorem Tryz.c_signing_IsDigest : fnComp Tryz.prog 38 = some (9, Tryz.l_signing_IsDigest,[.t 2]) := by kernel_rfl
def q12_0 : LReg := rG [oO 2 (.alloc 26 2 [.int .i64 0,.int .i64 0])]
def q12_1 : LReg := rG [oM 6 0,oO 7 (lN 6),oO 8 (bK .gtr 7 6)]
def q12_2 : LReg := rG [oO 9 (.build [.int .i64 0,.int .i64 0] [(0,1,(kI 2)),(1,1,(kI (-1)))]),oX (sT 2 2 9)]
def q12_3 : LReg := rG [oM 10 0,oO 11 (lN 10),oO 12 (mK (kI 0))]
def q12_4 : LReg := rG [oO 13 (bT .lss 12 11)]
def q12_5 : LReg := rG [oM 14 12,oO 15 (iX 6 10 12),oO 16 (lA 6 15),oO 4 (.alloc 62 6 [.int .i64 0,.int .i64 0,.int .i64 0,.int .i64 0,.nils,.int .i64 0]),oM 3 14,oX (sT 6 4 16)]
def q12_6 : LReg := rG [oO 17 (fA 1 4),oO 18 (lA 4 17),oO 19 (cA 37 [18]),oO 20 (.field 0 1 false (.t 19)),oM 5 20]
def q12_7 : LReg := rG [oO 22 (fA 0 4),oO 23 (lV 1 22),oO 24 (bK .lss 23 0),oM 25 24,oF 26 25 (fA 0 4),oF 27 25 (lV 1 26),oF 28 25 (bK .geq 27 6),oO 29 (pL 25 (kB true) 28),oM 21 29]
def q12_8 : LReg := rG [oO 5 (mK (kI 3))]
def q12_9 : LReg := rG [oM 31 5,oO 32 (bK .neq 31 0),oM 30 32]
def q12_10 : LReg := rG [oO 34 (fA 5 4),oO 35 (lV 1 34),oO 36 (cA 38 [35]),oO 37 (.un .not (.t 36)),oM 33 37]
def q12_11 : LReg := rG [oO 5 (mK (kI 3))]
def q12_12 : LReg := ⟨[oM 39 3,oO 40 (bK .gtr 39 0),oM 41 40,oT 42 41 (fA 0 4),oT 43 41 (lV 1 42),oT 44 41 (.mv (.t 0)),oT 45 41 (.mv (.t 3)),oT 46 41 (bK .sub 45 1),oT 47 41 (iX 6 44 46),oT 48 41 (fA 0 47),oT 49 41 (lV 1 48),oT 50 41 (bT .leq 43 49),oO 51 (pK 41 50 (kB false)),oM 38 51],true,[(3,8),(4,8),(3,9),(4,9),(3,10),(4,10)]⟩
def q12_13 : LReg := rG [oO 5 (mK (kI 5))]
def q12_14 : LReg := rG [oM 52 5,oO 53 (bK .neq 52 0)]
def q12_15 : LReg := rG [oM 54 5,oM 55 3,oO 56 (.build [.int .i64 0,.int .i64 0] [(0,1,(.t 54)),(1,1,(.t 55))]),oX (sT 2 2 56)]
def q12_16 : LReg := rG [oO 57 (bK .add 12 1),oM 12 57]
def q12_17 : LReg := rG [oO 58 (.build [.int .i64 0,.int .i64 0] []),oX (sT 2 2 58)]
def Tryz.l_lockfile_Validate : LCode := (.seq (.reg q12_0) (.seq (.seq (.reg q12_1) (.cond (.t 8) (.seq (.reg q12_2) .ret) .skip)) (.seq (.seq (.reg q12_3) (.block 0 (.loop (.seq (.reg q12_4) (.seq (.cond (.t 13) .skip (.exit 0)) (.seq (.block 1 (.seq (.reg q12_5) (.seq (.reg q12_6) (.seq (.block 2 (.seq (.reg q12_7) (.cond (.t 21) (.reg q12_8) (.seq (.reg q12_9) (.cond (.t 30) .skip (.seq (.reg q12_10) (.cond (.t 33) (.reg q12_11) (.seq (.reg q12_12) (.cond (.t 38) (.reg q12_13) .skip))))))))) (.seq (.reg q12_14) (.cond (.t 53) (.seq (.reg q12_15) .ret) .skip)))))) (.reg q12_16))))))) (.seq (.reg q12_17) .ret))))
theorem Tryz.c_lockfile_Validate : fnComp Tryz.prog 12 = some (59, Tryz.l_lockfile_Validate,[.cell 2 2 true]) := by kernel_rfl
def q54_0 : LReg := rG [oO 1 (.box 60 4 (.t 0)),oO 2 (mK (.c (.str []))),oO 3 (.alloc 26 2 [.int .i64 0,.int .i64 0])]
def q54_1 : LReg := rG [oO 6 (lA 4 1),oO 7 (cA 37 [6]),oO 4 (.alloc 26 2 [.int .i64 0,.int .i64 0]),oX (sT 2 4 7)]
def q54_2 : LReg := rG [oO 8 (lA 2 4),oO 9 (.build [.int .i64 0,.int .i64 0] []),oO 10 (.eqs true [0,0] (.t 8) (.t 9))]
def q54_3 : LReg := ⟨[oO 11 (lA 2 4),oO 2 (mK (.c (.str []))),oX (sT 2 3 11)],true,[]⟩
def q54_4 : LReg := ⟨[oO 12 (fA 0 1),oO 13 (lV 1 12),oO 14 (cA 55 [13]),oO 15 (.bin .add (.t 14) (.c (.str [46]))),oO 16 (fA 1 1),oO 17 (lV 1 16),oO 18 (cA 55 [17]),oO 19 (bT .add 15 18),oO 20 (.bin .add (.t 19) (.c (.str [46]))),oO 21 (fA 2 1),oO 22 (lV 1 21),oO 23 (cA 55 [22]),oO 24 (bT .add 20 23),oM 5 24],true,[(0,4),(1,4),(2,4),(0,5),(1,5),(2,5),(0,9),(1,9),(2,9),(4,9),(5,9),(6,9),(0,10),(1,10),(2,10),(4,10),(5,10),(6,10)]⟩
def q54_5 : LReg := rG [oO 25 (fA 3 1),oO 26 (lV 1 25),oO 27 (lN 26),oO 28 (bK .gtr 27 0)]
def q54_6 : LReg := rG [oM 29 5,oO 30 (fA 3 1),oO 31 (lV 1 30),oO 32 (.call 76 [(.t 31),(.c (.str [46]))]),oO 33 (.bin .add (.c (.str [45])) (.t 32)),oO 34 (bT .add 29 33),oM 5 34]
def q54_7 : LReg := rG [oM 35 5,oO 36 (.build [.int .i64 0,.int .i64 0] []),oM 2 35,oX (sT 2 3 36)]
def Tryz.l_version_Format : LCode := (.seq (.reg q54_0) (.seq (.seq (.reg q54_1) (.seq (.reg q54_2) (.cond (.t 10) (.seq (.reg q54_3) .ret) .skip))) (.seq (.reg q54_4) (.seq (.seq (.reg q54_5) (.cond (.t 28) (.reg q54_6) .skip)) (.seq (.reg q54_7) .ret)))))
theorem Tryz.c_version_Format : fnComp Tryz.prog 54 = some (37, Tryz.l_version_Format,[.t 2,.cell 3 2 true]) := by kernel_rfl
def q102_0 : LReg := rG [oO 4 (mK (kI 0))]
def q102_1 : LReg := rG [oO 5 (mK (kI 0))]
def q102_2 : LReg := rG [oM 6 1,oO 7 (bK .gtr 6 0)]
def q102_3 : LReg := rG [oM 10 1,oO 11 (bK .and 10 1),oO 12 (bK .eql 11 1)]
def q102_4 : LReg := rG [oM 13 5,oM 14 0,oO 15 (bT .add 13 14),oO 16 (bK .rem 15 2305843009213693951),oM 5 16]
def q102_5 : LReg := rG [oM 17 0,oO 18 (.bin .mul (kI 2) (.t 17)),oO 19 (bK .rem 18 2305843009213693951),oM 0 19]
def q102_6 : LReg := rG [oM 8 1,oO 9 (.bin .shr (.t 8) (.c (.int .u64 1))),oM 1 9]
def q102_7 : LReg := rG [oM 20 5,oM 4 20]
def Tryz.l_digest_mul : LCode := (.seq (.reg q102_0) (.seq (.reg q102_1) (.seq (.block 0 (.loop (.seq (.seq (.reg q102_2) (.cond (.t 7) .skip (.exit 0))) (.seq (.block 1 (.seq (.seq (.reg q102_3) (.cond (.t 12) (.reg q102_4) .skip)) (.reg q102_5))) (.reg q102_6))))) (.seq (.reg q102_7) .ret))))
theorem Tryz.c_digest_mul : fnComp Tryz.prog 102 = some (21, Tryz.l_digest_mul,[.t 4]) := by kernel_rfl
def q85_0 : LReg := rG [oO 2 (.box 123 2 (.t 0)),oO 4 (mK (kI 0))]
def q85_1 : LReg := ⟨[oO 5 (.idxA 2 1 (.t 2) (kI 0)),oO 6 (lV 1 5),oM 7 1,oO 8 (cA 102 [6,7]),oO 9 (.idxA 2 1 (.t 2) (kI 1)),oO 10 (lV 1 9),oO 11 (bT .add 8 10),oO 12 (bK .rem 11 2305843009213693951),oM 4 12],true,[(0,4),(1,4),(3,4),(0,5),(1,5),(3,5)]⟩
def Tryz.l_digest_next : LCode := (.seq (.reg q85_0) (.seq (.reg q85_1) .ret))
theorem Tryz.c_digest_next : fnComp Tryz.prog 85 = some (13, Tryz.l_digest_next,[.t 4]) := by kernel_rfl
def q65_0 : LReg := rG [oO 2 (mK (kI 0)),oO 3 (.alloc 26 2 [.int .i64 0,.int .i64 0])]
def q65_1 : LReg := rG [oM 7 0,oO 8 (lN 7),oO 9 (bK .gtr 8 4096)]
def q65_2 : LReg := rG [oO 10 (.build [.int .i64 0,.int .i64 0] [(0,1,(kI 2))]),oO 2 (mK (kI 0)),oX (sT 2 3 10)]
def q65_3 : LReg := rG [oO 4 (mK (kI 1))]
def q65_4 : LReg := rG [oM 11 0,oO 12 (lN 11),oO 13 (mK (kI 0))]
def q65_5 : LReg := rG [oO 14 (bT .lss 13 12)]
def q65_6 : LReg := rG [oO 15 (iX 1 11 13),oO 16 (lV 1 15),oM 6 16]
def q65_7 : LReg := rG [oM 17 4,oM 18 6,oO 19 (.conv .i64 (.t 18)),oO 20 (bK .add 19 1),oO 21 (.build [.int .i64 0,.int .i64 0] [(0,1,(.t 17)),(1,1,(.t 20))]),oO 22 (.call 85 [(.t 21),(kI 257)]),oM 4 22]
def q65_8 : LReg := rG [oO 23 (bK .add 13 1),oM 13 23]
def q65_9 : LReg := rG [oM 24 4,oO 25 (.build [.int .i64 0,.int .i64 0] []),oM 2 24,oX (sT 2 3 25)]
def Tryz.l_digest_Of : LCode := (.seq (.reg q65_0) (.seq (.seq (.reg q65_1) (.cond (.t 9) (.seq (.reg q65_2) .ret) .skip)) (.seq (.reg q65_3) (.seq (.seq (.reg q65_4) (.block 0 (.loop (.seq (.reg q65_5) (.seq (.cond (.t 14) .skip (.exit 0)) (.seq (.block 1 (.seq (.reg q65_6) (.reg q65_7))) (.reg q65_8))))))) (.seq (.reg q65_9) .ret)))))
theorem Tryz.c_digest_Of : fnComp Tryz.prog 65 = some (26, Tryz.l_digest_Of,[.t 2,.cell 3 2 true]) := by kernel_rfl
def q39_0 : LReg := rG [oO 1 (.box 60 4 (.t 0)),oO 2 (mK (kI 0))]
def q39_1 : LReg := rG [oO 8 (lA 4 1),oO 9 (cA 54 [8]),oM 7 9,oO 10 (eX 0 7),oO 11 (eX 1 7),oO 4 (.alloc 26 2 [.int .i64 0,.int .i64 0]),oM 3 10,oX (sT 2 4 11)]
def q39_2 : LReg := rG [oM 13 3,oO 14 (.toBytes 5 (.t 13)),oO 15 (cA 65 [14]),oM 12 15,oO 16 (eX 0 12),oO 17 (eX 1 12),oO 6 (.alloc 26 2 [.int .i64 0,.int .i64 0]),oM 5 16,oX (sT 2 6 17)]
def q39_3 : LReg := rG [oM 18 5,oM 2 18]
def Tryz.l_lockfile_seal : LCode := (.seq (.reg q39_0) (.seq (.reg q39_1) (.seq (.reg q39_2) (.seq (.reg q39_3) .ret))))
theorem Tryz.c_lockfile_seal : fnComp Tryz.prog 39 = some (19, Tryz.l_lockfile_seal,[.t 2]) := by kernel_rfl
def q13_0 : LReg := rG [oO 2 (mK (.c (.nils))),oO 3 (.alloc 26 2 [.int .i64 0,.int .i64 0])]
def q13_1 : LReg := rG [oM 8 0,oO 9 (cA 12 [8]),oO 4 (.alloc 26 2 [.int .i64 0,.int .i64 0]),oX (sT 2 4 9)]
def q13_2 : LReg := rG [oO 10 (lA 2 4),oO 11 (.build [.int .i64 0,.int .i64 0] []),oO 12 (.eqs true [0,0] (.t 10) (.t 11))]
def q13_3 : LReg := ⟨[oO 13 (lA 2 4),oO 2 (mK (.c (.nils))),oX (sT 2 3 13)],true,[]⟩
def q13_4 : LReg := rG [oO 5 (mK (.c (.nils)))]
def q13_5 : LReg := rG [oM 14 0,oO 15 (lN 14),oO 16 (mK (kI 0))]
def q13_6 : LReg := rG [oO 17 (bT .lss 16 15)]
def q13_7 : LReg := rG [oM 18 16,oO 19 (iX 6 14 16),oO 20 (lA 6 19),oO 7 (.alloc 62 6 [.int .i64 0,.int .i64 0,.int .i64 0,.int .i64 0,.nils,.int .i64 0]),oM 6 18,oX (sT 6 7 20)]
def q13_8 : LReg := ⟨[oO 21 (fA 5 7),oO 22 (lV 1 21),oO 23 (fA 1 7),oO 24 (lA 4 23),oO 25 (cA 39 [24]),oO 26 (bT .neq 22 25)],true,[(0,2),(1,2),(0,3),(1,3),(0,4),(1,4)]⟩
def q13_9 : LReg := rG [oM 27 5,oM 28 6,oO 29 (.mkSlice 3 1 1 [.int .i64 0] [(0,(.t 28))]),oO 30 (.append 3 1 8 (.t 27) (.t 29)),oM 5 30]
def q13_10 : LReg := rG [oO 31 (bK .add 16 1),oM 16 31]
def q13_11 : LReg := rG [oM 32 5,oO 33 (.build [.int .i64 0,.int .i64 0] []),oM 2 32,oX (sT 2 3 33)]
def Tryz.l_lockfile_Corrupt : LCode := (.seq (.reg q13_0) (.seq (.seq (.reg q13_1) (.seq (.reg q13_2) (.cond (.t 12) (.seq (.reg q13_3) .ret) .skip))) (.seq (.reg q13_4) (.seq (.seq (.reg q13_5) (.block 0 (.loop (.seq (.reg q13_6) (.seq (.cond (.t 17) .skip (.exit 0)) (.seq (.block 1 (.seq (.reg q13_7) (.seq (.reg q13_8) (.cond (.t 26) (.reg q13_9) .skip)))) (.reg q13_10))))))) (.seq (.reg q13_11) .ret)))))
theorem Tryz.c_lockfile_Corrupt : fnComp Tryz.prog 13 = some (34, Tryz.l_lockfile_Corrupt,[.t 2,.cell 3 2 true]) := by kernel_rfl
def q14_0 : LReg := rG [oO 4 (mK (kB false))]
def q14_1 : LReg := rG [oM 6 0,oO 7 (lN 6),oM 8 1,oO 9 (lN 8),oO 10 (bT .neq 7 9)]
def q14_2 : LReg := rG [oO 4 (mK (kB false))]
def q14_3 : LReg := rG [oO 5 (mK (kI 0))]
def q14_4 : LReg := rG [oM 11 5,oM 12 0,oO 13 (lN 12),oO 14 (bT .lss 11 13)]
def q14_5 : LReg := ⟨[oM 17 0,oM 18 5,oO 19 (iX 1 17 18),oO 20 (lV 1 19),oM 21 1,oM 22 5,oO 23 (iX 1 21 22),oO 24 (lV 1 23),oO 25 (bT .neq 20 24)],true,[(2,6),(3,6),(2,7),(3,7)]⟩
def q14_6 : LReg := rG [oO 4 (mK (kB false))]
def q14_7 : LReg := rG [oM 15 5,oO 16 (bK .add 15 1),oM 5 16]
def q14_8 : LReg := rG [oO 4 (mK (kB true))]
def Tryz.l_ref5_Ints : LCode := (.seq (.reg q14_0) (.seq (.seq (.reg q14_1) (.cond (.t 10) (.seq (.reg q14_2) .ret) .skip)) (.seq (.seq (.reg q14_3) (.block 0 (.loop (.seq (.seq (.reg q14_4) (.cond (.t 14) .skip (.exit 0))) (.seq (.block 1 (.seq (.reg q14_5) (.cond (.t 25) (.seq (.reg q14_6) .ret) .skip))) (.reg q14_7)))))) (.seq (.reg q14_8) .ret))))
theorem Tryz.c_ref5_Ints : fnComp Tryz.prog 14 = some (26, Tryz.l_ref5_Ints,[.t 4]) := by kernel_rfl
def q16_0 : LReg := rG [oO 4 (.alloc 26 2 [.int .i64 0,.int .i64 0])]
def q16_1 : LReg := rG [oM 5 0,oM 6 1,oO 7 (.build [.int .i64 0,.int .i64 0] [(0,1,(.t 5)),(1,1,(.t 6))]),oX (sT 2 4 7)]
def Tryz.l_law6_fault : LCode := (.seq (.reg q16_0) (.seq (.reg q16_1) .ret))
theorem Tryz.c_law6_fault : fnComp Tryz.prog 16 = some (8, Tryz.l_law6_fault,[.cell 4 2 true]) := by kernel_rfl
def q42_0 : LReg := rG [oO 4 (mK (kI 0))]
def q42_1 : LReg := rG [oM 6 0,oO 7 (lN 6),oO 8 (mK (kI 0))]
def q42_2 : LReg := rG [oO 9 (bT .lss 8 7)]
def q42_3 : LReg := rG [oM 10 8,oM 5 10]
def q42_4 : LReg := rG [oM 11 1,oM 12 0,oM 13 5,oO 14 (iX 6 12 13),oO 15 (lA 6 14),oO 16 (.callv (.t 11) [(.t 15)])]
def q42_5 : LReg := rG [oM 17 5,oM 4 17]
def q42_6 : LReg := rG [oO 18 (bK .add 8 1),oM 8 18]
def q42_7 : LReg := rG [oO 4 (mK (kI (-1)))]
def Tryz.l_slices_IndexFunc_api_LockEntry_api_LockEntry : LCode := (.seq (.reg q42_0) (.seq (.seq (.reg q42_1) (.block 0 (.loop (.seq (.reg q42_2) (.seq (.cond (.t 9) .skip (.exit 0)) (.seq (.block 1 (.seq (.reg q42_3) (.seq (.reg q42_4) (.cond (.t 16) (.seq (.reg q42_5) .ret) .skip)))) (.reg q42_6))))))) (.seq (.reg q42_7) .ret)))
theorem Tryz.c_slices_IndexFunc_api_LockEntry_api_LockEntry : fnComp Tryz.prog 42 = some (19, Tryz.l_slices_IndexFunc_api_LockEntry_api_LockEntry,[.t 4]) := by kernel_rfl
theorem Tryz.b_lockfile_Drift_1_1 : bodied Tryz.prog 43 = true := by kernel_rfl
def q43_0 : LReg := rG [oO 2 (.box 62 6 (.t 0)),oO 3 (mK (kB false))]
def q43_1 : LReg := rG [oO 4 (fA 0 2),oO 5 (lV 1 4),oO 6 (lV 1 1),oO 7 (bT .eql 5 6),oM 3 7]
def Tryz.l_lockfile_Drift_1_1 : LCode := (.seq (.reg q43_0) (.seq (.reg q43_1) .ret))
theorem Tryz.c_lockfile_Drift_1_1 : fnComp Tryz.prog 43 = some (8, Tryz.l_lockfile_Drift_1_1,[.t 3]) := by kernel_rfl
theorem Tryz.b_lockfile_Drift_1 : bodied Tryz.prog 41 = true := by kernel_rfl
def q41_0 : LReg := rG [oO 3 (.box 3 1 (.t 1)),oO 4 (mK (kI 0))]
def q41_1 : LReg := rG [oM 5 0,oO 6 (.mkfn 43 [] [(.t 3)]),oO 7 (cA 42 [5,6]),oM 4 7]
def Tryz.l_lockfile_Drift_1 : LCode := (.seq (.reg q41_0) (.seq (.reg q41_1) .ret))
theorem Tryz.c_lockfile_Drift_1 : fnComp Tryz.prog 41 = some (8, Tryz.l_lockfile_Drift_1,[.t 4]) := by kernel_rfl
def q68_0 : LReg := rG [oO 2 (mK (kI 0))]
def q68_1 : LReg := rG [oO 3 (mK (kI 0))]
def q68_2 : LReg := rG [oM 6 0,oO 7 (lN 6),oO 8 (mK (kI 0))]
def q68_3 : LReg := rG [oO 9 (bT .lss 8 7)]
def q68_4 : LReg := rG [oO 10 (iX 1 6 8),oO 11 (lV 1 10),oM 5 11]
def q68_5 : LReg := rG [oM 12 5,oM 13 3,oO 14 (bT .neq 12 13)]
def q68_6 : LReg := rG [oM 15 5,oM 2 15]
def q68_7 : LReg := rG [oO 16 (bK .add 8 1),oM 8 16]
def q68_8 : LReg := rG [oM 17 3,oM 2 17]
def Tryz.l_cmp_Or_int : LCode := (.seq (.reg q68_0) (.seq (.reg q68_1) (.seq (.seq (.reg q68_2) (.block 0 (.loop (.seq (.reg q68_3) (.seq (.cond (.t 9) .skip (.exit 0)) (.seq (.block 1 (.seq (.reg q68_4) (.seq (.reg q68_5) (.cond (.t 14) (.seq (.reg q68_6) .ret) .skip)))) (.reg q68_7))))))) (.seq (.reg q68_8) .ret))))
theorem Tryz.c_cmp_Or_int : fnComp Tryz.prog 68 = some (18, Tryz.l_cmp_Or_int,[.t 2]) := by kernel_rfl
def q87_0 : LReg := rG [oO 2 (mK (kB false))]
def q87_1 : LReg := rG [oM 3 0,oM 4 0,oO 5 (bT .neq 3 4),oM 2 5]
def Tryz.l_cmp_isNaN_int : LCode := (.seq (.reg q87_0) (.seq (.reg q87_1) .ret))
theorem Tryz.c_cmp_isNaN_int : fnComp Tryz.prog 87 = some (6, Tryz.l_cmp_isNaN_int,[.t 2]) := by kernel_rfl
def q69_0 : LReg := rG [oO 4 (mK (kI 0))]
def q69_1 : LReg := rG [oM 7 0,oO 8 (cA 87 [7]),oM 5 8]
def q69_2 : LReg := rG [oM 9 1,oO 10 (cA 87 [9]),oM 6 10]
def q69_3 : LReg := rG [oM 11 5]
def q69_4 : LReg := rG [oM 12 6]
def q69_5 : LReg := rG [oO 4 (mK (kI 0))]
def q69_6 : LReg := rG [oO 4 (mK (kI (-1)))]
def q69_7 : LReg := rG [oM 13 6]
def q69_8 : LReg := rG [oO 4 (mK (kI 1))]
def q69_9 : LReg := rG [oM 14 0,oM 15 1,oO 16 (bT .lss 14 15)]
def q69_10 : LReg := rG [oO 4 (mK (kI (-1)))]
def q69_11 : LReg := rG [oM 17 0,oM 18 1,oO 19 (bT .gtr 17 18)]
def q69_12 : LReg := rG [oO 4 (mK (kI 1))]
def q69_13 : LReg := rG [oO 4 (mK (kI 0))]
def Tryz.l_cmp_Compare_int : LCode := (.seq (.reg q69_0) (.seq (.reg q69_1) (.seq (.reg q69_2) (.seq (.seq (.reg q69_3) (.cond (.t 11) (.seq (.seq (.reg q69_4) (.cond (.t 12) (.seq (.reg q69_5) .ret) .skip)) (.seq (.reg q69_6) .ret)) .skip)) (.seq (.seq (.reg q69_7) (.cond (.t 13) (.seq (.reg q69_8) .ret) .skip)) (.seq (.seq (.reg q69_9) (.cond (.t 16) (.seq (.reg q69_10) .ret) .skip)) (.seq (.seq (.reg q69_11) (.cond (.t 19) (.seq (.reg q69_12) .ret) .skip)) (.seq (.reg q69_13) .ret))))))))
theorem Tryz.c_cmp_Compare_int : fnComp Tryz.prog 69 = some (20, Tryz.l_cmp_Compare_int,[.t 4]) := by kernel_rfl
def q70_0 : LReg := rG [oO 6 (mK (kI 0))]
def q70_1 : LReg := rG [oM 11 0,oO 12 (lN 11),oO 13 (mK (kI 0))]
def q70_2 : LReg := rG [oO 14 (bT .lss 13 12)]
def q70_3 : LReg := rG [oM 15 13,oO 16 (iX 1 11 13),oO 17 (lV 1 16),oM 7 15,oM 8 17]
def q70_4 : LReg := rG [oM 18 7,oM 19 1,oO 20 (lN 19),oO 21 (bT .geq 18 20)]
def q70_5 : LReg := rG [oO 6 (mK (kI 1))]
def q70_6 : LReg := rG [oM 22 1,oM 23 7,oO 24 (iX 1 22 23),oO 25 (lV 1 24),oM 9 25]
def q70_7 : LReg := rG [oM 26 2,oM 27 8,oM 28 9,oO 29 (.callv (.t 26) [(.t 27),(.t 28)]),oM 10 29]
def q70_8 : LReg := rG [oM 30 10,oO 31 (bK .neq 30 0)]
def q70_9 : LReg := rG [oM 32 10,oM 6 32]
def q70_10 : LReg := rG [oO 33 (bK .add 13 1),oM 13 33]
def q70_11 : LReg := rG [oM 34 0,oO 35 (lN 34),oM 36 1,oO 37 (lN 36),oO 38 (bT .lss 35 37)]
def q70_12 : LReg := rG [oO 6 (mK (kI (-1)))]
def q70_13 : LReg := rG [oO 6 (mK (kI 0))]
def Tryz.l_slices_CompareFunc_string_string_string_string : LCode := (.seq (.reg q70_0) (.seq (.seq (.reg q70_1) (.block 0 (.loop (.seq (.reg q70_2) (.seq (.cond (.t 14) .skip (.exit 0)) (.seq (.block 1 (.seq (.reg q70_3) (.seq (.seq (.reg q70_4) (.cond (.t 21) (.seq (.reg q70_5) .ret) .skip)) (.seq (.reg q70_6) (.seq (.reg q70_7) (.seq (.reg q70_8) (.cond (.t 31) (.seq (.reg q70_9) .ret) .skip))))))) (.reg q70_10))))))) (.seq (.seq (.reg q70_11) (.cond (.t 38) (.seq (.reg q70_12) .ret) .skip)) (.seq (.reg q70_13) .ret))))
theorem Tryz.c_slices_CompareFunc_string_string_string_string : fnComp Tryz.prog 70 = some (39, Tryz.l_slices_CompareFunc_string_string_string_string,[.t 6]) := by kernel_rfl
theorem Tryz.b_version_compareIdentifiers : bodied Tryz.prog 71 = true := by kernel_rfl
def q71_0 : LReg := rG [oO 4 (mK (kI 0))]
def q71_1 : LReg := rG [oM 7 0,oO 8 (cA 84 [7]),oM 9 1,oO 10 (cA 84 [9]),oM 5 8,oM 6 10]
def q71_2 : LReg := rG [oM 12 5,oM 13 12,oT 14 13 (.mv (.t 6)),oO 15 (pK 13 14 (kB false)),oM 11 15]
def q71_3 : LReg := rG [oM 16 0,oO 17 (sN 16),oM 18 1,oO 19 (sN 18),oO 20 (cA 69 [17,19]),oM 21 0,oM 22 1,oO 23 (cA 88 [21,22]),oO 24 (.mkSlice 3 1 2 [.int .i64 0] [(0,(.t 20)),(1,(.t 23))]),oO 25 (cA 68 [24]),oM 4 25]
def q71_4 : LReg := rG [oM 27 5,oM 26 27]
def q71_5 : LReg := rG [oO 4 (mK (kI (-1)))]
def q71_6 : LReg := rG [oM 29 6,oM 28 29]
def q71_7 : LReg := rG [oO 4 (mK (kI 1))]
def q71_8 : LReg := rG [oM 30 0,oM 31 1,oO 32 (cA 88 [30,31]),oM 4 32]
def Tryz.l_version_compareIdentifiers : LCode := (.seq (.reg q71_0) (.seq (.reg q71_1) (.seq (.block 0 (.seq (.reg q71_2) (.cond (.t 11) (.seq (.reg q71_3) .ret) (.seq (.reg q71_4) (.cond (.t 26) (.seq (.reg q71_5) .ret) (.seq (.reg q71_6) (.cond (.t 28) (.seq (.reg q71_7) .ret) .skip))))))) (.seq (.reg q71_8) .ret))))
theorem Tryz.c_version_compareIdentifiers : fnComp Tryz.prog 71 = some (33, Tryz.l_version_compareIdentifiers,[.t 4]) := by kernel_rfl
def q44_0 : LReg := rG [oO 2 (.box 60 4 (.t 0)),oO 3 (.box 60 4 (.t 1)),oO 4 (mK (kI 0))]
def q44_1 : LReg := ⟨[oO 6 (fA 0 2),oO 7 (lV 1 6),oO 8 (fA 0 3),oO 9 (lV 1 8),oO 10 (cA 69 [7,9]),oO 11 (fA 1 2),oO 12 (lV 1 11),oO 13 (fA 1 3),oO 14 (lV 1 13),oO 15 (cA 69 [12,14]),oO 16 (fA 2 2),oO 17 (lV 1 16),oO 18 (fA 2 3),oO 19 (lV 1 18),oO 20 (cA 69 [17,19]),oO 21 (.mkSlice 3 1 3 [.int .i64 0] [(0,(.t 10)),(1,(.t 15)),(2,(.t 20))]),oO 22 (cA 68 [21]),oM 5 22],true,[(0,2),(1,2),(0,3),(1,3),(0,5),(1,5),(2,5),(3,5),(4,5),(0,6),(1,6),(2,6),(3,6),(4,6),(0,7),(1,7),(2,7),(3,7),(4,7),(5,7),(6,7),(0,8),(1,8),(2,8),(3,8),(4,8),(5,8),(6,8),(0,10),(1,10),(2,10),(3,10),(4,10),(5,10),(6,10),(7,10),(8,10),(9,10),(0,11),(1,11),(2,11),(3,11),(4,11),(5,11),(6,11),(7,11),(8,11),(9,11),(0,12),(1,12),(2,12),(3,12),(4,12),(5,12),(6,12),(7,12),(8,12),(9,12),(10,12),(11,12),(0,13),(1,13),(2,13),(3,13),(4,13),(5,13),(6,13),(7,13),(8,13),(9,13),(10,13),(11,13)]⟩
def q44_2 : LReg := rG [oM 23 5,oO 24 (bK .neq 23 0)]
def q44_3 : LReg := rG [oM 25 5,oM 4 25]
def q44_4 : LReg := rG [oO 26 (fA 3 2),oO 27 (lV 1 26),oO 28 (lN 27),oO 29 (bK .eql 28 0),oO 30 (fA 3 3),oO 31 (lV 1 30),oO 32 (lN 31),oO 33 (bK .eql 32 0),oO 34 (.eqb true (.t 29) (.t 33))]
def q44_5 : LReg := rG [oO 35 (fA 3 3),oO 36 (lV 1 35),oO 37 (lN 36),oO 38 (fA 3 2),oO 39 (lV 1 38),oO 40 (lN 39),oO 41 (cA 69 [37,40]),oM 4 41]
def q44_6 : LReg := rG [oO 42 (fA 3 2),oO 43 (lV 1 42),oO 44 (fA 3 3),oO 45 (lV 1 44),oO 46 (.call 70 [(.t 43),(.t 45),(.c (.fn 71 [] []))]),oM 4 46]
def Tryz.l_version_Order : LCode := (.seq (.reg q44_0) (.seq (.seq (.reg q44_1) (.seq (.reg q44_2) (.cond (.t 24) (.seq (.reg q44_3) .ret) .skip))) (.seq (.seq (.reg q44_4) (.cond (.t 34) (.seq (.reg q44_5) .ret) .skip)) (.seq (.reg q44_6) .ret))))
theorem Tryz.c_version_Order : fnComp Tryz.prog 44 = some (47, Tryz.l_version_Order,[.t 4]) := by kernel_rfl
def q17_0 : LReg := rG [oO 4 (mK (.c (.nils))),oO 5 (.alloc 26 2 [.int .i64 0,.int .i64 0])]
def q17_1 : LReg := rG [oM 13 0,oO 14 (cA 12 [13]),oO 6 (.alloc 26 2 [.int .i64 0,.int .i64 0]),oX (sT 2 6 14)]
def q17_2 : LReg := rG [oO 15 (lA 2 6),oO 16 (.build [.int .i64 0,.int .i64 0] []),oO 17 (.eqs true [0,0] (.t 15) (.t 16))]
def q17_3 : LReg := ⟨[oO 18 (lA 2 6),oO 4 (mK (.c (.nils))),oX (sT 2 5 18)],true,[]⟩
def q17_4 : LReg := rG [oM 19 1,oO 20 (cA 12 [19]),oO 7 (.alloc 26 2 [.int .i64 0,.int .i64 0]),oX (sT 2 7 20)]
def q17_5 : LReg := rG [oO 21 (lA 2 7),oO 22 (.build [.int .i64 0,.int .i64 0] []),oO 23 (.eqs true [0,0] (.t 21) (.t 22))]
def q17_6 : LReg := ⟨[oO 24 (fA 0 7),oO 25 (lV 1 24),oO 26 (.build [.int .i64 0,.int .i64 0] [(0,1,(.t 25)),(1,1,(kI (-2)))]),oO 4 (mK (.c (.nils))),oX (sT 2 5 26)],true,[]⟩
def q17_7 : LReg := rG [oO 8 (mK (.c (.fn 41 [] [])))]
def q17_8 : LReg := rG [oO 9 (mK (.c (.nils)))]
def q17_9 : LReg := rG [oO 27 (mK (kI 0))]
def q17_10 : LReg := rG [oO 28 (bK .lss 27 6)]
def q17_11 : LReg := rG [oM 29 27,oM 10 29]
def q17_12 : LReg := rG [oM 30 8,oM 31 0,oM 32 10,oO 33 (.callv (.t 30) [(.t 31),(.t 32)]),oM 34 8,oM 35 1,oM 36 10,oO 37 (.callv (.t 34) [(.t 35),(.t 36)]),oM 11 33,oM 12 37]
def q17_13 : LReg := ⟨[oM 38 11,oO 39 (bK .lss 38 0),oM 40 12,oO 41 (bK .lss 40 0),oO 42 (.eqb true (.t 39) (.t 41)),oM 43 42,oF 44 43 (.mv (.t 11)),oF 45 43 (bK .geq 44 0),oF 46 43 (.mv (.t 45)),oT 47 46 (.mv (.t 0)),oT 48 46 (.mv (.t 11)),oT 49 46 (iX 6 47 48),oT 50 46 (fA 5 49),oT 51 46 (lV 1 50),oT 52 46 (.mv (.t 1)),oT 53 46 (.mv (.t 12)),oT 54 46 (iX 6 52 53),oT 55 46 (fA 5 54),oT 56 46 (lV 1 55),oT 57 46 (bT .neq 51 56),oT 58 46 (.mv (.t 57)),oF 59 58 (.mv (.t 0)),oF 60 58 (.mv (.t 11)),oF 61 58 (iX 6 59 60),oF 62 58 (fA 1 61),oF 63 58 (lA 4 62),oF 64 58 (.mv (.t 1)),oF 65 58 (.mv (.t 12)),oF 66 58 (iX 6 64 65),oF 67 58 (fA 1 66),oF 68 58 (lA 4 67),oF 69 58 (cA 44 [63,68]),oF 70 58 (bK .neq 69 0),oT 71 46 (pL 58 (kB true) 70),oF 72 43 (pK 46 71 (kB false)),oO 73 (pL 43 (kB true) 72)],true,[(11,16),(12,16),(13,16),(11,17),(12,17),(13,17),(11,18),(12,18),(13,18),(23,28),(24,28),(25,28),(23,29),(24,29),(25,29),(23,30),(24,30),(25,30)]⟩
def q17_14 : LReg := rG [oM 74 9,oM 75 10,oO 76 (.mkSlice 3 1 1 [.int .i64 0] [(0,(.t 75))]),oO 77 (.append 3 1 8 (.t 74) (.t 76)),oM 9 77]
def q17_15 : LReg := rG [oO 78 (bK .add 27 1),oM 27 78]
def q17_16 : LReg := rG [oM 79 9,oO 80 (.build [.int .i64 0,.int .i64 0] []),oM 4 79,oX (sT 2 5 80)]
def Tryz.l_lockfile_Drift : LCode := (.seq (.reg q17_0) (.seq (.seq (.reg q17_1) (.seq (.reg q17_2) (.cond (.t 17) (.seq (.reg q17_3) .ret) .skip))) (.seq (.seq (.reg q17_4) (.seq (.reg q17_5) (.cond (.t 23) (.seq (.reg q17_6) .ret) .skip))) (.seq (.reg q17_7) (.seq (.reg q17_8) (.seq (.seq (.reg q17_9) (.block 0 (.loop (.seq (.reg q17_10) (.seq (.cond (.t 28) .skip (.exit 0)) (.seq (.block 1 (.seq (.reg q17_11) (.seq (.reg q17_12) (.seq (.reg q17_13) (.cond (.t 73) (.reg q17_14) .skip))))) (.reg q17_15))))))) (.seq (.reg q17_16) .ret)))))))
theorem Tryz.c_lockfile_Drift : fnComp Tryz.prog 17 = some (81, Tryz.l_lockfile_Drift,[.t 4,.cell 5 2 true]) := by kernel_rfl
def q138_0 : LReg := rG [oO 1 (.box 60 4 (.t 0)),oO 2 (mK (kB false))]
def q138_1 : LReg := rG [oO 3 (fA 0 1),oO 4 (lV 1 3),oO 5 (bK .eql 4 0),oM 6 5,oT 7 6 (fA 1 1),oT 8 6 (lV 1 7),oT 9 6 (bK .eql 8 0),oO 10 (pK 6 9 (kB false)),oM 11 10,oT 12 11 (fA 2 1),oT 13 11 (lV 1 12),oT 14 11 (bK .eql 13 0),oO 15 (pK 11 14 (kB false)),oM 16 15,oT 17 16 (fA 3 1),oT 18 16 (lV 1 17),oT 19 16 (lN 18),oT 20 16 (bK .eql 19 0),oO 21 (pK 16 20 (kB false)),oM 2 21]
def Tryz.l_version_Zero : LCode := (.seq (.reg q138_0) (.seq (.reg q138_1) .ret))
theorem Tryz.c_version_Zero : fnComp Tryz.prog 138 = some (22, Tryz.l_version_Zero,[.t 2]) := by kernel_rfl
def q120_0 : LReg := rG [oO 1 (.box 109 9 (.t 0)),oO 2 (mK (kI 0))]
def q120_1 : LReg := rG [oO 5 (fA 0 1),oO 6 (lA 4 5),oO 7 (cA 37 [6]),oO 3 (.alloc 26 2 [.int .i64 0,.int .i64 0]),oX (sT 2 3 7)]
def q120_2 : LReg := rG [oO 8 (lA 2 3),oO 9 (.build [.int .i64 0,.int .i64 0] []),oO 10 (.eqs true [0,0] (.t 8) (.t 9))]
def q120_3 : LReg := rG [oO 11 (fA 0 3),oO 12 (lV 1 11),oM 2 12]
def q120_4 : LReg := rG [oO 13 (fA 8 1),oO 14 (lV 1 13)]
def q120_5 : LReg := rG [oO 15 (fA 4 1),oO 16 (lA 4 15),oO 17 (cA 138 [16]),oO 18 (.un .not (.t 17))]
def q120_6 : LReg := rG [oO 2 (mK (kI 5))]
def q120_7 : LReg := rG [oO 2 (mK (kI 0))]
def q120_8 : LReg := rG [oO 19 (fA 4 1),oO 20 (lA 4 19),oO 21 (cA 37 [20]),oO 4 (.alloc 26 2 [.int .i64 0,.int .i64 0]),oX (sT 2 4 21)]
def q120_9 : LReg := rG [oO 22 (lA 2 4),oO 23 (.build [.int .i64 0,.int .i64 0] []),oO 24 (.eqs true [0,0] (.t 22) (.t 23))]
def q120_10 : LReg := rG [oO 25 (fA 0 4),oO 26 (lV 1 25),oM 2 26]
def q120_11 : LReg := rG [oO 27 (fA 0 1),oO 28 (lA 4 27),oO 29 (fA 4 1),oO 30 (lA 4 29),oO 31 (cA 44 [28,30]),oO 32 (bK .geq 31 0)]
def q120_12 : LReg := rG [oO 2 (mK (kI 5))]
def q120_13 : LReg := rG [oO 2 (mK (kI 0))]
def Tryz.l_verrange_check : LCode := (.seq (.reg q120_0) (.seq (.seq (.reg q120_1) (.seq (.reg q120_2) (.cond (.t 10) (.seq (.reg q120_3) .ret) .skip))) (.seq (.seq (.reg q120_4) (.cond (.t 14) (.seq (.seq (.reg q120_5) (.cond (.t 18) (.seq (.reg q120_6) .ret) .skip)) (.seq (.reg q120_7) .ret)) .skip)) (.seq (.seq (.reg q120_8) (.seq (.reg q120_9) (.cond (.t 24) (.seq (.reg q120_10) .ret) .skip))) (.seq (.seq (.reg q120_11) (.cond (.t 32) (.seq (.reg q120_12) .ret) .skip)) (.seq (.reg q120_13) .ret))))))
theorem Tryz.c_verrange_check : fnComp Tryz.prog 120 = some (33, Tryz.l_verrange_check,[.t 2]) := by kernel_rfl
def q105_0 : LReg := rG [oO 1 (.box 93 1 (.t 0)),oO 2 (.alloc 26 2 [.int .i64 0,.int .i64 0])]
def q105_1 : LReg := rG [oO 7 (fA 0 1),oO 8 (lV 1 7),oO 9 (lN 8),oO 10 (bK .gtr 9 12)]
def q105_2 : LReg := rG [oO 11 (.build [.int .i64 0,.int .i64 0] [(0,1,(kI 2)),(1,1,(kI (-1)))]),oX (sT 2 2 11)]
def q105_3 : LReg := rG [oO 12 (fA 0 1),oO 13 (lV 1 12),oO 14 (lN 13),oO 15 (mK (kI 0))]
def q105_4 : LReg := rG [oO 16 (bT .lss 15 14)]
def q105_5 : LReg := rG [oM 17 15,oO 18 (iX 9 13 15),oO 19 (lA 9 18),oO 4 (.alloc 109 9 [.int .i64 0,.int .i64 0,.int .i64 0,.nils,.int .i64 0,.int .i64 0,.int .i64 0,.nils,.bool false]),oM 3 17,oX (sT 9 4 19)]
def q105_6 : LReg := rG [oO 20 (lA 9 4),oO 21 (cA 120 [20]),oM 5 21]
def q105_7 : LReg := rG [oM 22 5,oO 23 (bK .eql 22 0),oM 24 23,oT 25 24 (.mv (.t 3)),oT 26 24 (bK .gtr 25 0),oO 27 (pK 24 26 (kB false))]
def q105_8 : LReg := rG [oO 28 (fA 0 1),oO 29 (lV 1 28),oM 30 3,oO 31 (bK .sub 30 1),oO 32 (iX 9 29 31),oO 33 (lA 9 32),oO 6 (.alloc 109 9 [.int .i64 0,.int .i64 0,.int .i64 0,.nils,.int .i64 0,.int .i64 0,.int .i64 0,.nils,.bool false]),oX (sT 9 6 33)]
def q105_9 : LReg := rG [oO 34 (fA 8 6),oO 35 (lV 1 34),oM 36 35,oF 37 36 (fA 4 6),oF 38 36 (lA 4 37),oF 39 36 (fA 0 4),oF 40 36 (lA 4 39),oF 41 36 (cA 44 [38,40]),oF 42 36 (bK .geq 41 0),oO 43 (pL 36 (kB true) 42)]
def q105_10 : LReg := rG [oO 5 (mK (kI 5))]
def q105_11 : LReg := rG [oM 44 5,oO 45 (bK .neq 44 0)]
def q105_12 : LReg := rG [oM 46 5,oM 47 3,oO 48 (.build [.int .i64 0,.int .i64 0] [(0,1,(.t 46)),(1,1,(.t 47))]),oX (sT 2 2 48)]
def q105_13 : LReg := rG [oO 49 (bK .add 15 1),oM 15 49]
def q105_14 : LReg := rG [oO 50 (.build [.int .i64 0,.int .i64 0] []),oX (sT 2 2 50)]
def Tryz.l_verrange_Validate : LCode := (.seq (.reg q105_0) (.seq (.seq (.reg q105_1) (.cond (.t 10) (.seq (.reg q105_2) .ret) .skip)) (.seq (.seq (.reg q105_3) (.block 0 (.loop (.seq (.reg q105_4) (.seq (.cond (.t 16) .skip (.exit 0)) (.seq (.block 1 (.seq (.reg q105_5) (.seq (.reg q105_6) (.seq (.seq (.reg q105_7) (.cond (.t 27) (.seq (.reg q105_8) (.seq (.reg q105_9) (.cond (.t 43) (.reg q105_10) .skip))) .skip)) (.seq (.reg q105_11) (.cond (.t 45) (.seq (.reg q105_12) .ret) .skip)))))) (.reg q105_13))))))) (.seq (.reg q105_14) .ret))))
theorem Tryz.c_verrange_Validate : fnComp Tryz.prog 105 = some (51, Tryz.l_verrange_Validate,[.cell 2 2 true]) := by kernel_rfl
def q92_0 : LReg := rG [oO 4 (mK (kI 0))]
def q92_1 : LReg := rG [oM 8 0,oO 9 (lN 8),oO 10 (bK .gtr 9 4)]
def q92_2 : LReg := rG [oO 4 (mK (kI 2))]
def q92_3 : LReg := rG [oM 11 0,oO 12 (lN 11),oO 13 (mK (kI 0))]
def q92_4 : LReg := rG [oO 14 (bT .lss 13 12)]
def q92_5 : LReg := rG [oM 15 13,oO 16 (iX 2 11 13),oO 17 (lA 2 16),oO 6 (.alloc 95 2 [.int .i64 0,.nils]),oM 5 15,oX (sT 2 6 17)]
def q92_6 : LReg := rG [oO 18 (fA 0 6),oO 19 (lV 1 18),oO 20 (bK .lss 19 0),oM 21 20,oF 22 21 (fA 0 6),oF 23 21 (lV 1 22),oF 24 21 (.mv (.t 1)),oF 25 21 (bT .geq 23 24),oO 26 (pL 21 (kB true) 25)]
def q92_7 : LReg := rG [oO 4 (mK (kI 3))]
def q92_8 : LReg := rG [oO 27 (fA 1 6),oO 28 (lA 1 27),oO 29 (cA 105 [28]),oO 7 (.alloc 26 2 [.int .i64 0,.int .i64 0]),oX (sT 2 7 29)]
def q92_9 : LReg := rG [oO 30 (lA 2 7),oO 31 (.build [.int .i64 0,.int .i64 0] []),oO 32 (.eqs true [0,0] (.t 30) (.t 31))]
def q92_10 : LReg := rG [oO 33 (fA 0 7),oO 34 (lV 1 33),oM 4 34]
def q92_11 : LReg := ⟨[oM 35 5,oO 36 (bK .gtr 35 0),oM 37 36,oT 38 37 (fA 0 6),oT 39 37 (lV 1 38),oT 40 37 (.mv (.t 0)),oT 41 37 (.mv (.t 5)),oT 42 37 (bK .sub 41 1),oT 43 37 (iX 2 40 42),oT 44 37 (fA 0 43),oT 45 37 (lV 1 44),oT 46 37 (bT .leq 39 45),oO 47 (pK 37 46 (kB false))],true,[(3,8),(4,8),(3,9),(4,9),(3,10),(4,10)]⟩
def q92_12 : LReg := rG [oO 4 (mK (kI 5))]
def q92_13 : LReg := rG [oO 48 (bK .add 13 1),oM 13 48]
def q92_14 : LReg := rG [oO 4 (mK (kI 0))]
def Tryz.l_solver_Needs : LCode := (.seq (.reg q92_0) (.seq (.seq (.reg q92_1) (.cond (.t 10) (.seq (.reg q92_2) .ret) .skip)) (.seq (.seq (.reg q92_3) (.block 0 (.loop (.seq (.reg q92_4) (.seq (.cond (.t 14) .skip (.exit 0)) (.seq (.block 1 (.seq (.reg q92_5) (.seq (.seq (.reg q92_6) (.cond (.t 26) (.seq (.reg q92_7) .ret) .skip)) (.seq (.seq (.reg q92_8) (.seq (.reg q92_9) (.cond (.t 32) (.seq (.reg q92_10) .ret) .skip))) (.seq (.reg q92_11) (.cond (.t 47) (.seq (.reg q92_12) .ret) .skip)))))) (.reg q92_13))))))) (.seq (.reg q92_14) .ret))))
theorem Tryz.c_solver_Needs : fnComp Tryz.prog 92 = some (49, Tryz.l_solver_Needs,[.t 4]) := by kernel_rfl
def q74_0 : LReg := rG [oO 4 (mK (kI 0))]
def q74_1 : LReg := rG [oM 9 0,oO 10 (lN 9),oO 11 (bK .gtr 10 4)]
def q74_2 : LReg := rG [oO 4 (mK (kI 2))]
def q74_3 : LReg := rG [oM 12 0,oO 13 (lN 12),oO 14 (mK (kI 0))]
def q74_4 : LReg := rG [oO 15 (bT .lss 14 13)]
def q74_5 : LReg := rG [oM 16 14,oO 17 (iX 5 12 14),oO 18 (lA 5 17),oO 6 (.alloc 75 5 [.int .i64 0,.int .i64 0,.int .i64 0,.nils,.nils]),oM 5 16,oX (sT 5 6 18)]
def q74_6 : LReg := rG [oO 19 (fA 0 6),oO 20 (lA 4 19),oO 21 (cA 37 [20]),oO 7 (.alloc 26 2 [.int .i64 0,.int .i64 0]),oX (sT 2 7 21)]
def q74_7 : LReg := rG [oO 22 (lA 2 7),oO 23 (.build [.int .i64 0,.int .i64 0] []),oO 24 (.eqs true [0,0] (.t 22) (.t 23))]
def q74_8 : LReg := rG [oO 25 (fA 0 7),oO 26 (lV 1 25),oM 4 26]
def q74_9 : LReg := ⟨[oM 27 5,oO 28 (bK .gtr 27 0),oM 29 28,oT 30 29 (fA 0 6),oT 31 29 (lA 4 30),oT 32 29 (.mv (.t 0)),oT 33 29 (.mv (.t 5)),oT 34 29 (bK .sub 33 1),oT 35 29 (iX 5 32 34),oT 36 29 (fA 0 35),oT 37 29 (lA 4 36),oT 38 29 (cA 44 [31,37]),oT 39 29 (bK .leq 38 0),oO 40 (pK 29 39 (kB false))],true,[(3,8),(4,8),(3,9),(4,9),(3,10),(4,10)]⟩
def q74_10 : LReg := rG [oO 4 (mK (kI 5))]
def q74_11 : LReg := rG [oO 41 (fA 4 6),oO 42 (lV 1 41),oM 43 1,oO 44 (cA 92 [42,43]),oM 8 44]
def q74_12 : LReg := rG [oM 45 8,oO 46 (bK .neq 45 0)]
def q74_13 : LReg := rG [oM 47 8,oM 4 47]
def q74_14 : LReg := rG [oO 48 (bK .add 14 1),oM 14 48]
def q74_15 : LReg := rG [oO 4 (mK (kI 0))]
def Tryz.l_solver_releases : LCode := (.seq (.reg q74_0) (.seq (.seq (.reg q74_1) (.cond (.t 11) (.seq (.reg q74_2) .ret) .skip)) (.seq (.seq (.reg q74_3) (.block 0 (.loop (.seq (.reg q74_4) (.seq (.cond (.t 15) .skip (.exit 0)) (.seq (.block 1 (.seq (.reg q74_5) (.seq (.seq (.reg q74_6) (.seq (.reg q74_7) (.cond (.t 24) (.seq (.reg q74_8) .ret) .skip))) (.seq (.seq (.reg q74_9) (.cond (.t 40) (.seq (.reg q74_10) .ret) .skip)) (.seq (.reg q74_11) (.seq (.reg q74_12) (.cond (.t 46) (.seq (.reg q74_13) .ret) .skip))))))) (.reg q74_14))))))) (.seq (.reg q74_15) .ret))))
theorem Tryz.c_solver_releases : fnComp Tryz.prog 74 = some (49, Tryz.l_solver_releases,[.t 4]) := by kernel_rfl
def q50_0 : LReg := rG [oO 1 (.box 39 1 (.t 0)),oO 2 (.alloc 26 2 [.int .i64 0,.int .i64 0])]
def q50_1 : LReg := rG [oO 6 (fA 0 1),oO 7 (lV 1 6),oO 8 (lN 7),oO 9 (bK .gtr 8 6)]
def q50_2 : LReg := rG [oO 10 (.build [.int .i64 0,.int .i64 0] [(0,1,(kI 2)),(1,1,(kI (-1)))]),oX (sT 2 2 10)]
def q50_3 : LReg := rG [oO 11 (fA 0 1),oO 12 (lV 1 11),oO 13 (lN 12),oO 14 (mK (kI 0))]
def q50_4 : LReg := rG [oO 15 (bT .lss 14 13)]
def q50_5 : LReg := rG [oM 16 14,oO 17 (iX 1 12 14),oO 18 (lV 1 17),oM 3 16,oM 4 18]
def q50_6 : LReg := rG [oM 19 4,oO 20 (fA 0 1),oO 21 (lV 1 20),oO 22 (lN 21),oO 23 (cA 74 [19,22]),oM 5 23]
def q50_7 : LReg := rG [oM 24 5,oO 25 (bK .neq 24 0)]
def q50_8 : LReg := rG [oM 26 5,oM 27 3,oO 28 (.build [.int .i64 0,.int .i64 0] [(0,1,(.t 26)),(1,1,(.t 27))]),oX (sT 2 2 28)]
def q50_9 : LReg := rG [oO 29 (bK .add 14 1),oM 14 29]
def q50_10 : LReg := rG [oO 30 (.build [.int .i64 0,.int .i64 0] []),oX (sT 2 2 30)]
def Tryz.l_solver_Validate : LCode := (.seq (.reg q50_0) (.seq (.seq (.reg q50_1) (.cond (.t 9) (.seq (.reg q50_2) .ret) .skip)) (.seq (.seq (.reg q50_3) (.block 0 (.loop (.seq (.reg q50_4) (.seq (.cond (.t 15) .skip (.exit 0)) (.seq (.block 1 (.seq (.reg q50_5) (.seq (.reg q50_6) (.seq (.reg q50_7) (.cond (.t 25) (.seq (.reg q50_8) .ret) .skip))))) (.reg q50_9))))))) (.seq (.reg q50_10) .ret))))
theorem Tryz.c_solver_Validate : fnComp Tryz.prog 50 = some (31, Tryz.l_solver_Validate,[.cell 2 2 true]) := by kernel_rfl
def q51_0 : LReg := rG [oO 2 (.box 39 1 (.t 0)),oO 4 (.alloc 26 2 [.int .i64 0,.int .i64 0])]
def q51_1 : LReg := rG [oM 7 1,oO 8 (lN 7),oO 9 (fA 0 2),oO 10 (lV 1 9),oO 11 (lN 10),oO 12 (bT .neq 8 11)]
def q51_2 : LReg := rG [oO 13 (.build [.int .i64 0,.int .i64 0] [(0,1,(kI 9)),(1,1,(kI (-3)))]),oX (sT 2 4 13)]
def q51_3 : LReg := rG [oM 14 1,oO 15 (lN 14),oO 16 (mK (kI 0))]
def q51_4 : LReg := rG [oO 17 (bT .lss 16 15)]
def q51_5 : LReg := rG [oM 18 16,oO 19 (iX 1 14 16),oO 20 (lV 1 19),oM 5 18,oM 6 20]
def q51_6 : LReg := rG [oM 21 6,oO 22 (bK .lss 21 (-1)),oM 23 22,oF 24 23 (.mv (.t 6)),oF 25 23 (fA 0 2),oF 26 23 (lV 1 25),oF 27 23 (.mv (.t 5)),oF 28 23 (iX 1 26 27),oF 29 23 (lV 1 28),oF 30 23 (lN 29),oF 31 23 (bT .geq 24 30),oO 32 (pL 23 (kB true) 31)]
def q51_7 : LReg := rG [oO 33 (.build [.int .i64 0,.int .i64 0] [(0,1,(kI 3)),(1,1,(kI (-4)))]),oX (sT 2 4 33)]
def q51_8 : LReg := rG [oO 34 (bK .add 16 1),oM 16 34]
def q51_9 : LReg := rG [oO 35 (.build [.int .i64 0,.int .i64 0] []),oX (sT 2 4 35)]
def Tryz.l_solver_Chosen : LCode := (.seq (.reg q51_0) (.seq (.seq (.reg q51_1) (.cond (.t 12) (.seq (.reg q51_2) .ret) .skip)) (.seq (.seq (.reg q51_3) (.block 0 (.loop (.seq (.reg q51_4) (.seq (.cond (.t 17) .skip (.exit 0)) (.seq (.block 1 (.seq (.reg q51_5) (.seq (.reg q51_6) (.cond (.t 32) (.seq (.reg q51_7) .ret) .skip)))) (.reg q51_8))))))) (.seq (.reg q51_9) .ret))))
theorem Tryz.c_solver_Chosen : fnComp Tryz.prog 51 = some (36, Tryz.l_solver_Chosen,[.cell 4 2 true]) := by kernel_rfl
def q75_0 : LReg := rG [oO 2 (mK (.c (.nils)))]
def q75_1 : LReg := rG [oM 3 0,oO 4 (.isnil false (.t 3))]
def q75_2 : LReg := rG [oO 2 (mK (.c (.nils)))]
def q75_3 : LReg := rG [oO 5 (.mkSlice 9 1 0 [.str []] []),oM 6 0,oO 7 (.append 9 1 16 (.t 5) (.t 6)),oM 2 7]
def Tryz.l_slices_Clone_string : LCode := (.seq (.reg q75_0) (.seq (.seq (.reg q75_1) (.cond (.t 4) (.seq (.reg q75_2) .ret) .skip)) (.seq (.reg q75_3) .ret)))
theorem Tryz.c_slices_Clone_string : fnComp Tryz.prog 75 = some (8, Tryz.l_slices_Clone_string,[.t 2]) := by kernel_rfl
def q52_0 : LReg := rG [oO 1 (.box 60 4 (.t 0)),oO 2 (.alloc 60 4 [.int .i64 0,.int .i64 0,.int .i64 0,.nils])]
def q52_1 : LReg := rG [oO 3 (fA 3 1),oO 4 (lV 1 3),oO 5 (cA 75 [4]),oO 6 (fA 3 1),oX (sT 1 6 5)]
def q52_2 : LReg := rG [oO 7 (lA 4 1),oX (sT 4 2 7)]
def Tryz.l_version_Copy : LCode := (.seq (.reg q52_0) (.seq (.reg q52_1) (.seq (.reg q52_2) .ret)))
theorem Tryz.c_version_Copy : fnComp Tryz.prog 52 = some (8, Tryz.l_version_Copy,[.cell 2 4 true]) := by kernel_rfl
def q22_0 : LReg := rG [oO 2 (.box 39 1 (.t 0)),oO 4 (mK (.c (.nils))),oO 5 (.alloc 26 2 [.int .i64 0,.int .i64 0])]
def q22_1 : LReg := rG [oO 12 (lA 1 2),oO 13 (cA 50 [12]),oO 6 (.alloc 26 2 [.int .i64 0,.int .i64 0]),oX (sT 2 6 13)]
def q22_2 : LReg := rG [oO 14 (lA 2 6),oO 15 (.build [.int .i64 0,.int .i64 0] []),oO 16 (.eqs true [0,0] (.t 14) (.t 15))]
def q22_3 : LReg := ⟨[oO 17 (lA 2 6),oO 4 (mK (.c (.nils))),oX (sT 2 5 17)],true,[]⟩
def q22_4 : LReg := rG [oO 18 (lA 1 2),oM 19 1,oO 20 (cA 51 [18,19]),oO 7 (.alloc 26 2 [.int .i64 0,.int .i64 0]),oX (sT 2 7 20)]
def q22_5 : LReg := rG [oO 21 (lA 2 7),oO 22 (.build [.int .i64 0,.int .i64 0] []),oO 23 (.eqs true [0,0] (.t 21) (.t 22))]
def q22_6 : LReg := ⟨[oO 24 (lA 2 7),oO 4 (mK (.c (.nils))),oX (sT 2 5 24)],true,[]⟩
def q22_7 : LReg := rG [oO 8 (mK (.c (.nils)))]
def q22_8 : LReg := rG [oM 25 1,oO 26 (lN 25),oO 27 (mK (kI 0))]
def q22_9 : LReg := rG [oO 28 (bT .lss 27 26)]
def q22_10 : LReg := rG [oM 29 27,oO 30 (iX 1 25 27),oO 31 (lV 1 30),oM 9 29,oM 10 31]
def q22_11 : LReg := rG [oM 32 10,oO 33 (bK .geq 32 0)]
def q22_12 : LReg := rG [oO 34 (fA 0 2),oO 35 (lV 1 34),oM 36 9,oO 37 (iX 1 35 36),oO 38 (lV 1 37),oM 39 10,oO 40 (iX 5 38 39),oO 41 (fA 0 40),oO 42 (lA 4 41),oO 43 (cA 52 [42]),oO 11 (.alloc 60 4 [.int .i64 0,.int .i64 0,.int .i64 0,.nils]),oX (sT 4 11 43)]
def q22_13 : LReg := ⟨[oM 44 8,oM 45 9,oO 46 (lA 4 11),oO 47 (lA 4 11),oO 48 (cA 39 [47]),oO 49 (.build [.int .i64 0,.int .i64 0,.int .i64 0,.int .i64 0,.nils,.int .i64 0] [(0,1,(.t 45)),(1,4,(.t 46)),(5,1,(.t 48))]),oO 50 (.mkSlice 62 6 1 [.int .i64 0,.int .i64 0,.int .i64 0,.int .i64 0,.nils,.int .i64 0] [(0,(.t 49))]),oO 51 (.append 62 6 64 (.t 44) (.t 50)),oM 8 51],true,[(2,3),(2,4)]⟩
def q22_14 : LReg := rG [oO 52 (bK .add 27 1),oM 27 52]
def q22_15 : LReg := rG [oM 53 8,oO 54 (.build [.int .i64 0,.int .i64 0] []),oM 4 53,oX (sT 2 5 54)]
def Tryz.l_lockfile_Make : LCode := (.seq (.reg q22_0) (.seq (.seq (.reg q22_1) (.seq (.reg q22_2) (.cond (.t 16) (.seq (.reg q22_3) .ret) .skip))) (.seq (.seq (.reg q22_4) (.seq (.reg q22_5) (.cond (.t 23) (.seq (.reg q22_6) .ret) .skip))) (.seq (.reg q22_7) (.seq (.seq (.reg q22_8) (.block 0 (.loop (.seq (.reg q22_9) (.seq (.cond (.t 28) .skip (.exit 0)) (.seq (.block 1 (.seq (.reg q22_10) (.seq (.reg q22_11) (.cond (.t 33) (.seq (.reg q22_12) (.reg q22_13)) .skip)))) (.reg q22_14))))))) (.seq (.reg q22_15) .ret))))))
theorem Tryz.c_lockfile_Make : fnComp Tryz.prog 22 = some (55, Tryz.l_lockfile_Make,[.t 4,.cell 5 2 true]) := by kernel_rfl
def q53_0 : LReg := rG [oO 2 (.box 60 4 (.t 0)),oO 3 (.box 60 4 (.t 1)),oO 4 (mK (kB false))]
def q53_1 : LReg := rG [oO 6 (fA 0 2),oO 7 (lV 1 6),oO 8 (fA 0 3),oO 9 (lV 1 8),oO 10 (bT .neq 7 9),oM 11 10,oF 12 11 (fA 1 2),oF 13 11 (lV 1 12),oF 14 11 (fA 1 3),oF 15 11 (lV 1 14),oF 16 11 (bT .neq 13 15),oO 17 (pL 11 (kB true) 16),oM 18 17,oF 19 18 (fA 2 2),oF 20 18 (lV 1 19),oF 21 18 (fA 2 3),oF 22 18 (lV 1 21),oF 23 18 (bT .neq 20 22),oO 24 (pL 18 (kB true) 23),oM 25 24,oF 26 25 (fA 3 2),oF 27 25 (lV 1 26),oF 28 25 (lN 27),oF 29 25 (fA 3 3),oF 30 25 (lV 1 29),oF 31 25 (lN 30),oF 32 25 (bT .neq 28 31),oO 33 (pL 25 (kB true) 32)]
def q53_2 : LReg := rG [oO 4 (mK (kB false))]
def q53_3 : LReg := rG [oO 5 (mK (kI 0))]
def q53_4 : LReg := rG [oM 34 5,oO 35 (fA 3 2),oO 36 (lV 1 35),oO 37 (lN 36),oO 38 (bT .lss 34 37)]
def q53_5 : LReg := ⟨[oO 41 (fA 3 2),oO 42 (lV 1 41),oM 43 5,oO 44 (iX 1 42 43),oO 45 (lV 1 44),oO 46 (fA 3 3),oO 47 (lV 1 46),oM 48 5,oO 49 (iX 1 47 48),oO 50 (lV 1 49),oO 51 (bT .neq 45 50)],true,[(0,5),(1,5),(3,5),(4,5),(0,6),(1,6),(3,6),(4,6),(0,8),(1,8),(3,8),(4,8),(0,9),(1,9),(3,9),(4,9)]⟩
def q53_6 : LReg := rG [oO 4 (mK (kB false))]
def q53_7 : LReg := rG [oM 39 5,oO 40 (bK .add 39 1),oM 5 40]
def q53_8 : LReg := rG [oO 4 (mK (kB true))]
def Tryz.l_ref5_SameVersion : LCode := (.seq (.reg q53_0) (.seq (.seq (.reg q53_1) (.cond (.t 33) (.seq (.reg q53_2) .ret) .skip)) (.seq (.seq (.reg q53_3) (.block 0 (.loop (.seq (.seq (.reg q53_4) (.cond (.t 38) .skip (.exit 0))) (.seq (.block 1 (.seq (.reg q53_5) (.cond (.t 51) (.seq (.reg q53_6) .ret) .skip))) (.reg q53_7)))))) (.seq (.reg q53_8) .ret))))
theorem Tryz.c_ref5_SameVersion : fnComp Tryz.prog 53 = some (52, Tryz.l_ref5_SameVersion,[.t 4]) := by kernel_rfl
def q23_0 : LReg := rG [oO 4 (mK (kB false))]
def q23_1 : LReg := rG [oM 6 0,oO 7 (lN 6),oM 8 1,oO 9 (lN 8),oO 10 (bT .neq 7 9)]
def q23_2 : LReg := rG [oO 4 (mK (kB false))]
def q23_3 : LReg := rG [oO 5 (mK (kI 0))]
def q23_4 : LReg := rG [oM 11 5,oM 12 0,oO 13 (lN 12),oO 14 (bT .lss 11 13)]
def q23_5 : LReg := ⟨[oM 17 0,oM 18 5,oO 19 (iX 6 17 18),oO 20 (fA 0 19),oO 21 (lV 1 20),oM 22 1,oM 23 5,oO 24 (iX 6 22 23),oO 25 (fA 0 24),oO 26 (lV 1 25),oO 27 (bT .neq 21 26),oM 28 27,oF 29 28 (.mv (.t 0)),oF 30 28 (.mv (.t 5)),oF 31 28 (iX 6 29 30),oF 32 28 (fA 5 31),oF 33 28 (lV 1 32),oF 34 28 (.mv (.t 1)),oF 35 28 (.mv (.t 5)),oF 36 28 (iX 6 34 35),oF 37 28 (fA 5 36),oF 38 28 (lV 1 37),oF 39 28 (bT .neq 33 38),oO 40 (pL 28 (kB true) 39),oM 41 40,oF 42 41 (.mv (.t 0)),oF 43 41 (.mv (.t 5)),oF 44 41 (iX 6 42 43),oF 45 41 (fA 1 44),oF 46 41 (lA 4 45),oF 47 41 (.mv (.t 1)),oF 48 41 (.mv (.t 5)),oF 49 41 (iX 6 47 48),oF 50 41 (fA 1 49),oF 51 41 (lA 4 50),oF 52 41 (cA 53 [46,51]),oF 53 41 (.un .not (.t 52)),oO 54 (pL 41 (kB true) 53)],true,[(2,7),(3,7),(4,7),(2,8),(3,8),(4,8),(2,9),(3,9),(4,9),(14,19),(15,19),(16,19),(14,20),(15,20),(16,20),(14,21),(15,21),(16,21),(27,32),(28,32),(29,32),(27,33),(28,33),(29,33),(27,34),(28,34),(29,34)]⟩
def q23_6 : LReg := rG [oO 4 (mK (kB false))]
def q23_7 : LReg := rG [oM 15 5,oO 16 (bK .add 15 1),oM 5 16]
def q23_8 : LReg := rG [oO 4 (mK (kB true))]
def Tryz.l_ref6_SameLock : LCode := (.seq (.reg q23_0) (.seq (.seq (.reg q23_1) (.cond (.t 10) (.seq (.reg q23_2) .ret) .skip)) (.seq (.seq (.reg q23_3) (.block 0 (.loop (.seq (.seq (.reg q23_4) (.cond (.t 14) .skip (.exit 0))) (.seq (.block 1 (.seq (.reg q23_5) (.cond (.t 54) (.seq (.reg q23_6) .ret) .skip))) (.reg q23_7)))))) (.seq (.reg q23_8) .ret))))
theorem Tryz.c_ref6_SameLock : fnComp Tryz.prog 23 = some (55, Tryz.l_ref6_SameLock,[.t 4]) := by kernel_rfl
def q25_0 : LReg := rG [oO 2 (mK (.c (.nils))),oO 3 (.alloc 26 2 [.int .i64 0,.int .i64 0])]
def q25_1 : LReg := rG [oM 10 0,oO 11 (cA 12 [10]),oO 4 (.alloc 26 2 [.int .i64 0,.int .i64 0]),oX (sT 2 4 11)]
def q25_2 : LReg := rG [oO 12 (lA 2 4),oO 13 (.build [.int .i64 0,.int .i64 0] []),oO 14 (.eqs true [0,0] (.t 12) (.t 13))]
def q25_3 : LReg := ⟨[oO 15 (lA 2 4),oO 2 (mK (.c (.nils))),oX (sT 2 3 15)],true,[]⟩
def q25_4 : LReg := rG [oO 5 (mK (.c (.nils)))]
def q25_5 : LReg := rG [oM 16 0,oO 17 (lN 16),oO 18 (mK (kI 0))]
def q25_6 : LReg := rG [oO 19 (bT .lss 18 17)]
def q25_7 : LReg := rG [oO 20 (iX 6 16 18),oO 21 (lA 6 20),oO 7 (.alloc 62 6 [.int .i64 0,.int .i64 0,.int .i64 0,.int .i64 0,.nils,.int .i64 0]),oX (sT 6 7 21)]
def q25_8 : LReg := rG [oO 23 (fA 1 7),oO 24 (lA 4 23),oO 25 (cA 54 [24]),oM 22 25,oO 26 (eX 0 22),oO 27 (eX 1 22),oO 9 (.alloc 26 2 [.int .i64 0,.int .i64 0]),oM 8 26,oX (sT 2 9 27)]
def q25_9 : LReg := ⟨[oM 28 5,oO 29 (fA 0 7),oO 30 (lV 1 29),oO 31 (cA 55 [30]),oO 32 (.bin .add (.t 31) (.c (.str [32]))),oM 33 8,oO 34 (bT .add 32 33),oO 35 (.bin .add (.t 34) (.c (.str [32]))),oO 36 (fA 5 7),oO 37 (lV 1 36),oO 38 (cA 55 [37]),oO 39 (bT .add 35 38),oO 40 (.mkSlice 9 1 1 [.str []] [(0,(.t 39))]),oO 41 (.append 9 1 16 (.t 28) (.t 40)),oM 5 41],true,[(1,8),(2,8),(3,8),(1,9),(2,9),(3,9)]⟩
def q25_10 : LReg := rG [oO 42 (bK .add 18 1),oM 18 42]
def q25_11 : LReg := rG [oM 43 5,oO 44 (.build [.int .i64 0,.int .i64 0] []),oM 2 43,oX (sT 2 3 44)]
def Tryz.l_lockfile_Write : LCode := (.seq (.reg q25_0) (.seq (.seq (.reg q25_1) (.seq (.reg q25_2) (.cond (.t 14) (.seq (.reg q25_3) .ret) .skip))) (.seq (.reg q25_4) (.seq (.seq (.reg q25_5) (.block 0 (.loop (.seq (.reg q25_6) (.seq (.cond (.t 19) .skip (.exit 0)) (.seq (.block 1 (.seq (.reg q25_7) (.seq (.reg q25_8) (.reg q25_9)))) (.reg q25_10))))))) (.seq (.reg q25_11) .ret)))))
theorem Tryz.c_lockfile_Write : fnComp Tryz.prog 25 = some (45, Tryz.l_lockfile_Write,[.t 2,.cell 3 2 true]) := by kernel_rfl
def q26_0 : LReg := rG [oO 4 (mK (kB false))]
def q26_1 : LReg := rG [oM 6 0,oO 7 (lN 6),oM 8 1,oO 9 (lN 8),oO 10 (bT .neq 7 9)]
def q26_2 : LReg := rG [oO 4 (mK (kB false))]
def q26_3 : LReg := rG [oO 5 (mK (kI 0))]
def q26_4 : LReg := rG [oM 11 5,oM 12 0,oO 13 (lN 12),oO 14 (bT .lss 11 13)]
def q26_5 : LReg := ⟨[oM 17 0,oM 18 5,oO 19 (iX 1 17 18),oO 20 (lV 1 19),oM 21 1,oM 22 5,oO 23 (iX 1 21 22),oO 24 (lV 1 23),oO 25 (bT .neq 20 24)],true,[(2,6),(3,6),(2,7),(3,7)]⟩
def q26_6 : LReg := rG [oO 4 (mK (kB false))]
def q26_7 : LReg := rG [oM 15 5,oO 16 (bK .add 15 1),oM 5 16]
def q26_8 : LReg := rG [oO 4 (mK (kB true))]
def Tryz.l_ref6_Strings : LCode := (.seq (.reg q26_0) (.seq (.seq (.reg q26_1) (.cond (.t 10) (.seq (.reg q26_2) .ret) .skip)) (.seq (.seq (.reg q26_3) (.block 0 (.loop (.seq (.seq (.reg q26_4) (.cond (.t 14) .skip (.exit 0))) (.seq (.block 1 (.seq (.reg q26_5) (.cond (.t 25) (.seq (.reg q26_6) .ret) .skip))) (.reg q26_7)))))) (.seq (.reg q26_8) .ret))))
theorem Tryz.c_ref6_Strings : fnComp Tryz.prog 26 = some (26, Tryz.l_ref6_Strings,[.t 4]) := by kernel_rfl
def q80_0 : LReg := rG [oO 2 (.alloc 60 4 [.int .i64 0,.int .i64 0,.int .i64 0,.nils]),oO 3 (.alloc 26 2 [.int .i64 0,.int .i64 0])]
def q80_1 : LReg := rG [oM 14 0,oO 15 (sN 14),oO 16 (bK .gtr 15 80)]
def q80_2 : LReg := rG [oO 17 (.build [.int .i64 0,.int .i64 0,.int .i64 0,.nils] []),oO 18 (.build [.int .i64 0,.int .i64 0] [(0,1,(kI 2)),(1,1,(kI (-1)))]),oX (sT 4 2 17),oX (sT 2 3 18)]
def q80_3 : LReg := rG [oO 19 (.build [.int .i64 0,.int .i64 0] [(0,1,(kI 1)),(1,1,(kI (-1)))]),oO 4 (.alloc 26 2 [.int .i64 0,.int .i64 0]),oX (sT 2 4 19)]
def q80_4 : LReg := rG [oM 21 0,oO 22 (.call 98 [(.t 21),(.c (.str [45]))]),oM 20 22,oO 23 (eX 0 20),oO 24 (eX 1 20),oO 25 (eX 2 20),oM 5 23,oM 6 24,oM 7 25]
def q80_5 : LReg := rG [oO 8 (.alloc 60 4 [.int .i64 0,.int .i64 0,.int .i64 0,.nils])]
def q80_6 : LReg := rG [oM 26 7]
def q80_7 : LReg := rG [oM 27 6,oO 28 (.call 79 [(.t 27),(.c (.str [46]))]),oO 29 (fA 3 8),oX (sT 1 29 28)]
def q80_8 : LReg := rG [oM 30 5,oO 31 (.call 79 [(.t 30),(.c (.str [46]))]),oM 9 31]
def q80_9 : LReg := rG [oM 32 9,oO 33 (lN 32),oO 34 (bK .neq 33 3)]
def q80_10 : LReg := ⟨[oO 35 (.build [.int .i64 0,.int .i64 0,.int .i64 0,.nils] []),oO 36 (lA 2 4),oX (sT 4 2 35),oX (sT 2 3 36)],true,[(1,2)]⟩
def q80_11 : LReg := rG [oO 37 (fA 0 8),oO 38 (fA 1 8),oO 39 (fA 2 8),oO 40 (.mkSlice 139 1 3 [.pnil] [(0,(.t 37)),(1,(.t 38)),(2,(.t 39))]),oO 41 (lN 40),oO 42 (mK (kI 0))]
def q80_12 : LReg := rG [oO 43 (bT .lss 42 41)]
def q80_13 : LReg := rG [oM 44 42,oO 45 (iX 1 40 42),oO 46 (lV 1 45),oM 10 44,oM 11 46]
def q80_14 : LReg := rG [oM 48 11,oM 49 9,oM 50 10,oO 51 (iX 1 49 50),oO 52 (lV 1 51),oO 53 (cA 99 [52]),oM 47 53,oO 54 (eX 0 47),oO 55 (eX 1 47),oO 56 (.nilCheck (.t 48)),oX (sT 1 56 54)]
def q80_15 : LReg := rG [oO 57 (bK .add 42 1),oM 42 57]
def q80_16 : LReg := rG [oO 59 (lA 4 8),oO 60 (cA 54 [59]),oM 58 60,oO 61 (eX 0 58),oO 62 (eX 1 58),oO 13 (.alloc 26 2 [.int .i64 0,.int .i64 0]),oM 12 61,oX (sT 2 13 62)]
def q80_17 : LReg := rG [oO 63 (lA 2 13),oO 64 (.build [.int .i64 0,.int .i64 0] []),oO 65 (.eqs true [0,0] (.t 63) (.t 64)),oM 66 65,oF 67 66 (.mv (.t 12)),oF 68 66 (.mv (.t 0)),oF 69 66 (bT .neq 67 68),oO 70 (pL 66 (kB true) 69)]
def q80_18 : LReg := ⟨[oO 71 (.build [.int .i64 0,.int .i64 0,.int .i64 0,.nils] []),oO 72 (lA 2 4),oX (sT 4 2 71),oX (sT 2 3 72)],true,[(1,2)]⟩
def q80_19 : LReg := rG [oO 73 (lA 4 8),oO 74 (.build [.int .i64 0,.int .i64 0] []),oX (sT 4 2 73),oX (sT 2 3 74)]
def Tryz.l_version_Parse : LCode := (.seq (.reg q80_0) (.seq (.seq (.reg q80_1) (.cond (.t 16) (.seq (.reg q80_2) .ret) .skip)) (.seq (.reg q80_3) (.seq (.reg q80_4) (.seq (.reg q80_5) (.seq (.seq (.reg q80_6) (.cond (.t 26) (.reg q80_7) .skip)) (.seq (.reg q80_8) (.seq (.seq (.reg q80_9) (.cond (.t 34) (.seq (.reg q80_10) .ret) .skip)) (.seq (.seq (.reg q80_11) (.block 0 (.loop (.seq (.reg q80_12) (.seq (.cond (.t 43) .skip (.exit 0)) (.seq (.block 1 (.seq (.reg q80_13) (.reg q80_14))) (.reg q80_15))))))) (.seq (.seq (.reg q80_16) (.seq (.reg q80_17) (.cond (.t 70) (.seq (.reg q80_18) .ret) .skip))) (.seq (.reg q80_19) .ret)))))))))))
theorem Tryz.c_version_Parse : fnComp Tryz.prog 80 = some (75, Tryz.l_version_Parse,[.cell 2 4 true,.cell 3 2 true]) := by kernel_rfl
def q81_0 : LReg := rG [oO 4 (mK (kI 0)),oO 5 (mK (kB false))]
def q81_1 : LReg := rG [oM 9 0,oO 10 (cA 99 [9]),oM 8 10,oO 11 (eX 0 8),oO 12 (eX 1 8),oM 6 11,oM 7 12]
def q81_2 : LReg := rG [oM 13 6,oM 14 7,oO 15 (.isnilI false (.t 14)),oM 16 15,oT 17 16 (.mv (.t 6)),oT 18 16 (cA 55 [17]),oT 19 16 (.mv (.t 0)),oT 20 16 (bT .eql 18 19),oO 21 (pK 16 20 (kB false)),oM 22 21,oT 23 22 (.mv (.t 6)),oT 24 22 (bK .geq 23 0),oO 25 (pK 22 24 (kB false)),oM 26 25,oT 27 26 (.mv (.t 6)),oT 28 26 (.mv (.t 1)),oT 29 26 (bT .leq 27 28),oO 30 (pK 26 29 (kB false)),oM 4 13,oM 5 30]
def Tryz.l_lockfile_number : LCode := (.seq (.reg q81_0) (.seq (.reg q81_1) (.seq (.reg q81_2) .ret)))
theorem Tryz.c_lockfile_number : fnComp Tryz.prog 81 = some (31, Tryz.l_lockfile_number,[.t 4,.t 5]) := by kernel_rfl
def q57_0 : LReg := rG [oO 2 (.alloc 62 6 [.int .i64 0,.int .i64 0,.int .i64 0,.int .i64 0,.nils,.int .i64 0]),oO 3 (mK (kB false))]
def q57_1 : LReg := rG [oM 11 0,oO 12 (.call 79 [(.t 11),(.c (.str [32]))]),oM 4 12]
def q57_2 : LReg := rG [oM 13 4,oO 14 (lN 13),oO 15 (bK .neq 14 3)]
def q57_3 : LReg := rG [oO 16 (.build [.int .i64 0,.int .i64 0,.int .i64 0,.int .i64 0,.nils,.int .i64 0] []),oX (sT 6 2 16),oO 3 (mK (kB false))]
def q57_4 : LReg := rG [oM 18 4,oO 19 (.idx 1 (.t 18) (kI 1)),oO 20 (lV 1 19),oO 21 (cA 80 [20]),oM 17 21,oO 22 (eX 0 17),oO 23 (eX 1 17),oO 5 (.alloc 60 4 [.int .i64 0,.int .i64 0,.int .i64 0,.nils]),oO 6 (.alloc 26 2 [.int .i64 0,.int .i64 0]),oX (sT 4 5 22),oX (sT 2 6 23)]
def q57_5 : LReg := rG [oM 25 4,oO 26 (.idx 1 (.t 25) (kI 0)),oO 27 (lV 1 26),oO 28 (.call 81 [(.t 27),(kI 1000000000)]),oM 24 28,oO 29 (eX 0 24),oO 30 (eX 1 24),oM 7 29,oM 8 30]
def q57_6 : LReg := rG [oM 32 4,oO 33 (.idx 1 (.t 32) (kI 2)),oO 34 (lV 1 33),oO 35 (.call 81 [(.t 34),(kI 2305843009213693950)]),oM 31 35,oO 36 (eX 0 31),oO 37 (eX 1 31),oM 9 36,oM 10 37]
def q57_7 : LReg := ⟨[oM 38 7,oO 39 (lA 4 5),oM 40 9,oO 41 (.build [.int .i64 0,.int .i64 0,.int .i64 0,.int .i64 0,.nils,.int .i64 0] [(0,1,(.t 38)),(1,4,(.t 39)),(5,1,(.t 40))]),oO 42 (lA 2 6),oO 43 (.build [.int .i64 0,.int .i64 0] []),oO 44 (.eqs false [0,0] (.t 42) (.t 43)),oM 45 44,oT 46 45 (.mv (.t 8)),oO 47 (pK 45 46 (kB false)),oM 48 47,oT 49 48 (.mv (.t 10)),oO 50 (pK 48 49 (kB false)),oX (sT 6 2 41),oM 3 50],true,[(1,4)]⟩
def Tryz.l_lockfile_entry : LCode := (.seq (.reg q57_0) (.seq (.reg q57_1) (.seq (.seq (.reg q57_2) (.cond (.t 15) (.seq (.reg q57_3) .ret) .skip)) (.seq (.reg q57_4) (.seq (.reg q57_5) (.seq (.reg q57_6) (.seq (.reg q57_7) .ret)))))))
theorem Tryz.c_lockfile_entry : fnComp Tryz.prog 57 = some (51, Tryz.l_lockfile_entry,[.cell 2 6 true,.t 3]) := by kernel_rfl
def q28_0 : LReg := rG [oO 2 (mK (.c (.nils))),oO 3 (.alloc 26 2 [.int .i64 0,.int .i64 0])]
def q28_1 : LReg := rG [oM 10 0,oO 11 (lN 10),oO 12 (bK .gtr 11 6)]
def q28_2 : LReg := rG [oO 13 (.build [.int .i64 0,.int .i64 0] [(0,1,(kI 2)),(1,1,(kI (-1)))]),oO 2 (mK (.c (.nils))),oX (sT 2 3 13)]
def q28_3 : LReg := rG [oO 4 (mK (.c (.nils)))]
def q28_4 : LReg := rG [oM 14 0,oO 15 (lN 14),oO 16 (mK (kI 0))]
def q28_5 : LReg := rG [oO 17 (bT .lss 16 15)]
def q28_6 : LReg := rG [oM 18 16,oO 19 (iX 1 14 16),oO 20 (lV 1 19),oM 5 18,oM 6 20]
def q28_7 : LReg := rG [oM 22 6,oO 23 (cA 57 [22]),oM 21 23,oO 24 (eX 0 21),oO 25 (eX 1 21),oO 7 (.alloc 62 6 [.int .i64 0,.int .i64 0,.int .i64 0,.int .i64 0,.nils,.int .i64 0]),oX (sT 6 7 24),oM 8 25]
def q28_8 : LReg := rG [oM 26 8,oO 27 (.un .not (.t 26))]
def q28_9 : LReg := rG [oM 28 5,oO 29 (.build [.int .i64 0,.int .i64 0] [(0,1,(kI 1)),(1,1,(.t 28))]),oO 2 (mK (.c (.nils))),oX (sT 2 3 29)]
def q28_10 : LReg := rG [oM 30 4,oO 31 (lA 6 7),oO 32 (.mkSlice 62 6 1 [.int .i64 0,.int .i64 0,.int .i64 0,.int .i64 0,.nils,.int .i64 0] [(0,(.t 31))]),oO 33 (.append 62 6 64 (.t 30) (.t 32)),oM 4 33]
def q28_11 : LReg := rG [oO 34 (bK .add 16 1),oM 16 34]
def q28_12 : LReg := rG [oM 35 4,oO 36 (cA 12 [35]),oO 9 (.alloc 26 2 [.int .i64 0,.int .i64 0]),oX (sT 2 9 36)]
def q28_13 : LReg := rG [oO 37 (lA 2 9),oO 38 (.build [.int .i64 0,.int .i64 0] []),oO 39 (.eqs true [0,0] (.t 37) (.t 38))]
def q28_14 : LReg := ⟨[oO 40 (lA 2 9),oO 2 (mK (.c (.nils))),oX (sT 2 3 40)],true,[]⟩
def q28_15 : LReg := rG [oM 41 4,oO 42 (.build [.int .i64 0,.int .i64 0] []),oM 2 41,oX (sT 2 3 42)]
def Tryz.l_lockfile_Read : LCode := (.seq (.reg q28_0) (.seq (.seq (.reg q28_1) (.cond (.t 12) (.seq (.reg q28_2) .ret) .skip)) (.seq (.reg q28_3) (.seq (.seq (.reg q28_4) (.block 0 (.loop (.seq (.reg q28_5) (.seq (.cond (.t 17) .skip (.exit 0)) (.seq (.block 1 (.seq (.reg q28_6) (.seq (.reg q28_7) (.seq (.seq (.reg q28_8) (.cond (.t 27) (.seq (.reg q28_9) .ret) .skip)) (.reg q28_10))))) (.reg q28_11))))))) (.seq (.seq (.reg q28_12) (.seq (.reg q28_13) (.cond (.t 39) (.seq (.reg q28_14) .ret) .skip))) (.seq (.reg q28_15) .ret))))))
theorem Tryz.c_lockfile_Read : fnComp Tryz.prog 28 = some (43, Tryz.l_lockfile_Read,[.t 2,.cell 3 2 true]) := by kernel_rfl
def q61_0 : LReg := rG [oO 6 (.alloc 60 4 [.int .i64 0,.int .i64 0,.int .i64 0,.nils])]
def q61_1 : LReg := rG [oM 7 0,oM 8 1,oM 9 2,oO 10 (.build [.int .i64 0,.int .i64 0,.int .i64 0,.nils] [(0,1,(.t 7)),(1,1,(.t 8)),(2,1,(.t 9))]),oX (sT 4 6 10)]
def Tryz.l_law6_ver : LCode := (.seq (.reg q61_0) (.seq (.reg q61_1) .ret))
theorem Tryz.c_law6_ver : fnComp Tryz.prog 61 = some (11, Tryz.l_law6_ver,[.cell 6 4 true]) := by kernel_rfl
def q31_0 : LReg := rG [oO 0 (mK (.c (.nils)))]
def q31_1 : LReg := rG [oO 1 (.call 61 [(kI 1),(kI 2),(kI 3)]),oO 2 (.build [.int .i64 0,.int .i64 0,.int .i64 0,.int .i64 0,.nils,.int .i64 0] [(0,1,(kI 0)),(1,4,(.t 1)),(5,1,(kI 7))]),oO 3 (.mkSlice 62 6 1 [.int .i64 0,.int .i64 0,.int .i64 0,.int .i64 0,.nils,.int .i64 0] [(0,(.t 2))]),oM 0 3]
def Tryz.l_law6_lock : LCode := (.seq (.reg q31_0) (.seq (.reg q31_1) .ret))
theorem Tryz.c_law6_lock : fnComp Tryz.prog 31 = some (4, Tryz.l_law6_lock,[.t 0]) := by kernel_rfl
def q62_0 : LReg := rG [oO 4 (.box 60 4 (.t 1)),oO 5 (.box 60 4 (.t 2)),oO 6 (.alloc 95 2 [.int .i64 0,.nils])]
def q62_1 : LReg := rG [oM 7 0,oO 8 (lA 4 4),oO 9 (lA 4 5),oO 10 (.build [.int .i64 0,.int .i64 0,.int .i64 0,.nils,.int .i64 0,.int .i64 0,.int .i64 0,.nils,.bool false] [(0,4,(.t 8)),(4,4,(.t 9))]),oO 11 (.mkSlice 109 9 1 [.int .i64 0,.int .i64 0,.int .i64 0,.nils,.int .i64 0,.int .i64 0,.int .i64 0,.nils,.bool false] [(0,(.t 10))]),oO 12 (.build [.nils] [(0,1,(.t 11))]),oO 13 (.build [.int .i64 0,.nils] [(0,1,(.t 7)),(1,1,(.t 12))]),oX (sT 2 6 13)]
def Tryz.l_law6_span : LCode := (.seq (.reg q62_0) (.seq (.reg q62_1) .ret))
theorem Tryz.c_law6_span : fnComp Tryz.prog 62 = some (14, Tryz.l_law6_span,[.cell 6 2 true]) := by kernel_rfl
def q32_0 : LReg := rG [oO 0 (.alloc 39 1 [.nils])]
def q32_1 : LReg := rG [oO 2 (.call 61 [(kI 1),(kI 0),(kI 0)]),oO 3 (.call 61 [(kI 2),(kI 0),(kI 0)]),oO 4 (.call 62 [(kI 1),(.t 2),(.t 3)]),oO 1 (.alloc 95 2 [.int .i64 0,.nils]),oX (sT 2 1 4)]
def q32_2 : LReg := ⟨[oO 5 (.call 61 [(kI 1),(kI 0),(kI 0)]),oO 6 (lA 2 1),oO 7 (.mkSlice 95 2 1 [.int .i64 0,.nils] [(0,(.t 6))]),oO 8 (.build [.int .i64 0,.int .i64 0,.int .i64 0,.nils,.nils] [(0,4,(.t 5)),(4,1,(.t 7))]),oO 9 (.mkSlice 75 5 1 [.int .i64 0,.int .i64 0,.int .i64 0,.nils,.nils] [(0,(.t 8))]),oO 10 (.call 61 [(kI 3),(kI 0),(kI 0)]),oO 11 (.build [.int .i64 0,.int .i64 0,.int .i64 0,.nils,.nils] [(0,4,(.t 10))]),oO 12 (.mkSlice 75 5 1 [.int .i64 0,.int .i64 0,.int .i64 0,.nils,.nils] [(0,(.t 11))]),oO 13 (.mkSlice 73 1 2 [.nils] [(0,(.t 9)),(1,(.t 12))]),oO 14 (.build [.nils] [(0,1,(.t 13))]),oX (sT 1 0 14)],true,[(0,1),(0,2),(1,5),(2,5),(4,5),(1,7),(2,7),(4,7)]⟩
def Tryz.l_law6_universe : LCode := (.seq (.reg q32_0) (.seq (.reg q32_1) (.seq (.reg q32_2) .ret)))
theorem Tryz.c_law6_universe : fnComp Tryz.prog 32 = some (15, Tryz.l_law6_universe,[.cell 0 1 true]) := by kernel_rfl
def q9_0 : LReg := rG [oO 0 (mK (kB false))]
def q9_1 : LReg := rG [oO 15 (cA 31 []),oO 16 (cA 25 [15]),oM 14 16,oO 17 (eX 0 14),oO 18 (eX 1 14),oO 2 (.alloc 26 2 [.int .i64 0,.int .i64 0]),oM 1 17,oX (sT 2 2 18)]
def q9_2 : LReg := rG [oO 20 (.mkSlice 9 1 1 [.str []] [(0,(.c (.str [48,32,49,46,50,46,51,32,55])))]),oO 21 (cA 28 [20]),oM 19 21,oO 22 (eX 0 19),oO 23 (eX 1 19),oO 4 (.alloc 26 2 [.int .i64 0,.int .i64 0]),oM 3 22,oX (sT 2 4 23)]
def q9_3 : LReg := rG [oO 25 (cA 31 []),oO 26 (.call 17 [(.t 25),(.c (.nils))]),oM 24 26,oO 27 (eX 0 24),oO 28 (eX 1 24),oO 6 (.alloc 26 2 [.int .i64 0,.int .i64 0]),oM 5 27,oX (sT 2 6 28)]
def q9_4 : LReg := rG [oO 30 (cA 31 []),oO 31 (cA 13 [30]),oM 29 31,oO 32 (eX 0 29),oO 33 (eX 1 29),oO 8 (.alloc 26 2 [.int .i64 0,.int .i64 0]),oM 7 32,oX (sT 2 8 33)]
def q9_5 : LReg := rG [oO 35 (cA 32 []),oO 36 (.mkSlice 3 1 2 [.int .i64 0] [(0,(kI 0)),(1,(kI (-1)))]),oO 37 (cA 22 [35,36]),oM 34 37,oO 38 (eX 0 34),oO 39 (eX 1 34),oO 10 (.alloc 26 2 [.int .i64 0,.int .i64 0]),oM 9 38,oX (sT 2 10 39)]
def q9_6 : LReg := rG [oO 41 (.mkSlice 9 1 1 [.str []] [(0,(.c (.str [57,32,49,46,50,46,51,32,55])))]),oO 42 (cA 28 [41]),oM 40 42,oO 43 (eX 0 40),oO 44 (eX 1 40),oO 12 (.alloc 26 2 [.int .i64 0,.int .i64 0]),oM 11 43,oX (sT 2 12 44)]
def q9_7 : LReg := ⟨[oO 45 (fA 0 2),oO 46 (lV 1 45),oO 47 (bK .eql 46 0),oM 48 47,oT 49 48 (fA 0 4),oT 50 48 (lV 1 49),oT 51 48 (bK .eql 50 0),oO 52 (pK 48 51 (kB false)),oM 53 52,oT 54 53 (fA 0 6),oT 55 53 (lV 1 54),oT 56 53 (bK .eql 55 0),oO 57 (pK 53 56 (kB false)),oM 58 57,oT 59 58 (fA 0 8),oT 60 58 (lV 1 59),oT 61 58 (bK .eql 60 0),oO 62 (pK 58 61 (kB false)),oM 63 62,oT 64 63 (fA 0 10),oT 65 63 (lV 1 64),oT 66 63 (bK .eql 65 0),oO 67 (pK 63 66 (kB false)),oM 68 67,oT 69 68 (lA 2 12),oT 70 68 (.call 16 [(kI 3),(kI 0)]),oT 71 68 (.eqs false [0,0] (.t 69) (.t 70)),oO 72 (pK 68 71 (kB false)),oM 13 72],true,[(24,25)]⟩
def q9_8 : LReg := rG [oM 73 13,oM 74 73,oT 75 74 (.mv (.t 1)),oT 76 74 (.mkSlice 9 1 1 [.str []] [(0,(.c (.str [48,32,49,46,50,46,51,32,55])))]),oT 77 74 (cA 26 [75,76]),oO 78 (pK 74 77 (kB false)),oM 79 78,oT 80 79 (.mv (.t 3)),oT 81 79 (cA 31 []),oT 82 79 (cA 23 [80,81]),oO 83 (pK 79 82 (kB false)),oM 84 83,oT 85 84 (.mv (.t 5)),oT 86 84 (.mkSlice 3 1 1 [.int .i64 0] [(0,(kI 0))]),oT 87 84 (cA 14 [85,86]),oO 88 (pK 84 87 (kB false)),oM 89 88,oT 90 89 (.mv (.t 7)),oT 91 89 (.mkSlice 3 1 1 [.int .i64 0] [(0,(kI 0))]),oT 92 89 (cA 14 [90,91]),oO 93 (pK 89 92 (kB false)),oM 94 93,oT 95 94 (.mv (.t 9)),oT 96 94 (lN 95),oT 97 94 (bK .eql 96 1),oO 98 (pK 94 97 (kB false)),oM 99 98,oT 100 99 (.mv (.t 9)),oT 101 99 (.idx 6 (.t 100) (kI 0)),oT 102 99 (fA 0 101),oT 103 99 (lV 1 102),oT 104 99 (bK .eql 103 0),oO 105 (pK 99 104 (kB false)),oM 0 105]
def Tryz.l_law6_locks : LCode := (.seq (.reg q9_0) (.seq (.reg q9_1) (.seq (.reg q9_2) (.seq (.reg q9_3) (.seq (.reg q9_4) (.seq (.reg q9_5) (.seq (.reg q9_6) (.seq (.reg q9_7) (.seq (.reg q9_8) .ret)))))))))
theorem Tryz.c_law6_locks : fnComp Tryz.prog 9 = some (106, Tryz.l_law6_locks,[.t 0]) := by kernel_rfl
def q10_0 : LReg := rG [oO 2 (mK (kB false))]
def q10_1 : LReg := rG [oO 3 (mK (kI 0))]
def q10_2 : LReg := rG [oM 4 3,oM 5 0,oO 6 (lN 5),oO 7 (bT .lss 4 6),oM 8 7,oT 9 8 (.mv (.t 3)),oT 10 8 (bK .lss 9 20),oO 11 (pK 8 10 (kB false))]
def q10_3 : LReg := rG [oM 14 0,oM 15 3,oO 16 (iX 6 14 15),oO 17 (fA 1 16),oO 18 (fA 3 17),oO 19 (lV 1 18),oO 20 (lN 19),oO 21 (bK .gtr 20 40)]
def q10_4 : LReg := rG [oO 2 (mK (kB true))]
def q10_5 : LReg := rG [oM 12 3,oO 13 (bK .add 12 1),oM 3 13]
def q10_6 : LReg := rG [oM 22 0,oO 23 (lN 22),oO 24 (bK .gtr 23 20),oM 2 24]
def Tryz.l_law6_wideLock : LCode := (.seq (.reg q10_0) (.seq (.seq (.reg q10_1) (.block 0 (.loop (.seq (.seq (.reg q10_2) (.cond (.t 11) .skip (.exit 0))) (.seq (.block 1 (.seq (.reg q10_3) (.cond (.t 21) (.seq (.reg q10_4) .ret) .skip))) (.reg q10_5)))))) (.seq (.reg q10_6) .ret)))
theorem Tryz.c_law6_wideLock : fnComp Tryz.prog 10 = some (25, Tryz.l_law6_wideLock,[.t 2]) := by kernel_rfl
def q33_0 : LReg := rG [oO 4 (.alloc 26 2 [.int .i64 0,.int .i64 0])]
def q33_1 : LReg := rG [oM 5 0,oM 6 1,oO 7 (.build [.int .i64 0,.int .i64 0] [(0,1,(.t 5)),(1,1,(.t 6))]),oX (sT 2 4 7)]
def Tryz.l_ref6_fault : LCode := (.seq (.reg q33_0) (.seq (.reg q33_1) .ret))
theorem Tryz.c_ref6_fault : fnComp Tryz.prog 33 = some (8, Tryz.l_ref6_fault,[.cell 4 2 true]) := by kernel_rfl
def q34_0 : LReg := rG [oO 6 (mK (kB false))]
def q34_1 : LReg := rG [oM 7 0,oM 8 1,oO 9 (bT .geq 7 8),oM 10 9,oT 11 10 (.mv (.t 0)),oT 12 10 (.mv (.t 2)),oT 13 10 (bT .leq 11 12),oO 14 (pK 10 13 (kB false)),oM 6 14]
def Tryz.l_ref6_in : LCode := (.seq (.reg q34_0) (.seq (.reg q34_1) .ret))
theorem Tryz.c_ref6_in : fnComp Tryz.prog 34 = some (15, Tryz.l_ref6_in,[.t 6]) := by kernel_rfl
def q47_0 : LReg := rG [oO 4 (.alloc 26 2 [.int .i64 0,.int .i64 0])]
def q47_1 : LReg := rG [oM 5 0,oM 6 1,oO 7 (.build [.int .i64 0,.int .i64 0] [(0,1,(.t 5)),(1,1,(.t 6))]),oX (sT 2 4 7)]
def Tryz.l_ref5_fault : LCode := (.seq (.reg q47_0) (.seq (.reg q47_1) .ret))
theorem Tryz.c_ref5_fault : fnComp Tryz.prog 47 = some (8, Tryz.l_ref5_fault,[.cell 4 2 true]) := by kernel_rfl
def q49_0 : LReg := rG [oO 6 (mK (kB false))]
def q49_1 : LReg := rG [oM 7 0,oM 8 1,oO 9 (bT .geq 7 8),oM 10 9,oT 11 10 (.mv (.t 0)),oT 12 10 (.mv (.t 2)),oT 13 10 (bT .leq 11 12),oO 14 (pK 10 13 (kB false)),oM 6 14]
def Tryz.l_ref5_in : LCode := (.seq (.reg q49_0) (.seq (.reg q49_1) .ret))
theorem Tryz.c_ref5_in : fnComp Tryz.prog 49 = some (15, Tryz.l_ref5_in,[.t 6]) := by kernel_rfl
def q82_0 : LReg := rG [oO 2 (mK (kB false))]
def q82_1 : LReg := rG [oO 3 (mK (kI 0))]
def q82_2 : LReg := rG [oM 4 3,oM 5 0,oO 6 (sN 5),oO 7 (bT .lss 4 6)]
def q82_3 : LReg := rG [oM 10 0,oM 11 3,oO 12 (.sidx (.t 10) (.t 11)),oO 13 (.bin .lss (.t 12) (.c (.int .u8 48))),oM 14 13,oF 15 14 (.mv (.t 0)),oF 16 14 (.mv (.t 3)),oF 17 14 (.sidx (.t 15) (.t 16)),oF 18 14 (.bin .gtr (.t 17) (.c (.int .u8 57))),oO 19 (pL 14 (kB true) 18)]
def q82_4 : LReg := rG [oO 2 (mK (kB false))]
def q82_5 : LReg := rG [oM 8 3,oO 9 (bK .add 8 1),oM 3 9]
def q82_6 : LReg := rG [oM 20 0,oO 21 (sN 20),oO 22 (bK .gtr 21 0),oM 2 22]
def Tryz.l_ref5_Numeric : LCode := (.seq (.reg q82_0) (.seq (.seq (.reg q82_1) (.block 0 (.loop (.seq (.seq (.reg q82_2) (.cond (.t 7) .skip (.exit 0))) (.seq (.block 1 (.seq (.reg q82_3) (.cond (.t 19) (.seq (.reg q82_4) .ret) .skip))) (.reg q82_5)))))) (.seq (.reg q82_6) .ret)))
theorem Tryz.c_ref5_Numeric : fnComp Tryz.prog 82 = some (23, Tryz.l_ref5_Numeric,[.t 2]) := by kernel_rfl
def q63_0 : LReg := rG [oO 2 (mK (kB false))]
def q63_1 : LReg := rG [oM 5 0,oO 6 (sN 5),oO 7 (.call 49 [(.t 6),(kI 1),(kI 8)]),oO 8 (.un .not (.t 7)),oM 9 8,oF 10 9 (.mv (.t 0)),oF 11 9 (cA 82 [10]),oF 12 9 (.mv (.t 11)),oT 13 12 (.mv (.t 0)),oT 14 12 (sN 13),oT 15 12 (bK .gtr 14 1),oF 16 9 (pK 12 15 (kB false)),oF 17 9 (.mv (.t 16)),oT 18 17 (.mv (.t 0)),oT 19 17 (.sidx (.t 18) (kI 0)),oT 20 17 (.bin .eql (.t 19) (.c (.int .u8 48))),oF 21 9 (pK 17 20 (kB false)),oO 22 (pL 9 (kB true) 21)]
def q63_2 : LReg := rG [oO 2 (mK (kB false))]
def q63_3 : LReg := rG [oO 3 (mK (kI 0))]
def q63_4 : LReg := rG [oM 23 3,oM 24 0,oO 25 (sN 24),oO 26 (bT .lss 23 25)]
def q63_5 : LReg := rG [oM 29 0,oM 30 3,oO 31 (.sidx (.t 29) (.t 30)),oO 32 (.conv .i64 (.t 31)),oM 4 32]
def q63_6 : LReg := rG [oM 33 4,oO 34 (.call 49 [(.t 33),(kI 48),(kI 57)]),oO 35 (.un .not (.t 34)),oM 36 35,oT 37 36 (.mv (.t 4)),oT 38 36 (.call 49 [(.t 37),(kI 97),(kI 122)]),oT 39 36 (.un .not (.t 38)),oO 40 (pK 36 39 (kB false)),oM 41 40,oT 42 41 (.mv (.t 4)),oT 43 41 (.call 49 [(.t 42),(kI 65),(kI 90)]),oT 44 41 (.un .not (.t 43)),oO 45 (pK 41 44 (kB false)),oM 46 45,oT 47 46 (.mv (.t 4)),oT 48 46 (bK .neq 47 45),oO 49 (pK 46 48 (kB false))]
def q63_7 : LReg := rG [oO 2 (mK (kB false))]
def q63_8 : LReg := rG [oM 27 3,oO 28 (bK .add 27 1),oM 3 28]
def q63_9 : LReg := rG [oO 2 (mK (kB true))]
def Tryz.l_ref5_Identifier : LCode := (.seq (.reg q63_0) (.seq (.seq (.reg q63_1) (.cond (.t 22) (.seq (.reg q63_2) .ret) .skip)) (.seq (.seq (.reg q63_3) (.block 0 (.loop (.seq (.seq (.reg q63_4) (.cond (.t 26) .skip (.exit 0))) (.seq (.block 1 (.seq (.reg q63_5) (.seq (.reg q63_6) (.cond (.t 49) (.seq (.reg q63_7) .ret) .skip)))) (.reg q63_8)))))) (.seq (.reg q63_9) .ret))))
theorem Tryz.c_ref5_Identifier : fnComp Tryz.prog 63 = some (50, Tryz.l_ref5_Identifier,[.t 2]) := by kernel_rfl
def q35_0 : LReg := rG [oO 1 (.box 60 4 (.t 0)),oO 2 (.alloc 26 2 [.int .i64 0,.int .i64 0])]
def q35_1 : LReg := rG [oO 4 (fA 0 1),oO 5 (lV 1 4),oO 6 (.call 49 [(.t 5),(kI 0),(kI 1000000000)]),oO 7 (.un .not (.t 6))]
def q35_2 : LReg := rG [oO 8 (.call 47 [(kI 3),(kI 0)]),oX (sT 2 2 8)]
def q35_3 : LReg := rG [oO 9 (fA 1 1),oO 10 (lV 1 9),oO 11 (.call 49 [(.t 10),(kI 0),(kI 1000000000)]),oO 12 (.un .not (.t 11))]
def q35_4 : LReg := rG [oO 13 (.call 47 [(kI 3),(kI 1)]),oX (sT 2 2 13)]
def q35_5 : LReg := rG [oO 14 (fA 2 1),oO 15 (lV 1 14),oO 16 (.call 49 [(.t 15),(kI 0),(kI 1000000000)]),oO 17 (.un .not (.t 16))]
def q35_6 : LReg := rG [oO 18 (.call 47 [(kI 3),(kI 2)]),oX (sT 2 2 18)]
def q35_7 : LReg := rG [oO 19 (fA 3 1),oO 20 (lV 1 19),oO 21 (lN 20),oO 22 (bK .gtr 21 4)]
def q35_8 : LReg := rG [oO 23 (.call 47 [(kI 2),(kI (-1))]),oX (sT 2 2 23)]
def q35_9 : LReg := rG [oO 3 (mK (kI 0))]
def q35_10 : LReg := rG [oM 24 3,oO 25 (fA 3 1),oO 26 (lV 1 25),oO 27 (lN 26),oO 28 (bT .lss 24 27)]
def q35_11 : LReg := rG [oO 31 (fA 3 1),oO 32 (lV 1 31),oM 33 3,oO 34 (iX 1 32 33),oO 35 (lV 1 34),oO 36 (cA 63 [35]),oO 37 (.un .not (.t 36))]
def q35_12 : LReg := rG [oM 38 3,oO 39 (.call 47 [(kI 5),(.t 38)]),oX (sT 2 2 39)]
def q35_13 : LReg := rG [oM 29 3,oO 30 (bK .add 29 1),oM 3 30]
def q35_14 : LReg := rG [oO 40 (.build [.int .i64 0,.int .i64 0] []),oX (sT 2 2 40)]
def Tryz.l_ref5_VersionFault : LCode := (.seq (.reg q35_0) (.seq (.seq (.reg q35_1) (.cond (.t 7) (.seq (.reg q35_2) .ret) .skip)) (.seq (.seq (.reg q35_3) (.cond (.t 12) (.seq (.reg q35_4) .ret) .skip)) (.seq (.seq (.reg q35_5) (.cond (.t 17) (.seq (.reg q35_6) .ret) .skip)) (.seq (.seq (.reg q35_7) (.cond (.t 22) (.seq (.reg q35_8) .ret) .skip)) (.seq (.seq (.reg q35_9) (.block 0 (.loop (.seq (.seq (.reg q35_10) (.cond (.t 28) .skip (.exit 0))) (.seq (.block 1 (.seq (.reg q35_11) (.cond (.t 37) (.seq (.reg q35_12) .ret) .skip))) (.reg q35_13)))))) (.seq (.reg q35_14) .ret)))))))
theorem Tryz.c_ref5_VersionFault : fnComp Tryz.prog 35 = some (41, Tryz.l_ref5_VersionFault,[.cell 2 2 true]) := by kernel_rfl
def q36_0 : LReg := rG [oO 2 (mK (kB false))]
def q36_1 : LReg := rG [oM 3 0,oO 4 (.call 49 [(.t 3),(kI 0),(kI 2305843009213693950)]),oM 2 4]
def Tryz.l_ref5_IsDigest : LCode := (.seq (.reg q36_0) (.seq (.reg q36_1) .ret))
theorem Tryz.c_ref5_IsDigest : fnComp Tryz.prog 36 = some (5, Tryz.l_ref5_IsDigest,[.t 2]) := by kernel_rfl
def q11_0 : LReg := rG [oO 2 (.alloc 26 2 [.int .i64 0,.int .i64 0])]
def q11_1 : LReg := rG [oM 5 0,oO 6 (lN 5),oO 7 (bK .gtr 6 6)]
def q11_2 : LReg := rG [oO 8 (.call 33 [(kI 2),(kI (-1))]),oX (sT 2 2 8)]
def q11_3 : LReg := rG [oO 3 (mK (kI 0))]
def q11_4 : LReg := rG [oM 9 3,oM 10 0,oO 11 (lN 10),oO 12 (bT .lss 9 11)]
def q11_5 : LReg := rG [oM 15 0,oM 16 3,oO 17 (iX 6 15 16),oO 18 (fA 0 17),oO 19 (lV 1 18),oO 20 (.call 34 [(.t 19),(kI 0),(kI 5)]),oO 21 (.un .not (.t 20))]
def q11_6 : LReg := rG [oM 22 3,oO 23 (.call 33 [(kI 3),(.t 22)]),oX (sT 2 2 23)]
def q11_7 : LReg := rG [oM 24 0,oM 25 3,oO 26 (iX 6 24 25),oO 27 (fA 1 26),oO 28 (lA 4 27),oO 29 (cA 35 [28]),oO 4 (.alloc 26 2 [.int .i64 0,.int .i64 0]),oX (sT 2 4 29)]
def q11_8 : LReg := rG [oO 30 (fA 0 4),oO 31 (lV 1 30),oO 32 (bK .neq 31 0)]
def q11_9 : LReg := rG [oO 33 (fA 0 4),oO 34 (lV 1 33),oM 35 3,oO 36 (cA 33 [34,35]),oX (sT 2 2 36)]
def q11_10 : LReg := rG [oM 37 0,oM 38 3,oO 39 (iX 6 37 38),oO 40 (fA 5 39),oO 41 (lV 1 40),oO 42 (cA 36 [41]),oO 43 (.un .not (.t 42))]
def q11_11 : LReg := rG [oM 44 3,oO 45 (.call 33 [(kI 3),(.t 44)]),oX (sT 2 2 45)]
def q11_12 : LReg := ⟨[oM 46 3,oO 47 (bK .gtr 46 0),oM 48 47,oT 49 48 (.mv (.t 0)),oT 50 48 (.mv (.t 3)),oT 51 48 (iX 6 49 50),oT 52 48 (fA 0 51),oT 53 48 (lV 1 52),oT 54 48 (.mv (.t 0)),oT 55 48 (.mv (.t 3)),oT 56 48 (bK .sub 55 1),oT 57 48 (iX 6 54 56),oT 58 48 (fA 0 57),oT 59 48 (lV 1 58),oT 60 48 (bT .leq 53 59),oO 61 (pK 48 60 (kB false))],true,[(5,11),(6,11),(7,11),(5,12),(6,12),(7,12),(5,13),(6,13),(7,13)]⟩
def q11_13 : LReg := rG [oM 62 3,oO 63 (.call 33 [(kI 5),(.t 62)]),oX (sT 2 2 63)]
def q11_14 : LReg := rG [oM 13 3,oO 14 (bK .add 13 1),oM 3 14]
def q11_15 : LReg := rG [oO 64 (.build [.int .i64 0,.int .i64 0] []),oX (sT 2 2 64)]
def Tryz.l_ref6_LockFault : LCode := (.seq (.reg q11_0) (.seq (.seq (.reg q11_1) (.cond (.t 7) (.seq (.reg q11_2) .ret) .skip)) (.seq (.seq (.reg q11_3) (.block 0 (.loop (.seq (.seq (.reg q11_4) (.cond (.t 12) .skip (.exit 0))) (.seq (.block 1 (.seq (.seq (.reg q11_5) (.cond (.t 21) (.seq (.reg q11_6) .ret) .skip)) (.seq (.reg q11_7) (.seq (.seq (.reg q11_8) (.cond (.t 32) (.seq (.reg q11_9) .ret) .skip)) (.seq (.seq (.reg q11_10) (.cond (.t 43) (.seq (.reg q11_11) .ret) .skip)) (.seq (.reg q11_12) (.cond (.t 61) (.seq (.reg q11_13) .ret) .skip))))))) (.reg q11_14)))))) (.seq (.reg q11_15) .ret))))
theorem Tryz.c_ref6_LockFault : fnComp Tryz.prog 11 = some (65, Tryz.l_ref6_LockFault,[.cell 2 2 true]) := by kernel_rfl
def q86_0 : LReg := rG [oO 4 (mK (kI 0))]
def q86_1 : LReg := rG [oO 5 (mK (kI 0))]
def q86_2 : LReg := rG [oM 6 1,oO 7 (bK .gtr 6 0)]
def q86_3 : LReg := rG [oM 8 1,oO 9 (bK .rem 8 2),oO 10 (bK .eql 9 1)]
def q86_4 : LReg := rG [oM 11 5,oM 12 0,oO 13 (bT .add 11 12),oO 14 (bK .rem 13 2305843009213693951),oM 5 14]
def q86_5 : LReg := rG [oM 15 0,oM 16 0,oO 17 (bT .add 15 16),oO 18 (bK .rem 17 2305843009213693951),oM 0 18]
def q86_6 : LReg := rG [oM 19 1,oO 20 (bK .quo 19 2),oM 1 20]
def q86_7 : LReg := rG [oM 21 5,oM 4 21]
def Tryz.l_ref1_times : LCode := (.seq (.reg q86_0) (.seq (.reg q86_1) (.seq (.block 0 (.loop (.seq (.seq (.reg q86_2) (.cond (.t 7) .skip (.exit 0))) (.block 1 (.seq (.seq (.reg q86_3) (.cond (.t 10) (.reg q86_4) .skip)) (.seq (.reg q86_5) (.reg q86_6))))))) (.seq (.reg q86_7) .ret))))
theorem Tryz.c_ref1_times : fnComp Tryz.prog 86 = some (22, Tryz.l_ref1_times,[.t 4]) := by kernel_rfl
def q66_0 : LReg := rG [oO 2 (mK (kI 0))]
def q66_1 : LReg := rG [oO 3 (mK (kI 1))]
def q66_2 : LReg := rG [oO 4 (mK (kI 0))]
def q66_3 : LReg := rG [oM 5 4,oM 6 0,oO 7 (lN 6),oO 8 (bT .lss 5 7)]
def q66_4 : LReg := ⟨[oM 11 3,oO 12 (.call 86 [(.t 11),(kI 257)]),oM 13 0,oM 14 4,oO 15 (iX 1 13 14),oO 16 (lV 1 15),oO 17 (.conv .i64 (.t 16)),oO 18 (bT .add 12 17),oO 19 (bK .add 18 1),oO 20 (bK .rem 19 2305843009213693951),oM 3 20],true,[(1,4),(1,5)]⟩
def q66_5 : LReg := rG [oM 9 4,oO 10 (bK .add 9 1),oM 4 10]
def q66_6 : LReg := rG [oM 21 3,oM 2 21]
def Tryz.l_ref1_DigestOf : LCode := (.seq (.reg q66_0) (.seq (.reg q66_1) (.seq (.seq (.reg q66_2) (.block 0 (.loop (.seq (.seq (.reg q66_3) (.cond (.t 8) .skip (.exit 0))) (.seq (.block 1 (.reg q66_4)) (.reg q66_5)))))) (.seq (.reg q66_6) .ret))))
theorem Tryz.c_ref1_DigestOf : fnComp Tryz.prog 66 = some (22, Tryz.l_ref1_DigestOf,[.t 2]) := by kernel_rfl
def q78_0 : LReg := rG [oO 2 (mK (.c (.str [])))]
def q78_1 : LReg := rG [oM 3 0,oO 4 (bK .lss 3 10)]
def q78_2 : LReg := rG [oM 5 0,oM 6 0,oO 7 (bK .add 6 1),oO 8 (.sslice (.c (.str [48,49,50,51,52,53,54,55,56,57])) (some (.t 5)) (some (.t 7))),oM 2 8]
def q78_3 : LReg := ⟨[oM 9 0,oO 10 (bK .quo 9 10),oO 11 (cA 78 [10]),oM 12 0,oO 13 (bK .rem 12 10),oM 14 0,oO 15 (bK .rem 14 10),oO 16 (bK .add 15 1),oO 17 (.sslice (.c (.str [48,49,50,51,52,53,54,55,56,57])) (some (.t 13)) (some (.t 16))),oO 18 (bT .add 11 17),oM 2 18],true,[]⟩
def Tryz.l_ref5_Digits : LCode := (.seq (.reg q78_0) (.seq (.seq (.reg q78_1) (.cond (.t 4) (.seq (.reg q78_2) .ret) .skip)) (.seq (.reg q78_3) .ret)))
theorem Tryz.c_ref5_Digits : fnComp Tryz.prog 78 = some (19, Tryz.l_ref5_Digits,[.t 2]) := by kernel_rfl
def q67_0 : LReg := rG [oO 1 (.box 60 4 (.t 0)),oO 2 (mK (.c (.str [])))]
def q67_1 : LReg := ⟨[oO 5 (fA 0 1),oO 6 (lV 1 5),oO 7 (cA 78 [6]),oO 8 (.bin .add (.t 7) (.c (.str [46]))),oO 9 (fA 1 1),oO 10 (lV 1 9),oO 11 (cA 78 [10]),oO 12 (bT .add 8 11),oO 13 (.bin .add (.t 12) (.c (.str [46]))),oO 14 (fA 2 1),oO 15 (lV 1 14),oO 16 (cA 78 [15]),oO 17 (bT .add 13 16),oM 3 17],true,[(0,4),(1,4),(2,4),(0,5),(1,5),(2,5),(0,9),(1,9),(2,9),(4,9),(5,9),(6,9),(0,10),(1,10),(2,10),(4,10),(5,10),(6,10)]⟩
def q67_2 : LReg := rG [oO 4 (mK (kI 0))]
def q67_3 : LReg := rG [oM 18 4,oO 19 (fA 3 1),oO 20 (lV 1 19),oO 21 (lN 20),oO 22 (bT .lss 18 21)]
def q67_4 : LReg := rG [oM 25 4,oO 26 (bK .eql 25 0)]
def q67_5 : LReg := rG [oM 27 3,oO 28 (.bin .add (.t 27) (.c (.str [45]))),oM 3 28]
def q67_6 : LReg := rG [oM 29 3,oO 30 (.bin .add (.t 29) (.c (.str [46]))),oM 3 30]
def q67_7 : LReg := rG [oM 31 3,oO 32 (fA 3 1),oO 33 (lV 1 32),oM 34 4,oO 35 (iX 1 33 34),oO 36 (lV 1 35),oO 37 (bT .add 31 36),oM 3 37]
def q67_8 : LReg := rG [oM 23 4,oO 24 (bK .add 23 1),oM 4 24]
def q67_9 : LReg := rG [oM 38 3,oM 2 38]
def Tryz.l_ref5_VersionText : LCode := (.seq (.reg q67_0) (.seq (.reg q67_1) (.seq (.seq (.reg q67_2) (.block 0 (.loop (.seq (.seq (.reg q67_3) (.cond (.t 22) .skip (.exit 0))) (.seq (.block 1 (.seq (.seq (.reg q67_4) (.cond (.t 26) (.reg q67_5) (.reg q67_6))) (.reg q67_7))) (.reg q67_8)))))) (.seq (.reg q67_9) .ret))))
theorem Tryz.c_ref5_VersionText : fnComp Tryz.prog 67 = some (39, Tryz.l_ref5_VersionText,[.t 2]) := by kernel_rfl
def q40_0 : LReg := rG [oO 1 (.box 60 4 (.t 0)),oO 2 (mK (kI 0))]
def q40_1 : LReg := rG [oO 3 (lA 4 1),oO 4 (cA 67 [3]),oO 5 (.toBytes 5 (.t 4)),oO 6 (cA 66 [5]),oM 2 6]
def Tryz.l_ref6_VersionSum : LCode := (.seq (.reg q40_0) (.seq (.reg q40_1) .ret))
theorem Tryz.c_ref6_VersionSum : fnComp Tryz.prog 40 = some (7, Tryz.l_ref6_VersionSum,[.t 2]) := by kernel_rfl
def q15_0 : LReg := rG [oO 2 (mK (.c (.nils)))]
def q15_1 : LReg := rG [oO 3 (mK (.c (.nils)))]
def q15_2 : LReg := rG [oO 4 (mK (kI 0))]
def q15_3 : LReg := rG [oM 5 4,oM 6 0,oO 7 (lN 6),oO 8 (bT .lss 5 7)]
def q15_4 : LReg := ⟨[oM 11 0,oM 12 4,oO 13 (iX 6 11 12),oO 14 (fA 5 13),oO 15 (lV 1 14),oM 16 0,oM 17 4,oO 18 (iX 6 16 17),oO 19 (fA 1 18),oO 20 (lA 4 19),oO 21 (cA 40 [20]),oO 22 (bT .neq 15 21)],true,[(2,7),(3,7),(4,7),(2,8),(3,8),(4,8),(2,9),(3,9),(4,9),(2,10),(3,10),(4,10)]⟩
def q15_5 : LReg := rG [oM 23 3,oM 24 4,oO 25 (.mkSlice 3 1 1 [.int .i64 0] [(0,(.t 24))]),oO 26 (.append 3 1 8 (.t 23) (.t 25)),oM 3 26]
def q15_6 : LReg := rG [oM 9 4,oO 10 (bK .add 9 1),oM 4 10]
def q15_7 : LReg := rG [oM 27 3,oM 2 27]
def Tryz.l_ref6_Corrupt : LCode := (.seq (.reg q15_0) (.seq (.reg q15_1) (.seq (.seq (.reg q15_2) (.block 0 (.loop (.seq (.seq (.reg q15_3) (.cond (.t 8) .skip (.exit 0))) (.seq (.block 1 (.seq (.reg q15_4) (.cond (.t 22) (.reg q15_5) .skip))) (.reg q15_6)))))) (.seq (.reg q15_7) .ret))))
theorem Tryz.c_ref6_Corrupt : fnComp Tryz.prog 15 = some (28, Tryz.l_ref6_Corrupt,[.t 2]) := by kernel_rfl
def q45_0 : LReg := rG [oO 4 (mK (.c (.nils)))]
def q45_1 : LReg := rG [oO 5 (mK (.c (.nils)))]
def q45_2 : LReg := rG [oO 6 (mK (kI 0))]
def q45_3 : LReg := rG [oM 7 6,oM 8 0,oO 9 (lN 8),oO 10 (bT .lss 7 9)]
def q45_4 : LReg := rG [oM 13 0,oM 14 6,oO 15 (iX 6 13 14),oO 16 (fA 0 15),oO 17 (lV 1 16),oM 18 1,oO 19 (bT .eql 17 18)]
def q45_5 : LReg := rG [oM 20 5,oM 21 0,oM 22 6,oO 23 (iX 6 21 22),oO 24 (lA 6 23),oO 25 (.mkSlice 62 6 1 [.int .i64 0,.int .i64 0,.int .i64 0,.int .i64 0,.nils,.int .i64 0] [(0,(.t 24))]),oO 26 (.append 62 6 64 (.t 20) (.t 25)),oM 5 26]
def q45_6 : LReg := rG [oM 11 6,oO 12 (bK .add 11 1),oM 6 12]
def q45_7 : LReg := rG [oM 27 5,oM 4 27]
def Tryz.l_ref6_of : LCode := (.seq (.reg q45_0) (.seq (.reg q45_1) (.seq (.seq (.reg q45_2) (.block 0 (.loop (.seq (.seq (.reg q45_3) (.cond (.t 10) .skip (.exit 0))) (.seq (.block 1 (.seq (.reg q45_4) (.cond (.t 19) (.reg q45_5) .skip))) (.reg q45_6)))))) (.seq (.reg q45_7) .ret))))
theorem Tryz.c_ref6_of : fnComp Tryz.prog 45 = some (28, Tryz.l_ref6_of,[.t 4]) := by kernel_rfl
def q18_0 : LReg := rG [oO 4 (mK (.c (.nils)))]
def q18_1 : LReg := rG [oO 5 (mK (.c (.nils)))]
def q18_2 : LReg := rG [oO 6 (mK (kI 0))]
def q18_3 : LReg := rG [oM 7 6,oO 8 (bK .lss 7 6)]
def q18_4 : LReg := rG [oM 11 0,oM 12 6,oO 13 (cA 45 [11,12]),oM 14 1,oM 15 6,oO 16 (cA 45 [14,15]),oO 17 (cA 23 [13,16]),oO 18 (.un .not (.t 17))]
def q18_5 : LReg := rG [oM 19 5,oM 20 6,oO 21 (.mkSlice 3 1 1 [.int .i64 0] [(0,(.t 20))]),oO 22 (.append 3 1 8 (.t 19) (.t 21)),oM 5 22]
def q18_6 : LReg := rG [oM 9 6,oO 10 (bK .add 9 1),oM 6 10]
def q18_7 : LReg := rG [oM 23 5,oM 4 23]
def Tryz.l_ref6_Drift : LCode := (.seq (.reg q18_0) (.seq (.reg q18_1) (.seq (.seq (.reg q18_2) (.block 0 (.loop (.seq (.seq (.reg q18_3) (.cond (.t 8) .skip (.exit 0))) (.seq (.block 1 (.seq (.reg q18_4) (.cond (.t 18) (.reg q18_5) .skip))) (.reg q18_6)))))) (.seq (.reg q18_7) .ret))))
theorem Tryz.c_ref6_Drift : fnComp Tryz.prog 18 = some (24, Tryz.l_ref6_Drift,[.t 4]) := by kernel_rfl
def q3_0 : LReg := rG [oO 4 (mK (kB false))]
def q3_1 : LReg := rG [oO 9 (cA 9 []),oO 10 (.un .not (.t 9))]
def q3_2 : LReg := rG [oO 4 (mK (kB false))]
def q3_3 : LReg := rG [oM 11 0,oO 12 (cA 10 [11]),oM 13 12,oF 14 13 (.mv (.t 1)),oF 15 13 (cA 10 [14]),oO 16 (pL 13 (kB true) 15)]
def q3_4 : LReg := rG [oO 4 (mK (kB true))]
def q3_5 : LReg := rG [oM 17 0,oO 18 (cA 11 [17]),oO 5 (.alloc 26 2 [.int .i64 0,.int .i64 0]),oX (sT 2 5 18)]
def q3_6 : LReg := ⟨[oM 19 0,oO 20 (cA 12 [19]),oO 21 (lA 2 5),oO 22 (.eqs true [0,0] (.t 20) (.t 21))],true,[(1,2)]⟩
def q3_7 : LReg := rG [oO 4 (mK (kB false))]
def q3_8 : LReg := rG [oM 24 0,oO 25 (cA 13 [24]),oM 23 25,oO 26 (eX 0 23),oO 27 (eX 1 23),oO 7 (.alloc 26 2 [.int .i64 0,.int .i64 0]),oM 6 26,oX (sT 2 7 27)]
def q3_9 : LReg := rG [oO 28 (lA 2 7),oO 29 (lA 2 5),oO 30 (.eqs true [0,0] (.t 28) (.t 29)),oM 31 30,oF 32 31 (fA 0 5),oF 33 31 (lV 1 32),oF 34 31 (bK .neq 33 0),oF 35 31 (.mv (.t 34)),oT 36 35 (.mv (.t 6)),oT 37 35 (lN 36),oT 38 35 (bK .gtr 37 0),oF 39 31 (pK 35 38 (kB false)),oO 40 (pL 31 (kB true) 39),oM 41 40,oF 42 41 (fA 0 5),oF 43 41 (lV 1 42),oF 44 41 (bK .eql 43 0),oF 45 41 (.mv (.t 44)),oT 46 45 (.mv (.t 6)),oT 47 45 (.mv (.t 0)),oT 48 45 (cA 15 [47]),oT 49 45 (cA 14 [46,48]),oT 50 45 (.un .not (.t 49)),oF 51 41 (pK 45 50 (kB false)),oO 52 (pL 41 (kB true) 51)]
def q3_10 : LReg := rG [oO 4 (mK (kB false))]
def q3_11 : LReg := rG [oO 53 (fA 0 5),oO 54 (lV 1 53),oO 55 (bK .eql 54 0),oM 56 55,oT 57 56 (.mv (.t 1)),oT 58 56 (cA 11 [57]),oT 59 56 (.field 0 1 false (.t 58)),oT 60 56 (bK .neq 59 0),oO 61 (pK 56 60 (kB false))]
def q3_12 : LReg := rG [oM 62 1,oO 63 (cA 11 [62]),oO 64 (.field 0 1 false (.t 63)),oO 65 (.call 16 [(.t 64),(kI (-2))]),oX (sT 2 5 65)]
def q3_13 : LReg := rG [oM 67 0,oM 68 1,oO 69 (cA 17 [67,68]),oM 66 69,oO 70 (eX 0 66),oO 71 (eX 1 66),oM 8 70,oX (sT 2 7 71)]
def q3_14 : LReg := rG [oO 72 (lA 2 7),oO 73 (lA 2 5),oO 74 (.eqs false [0,0] (.t 72) (.t 73)),oM 75 74,oT 76 75 (fA 0 5),oT 77 75 (lV 1 76),oT 78 75 (bK .neq 77 0),oT 79 75 (.mv (.t 78)),oT 80 79 (.mv (.t 8)),oT 81 79 (lN 80),oT 82 79 (bK .eql 81 0),oT 83 75 (pK 79 82 (kB false)),oT 84 75 (.mv (.t 83)),oF 85 84 (fA 0 5),oF 86 84 (lV 1 85),oF 87 84 (bK .eql 86 0),oF 88 84 (.mv (.t 87)),oT 89 88 (.mv (.t 8)),oT 90 88 (.mv (.t 0)),oT 91 88 (.mv (.t 1)),oT 92 88 (cA 18 [90,91]),oT 93 88 (cA 14 [89,92]),oF 94 84 (pK 88 93 (kB false)),oT 95 75 (pL 84 (kB true) 94),oO 96 (pK 75 95 (kB false)),oM 4 96]
def Tryz.l_law6_LockfileMatchesSpec : LCode := (.seq (.reg q3_0) (.seq (.seq (.reg q3_1) (.cond (.t 10) (.seq (.reg q3_2) .ret) .skip)) (.seq (.seq (.reg q3_3) (.cond (.t 16) (.seq (.reg q3_4) .ret) .skip)) (.seq (.reg q3_5) (.seq (.seq (.reg q3_6) (.cond (.t 22) (.seq (.reg q3_7) .ret) .skip)) (.seq (.reg q3_8) (.seq (.seq (.reg q3_9) (.cond (.t 52) (.seq (.reg q3_10) .ret) .skip)) (.seq (.seq (.reg q3_11) (.cond (.t 61) (.reg q3_12) .skip)) (.seq (.reg q3_13) (.seq (.reg q3_14) .ret))))))))))
theorem Tryz.c_law6_LockfileMatchesSpec : fnComp Tryz.prog 3 = some (97, Tryz.l_law6_LockfileMatchesSpec,[.t 4]) := by kernel_rfl
def q46_0 : LReg := rG [oO 2 (mK (kB false))]
def q46_1 : LReg := rG [oO 3 (mK (kI 0))]
def q46_2 : LReg := rG [oM 5 3,oM 6 0,oO 7 (lN 6),oO 8 (bT .lss 5 7),oM 9 8,oT 10 9 (.mv (.t 3)),oT 11 9 (bK .lss 10 20),oO 12 (pK 9 11 (kB false))]
def q46_3 : LReg := rG [oM 15 0,oM 16 3,oO 17 (iX 2 15 16),oO 18 (fA 1 17),oO 19 (fA 0 18),oO 20 (lV 1 19),oO 21 (lN 20),oO 22 (bK .gtr 21 40)]
def q46_4 : LReg := rG [oO 2 (mK (kB true))]
def q46_5 : LReg := rG [oO 4 (mK (kI 0))]
def q46_6 : LReg := rG [oM 23 4,oM 24 0,oM 25 3,oO 26 (iX 2 24 25),oO 27 (fA 1 26),oO 28 (fA 0 27),oO 29 (lV 1 28),oO 30 (lN 29),oO 31 (bT .lss 23 30)]
def q46_7 : LReg := rG [oM 34 0,oM 35 3,oO 36 (iX 2 34 35),oO 37 (fA 1 36),oO 38 (fA 0 37),oO 39 (lV 1 38),oM 40 4,oO 41 (iX 9 39 40),oO 42 (fA 0 41),oO 43 (fA 3 42),oO 44 (lV 1 43),oO 45 (lN 44),oO 46 (bK .gtr 45 40),oM 47 46,oF 48 47 (.mv (.t 0)),oF 49 47 (.mv (.t 3)),oF 50 47 (iX 2 48 49),oF 51 47 (fA 1 50),oF 52 47 (fA 0 51),oF 53 47 (lV 1 52),oF 54 47 (.mv (.t 4)),oF 55 47 (iX 9 53 54),oF 56 47 (fA 4 55),oF 57 47 (fA 3 56),oF 58 47 (lV 1 57),oF 59 47 (lN 58),oF 60 47 (bK .gtr 59 40),oO 61 (pL 47 (kB true) 60)]
def q46_8 : LReg := rG [oO 2 (mK (kB true))]
def q46_9 : LReg := rG [oM 32 4,oO 33 (bK .add 32 1),oM 4 33]
def q46_10 : LReg := rG [oM 13 3,oO 14 (bK .add 13 1),oM 3 14]
def q46_11 : LReg := rG [oM 62 0,oO 63 (lN 62),oO 64 (bK .gtr 63 20),oM 2 64]
def Tryz.l_law6_vastNeeds : LCode := (.seq (.reg q46_0) (.seq (.seq (.reg q46_1) (.block 0 (.loop (.seq (.seq (.reg q46_2) (.cond (.t 12) .skip (.exit 0))) (.seq (.block 1 (.seq (.seq (.reg q46_3) (.cond (.t 22) (.seq (.reg q46_4) .ret) .skip)) (.seq (.reg q46_5) (.block 2 (.loop (.seq (.seq (.reg q46_6) (.cond (.t 31) .skip (.exit 2))) (.seq (.block 3 (.seq (.reg q46_7) (.cond (.t 61) (.seq (.reg q46_8) .ret) .skip))) (.reg q46_9)))))))) (.reg q46_10)))))) (.seq (.reg q46_11) .ret)))
theorem Tryz.c_law6_vastNeeds : fnComp Tryz.prog 46 = some (65, Tryz.l_law6_vastNeeds,[.t 2]) := by kernel_rfl
def q19_0 : LReg := rG [oO 2 (.box 39 1 (.t 0)),oO 4 (mK (kB false))]
def q19_1 : LReg := rG [oO 5 (mK (kI 0))]
def q19_2 : LReg := rG [oM 7 5,oO 8 (fA 0 2),oO 9 (lV 1 8),oO 10 (lN 9),oO 11 (bT .lss 7 10),oM 12 11,oT 13 12 (.mv (.t 5)),oT 14 12 (bK .lss 13 20),oO 15 (pK 12 14 (kB false))]
def q19_3 : LReg := rG [oO 18 (fA 0 2),oO 19 (lV 1 18),oM 20 5,oO 21 (iX 1 19 20),oO 22 (lV 1 21),oO 23 (lN 22),oO 24 (bK .gtr 23 20)]
def q19_4 : LReg := rG [oO 4 (mK (kB true))]
def q19_5 : LReg := rG [oO 6 (mK (kI 0))]
def q19_6 : LReg := rG [oM 25 6,oO 26 (fA 0 2),oO 27 (lV 1 26),oM 28 5,oO 29 (iX 1 27 28),oO 30 (lV 1 29),oO 31 (lN 30),oO 32 (bT .lss 25 31)]
def q19_7 : LReg := rG [oO 35 (fA 0 2),oO 36 (lV 1 35),oM 37 5,oO 38 (iX 1 36 37),oO 39 (lV 1 38),oM 40 6,oO 41 (iX 5 39 40),oO 42 (fA 0 41),oO 43 (fA 3 42),oO 44 (lV 1 43),oO 45 (lN 44),oO 46 (bK .gtr 45 40),oM 47 46,oF 48 47 (fA 0 2),oF 49 47 (lV 1 48),oF 50 47 (.mv (.t 5)),oF 51 47 (iX 1 49 50),oF 52 47 (lV 1 51),oF 53 47 (.mv (.t 6)),oF 54 47 (iX 5 52 53),oF 55 47 (fA 4 54),oF 56 47 (lV 1 55),oF 57 47 (cA 46 [56]),oO 58 (pL 47 (kB true) 57)]
def q19_8 : LReg := rG [oO 4 (mK (kB true))]
def q19_9 : LReg := rG [oM 33 6,oO 34 (bK .add 33 1),oM 6 34]
def q19_10 : LReg := rG [oM 16 5,oO 17 (bK .add 16 1),oM 5 17]
def q19_11 : LReg := rG [oO 59 (fA 0 2),oO 60 (lV 1 59),oO 61 (lN 60),oO 62 (bK .gtr 61 20),oM 63 62,oF 64 63 (.mv (.t 1)),oF 65 63 (cA 46 [64]),oO 66 (pL 63 (kB true) 65),oM 4 66]
def Tryz.l_law6_vast : LCode := (.seq (.reg q19_0) (.seq (.seq (.reg q19_1) (.block 0 (.loop (.seq (.seq (.reg q19_2) (.cond (.t 15) .skip (.exit 0))) (.seq (.block 1 (.seq (.seq (.reg q19_3) (.cond (.t 24) (.seq (.reg q19_4) .ret) .skip)) (.seq (.reg q19_5) (.block 2 (.loop (.seq (.seq (.reg q19_6) (.cond (.t 32) .skip (.exit 2))) (.seq (.block 3 (.seq (.reg q19_7) (.cond (.t 58) (.seq (.reg q19_8) .ret) .skip))) (.reg q19_9)))))))) (.reg q19_10)))))) (.seq (.reg q19_11) .ret)))
theorem Tryz.c_law6_vast : fnComp Tryz.prog 19 = some (67, Tryz.l_law6_vast,[.t 4]) := by kernel_rfl
def q89_0 : LReg := rG [oO 4 (mK (kI 0))]
def q89_1 : LReg := rG [oM 5 0,oM 6 1,oO 7 (bT .lss 5 6)]
def q89_2 : LReg := rG [oO 4 (mK (kI (-1)))]
def q89_3 : LReg := rG [oM 8 0,oM 9 1,oO 10 (bT .gtr 8 9)]
def q89_4 : LReg := rG [oO 4 (mK (kI 1))]
def q89_5 : LReg := rG [oO 4 (mK (kI 0))]
def Tryz.l_ref5_Sign3 : LCode := (.seq (.reg q89_0) (.seq (.seq (.reg q89_1) (.cond (.t 7) (.seq (.reg q89_2) .ret) .skip)) (.seq (.seq (.reg q89_3) (.cond (.t 10) (.seq (.reg q89_4) .ret) .skip)) (.seq (.reg q89_5) .ret))))
theorem Tryz.c_ref5_Sign3 : fnComp Tryz.prog 89 = some (11, Tryz.l_ref5_Sign3,[.t 4]) := by kernel_rfl
def q104_0 : LReg := rG [oO 2 (mK (kI 0))]
def q104_1 : LReg := rG [oO 3 (mK (kI 0))]
def q104_2 : LReg := rG [oO 4 (mK (kI 0))]
def q104_3 : LReg := rG [oM 5 4,oM 6 0,oO 7 (sN 6),oO 8 (bT .lss 5 7)]
def q104_4 : LReg := rG [oM 11 3,oO 12 (.bin .mul (kI 10) (.t 11)),oM 13 0,oM 14 4,oO 15 (.sidx (.t 13) (.t 14)),oO 16 (.bin .sub (.t 15) (.c (.int .u8 48))),oO 17 (.conv .i64 (.t 16)),oO 18 (bT .add 12 17),oM 3 18]
def q104_5 : LReg := rG [oM 9 4,oO 10 (bK .add 9 1),oM 4 10]
def q104_6 : LReg := rG [oM 19 3,oM 2 19]
def Tryz.l_ref5_value : LCode := (.seq (.reg q104_0) (.seq (.reg q104_1) (.seq (.seq (.reg q104_2) (.block 0 (.loop (.seq (.seq (.reg q104_3) (.cond (.t 8) .skip (.exit 0))) (.seq (.block 1 (.reg q104_4)) (.reg q104_5)))))) (.seq (.reg q104_6) .ret))))
theorem Tryz.c_ref5_value : fnComp Tryz.prog 104 = some (20, Tryz.l_ref5_value,[.t 2]) := by kernel_rfl
def q90_0 : LReg := rG [oO 4 (mK (kI 0))]
def q90_1 : LReg := rG [oM 6 0,oO 7 (cA 82 [6]),oM 8 7,oT 9 8 (.mv (.t 1)),oT 10 8 (cA 82 [9]),oO 11 (pK 8 10 (kB false))]
def q90_2 : LReg := rG [oM 12 0,oO 13 (cA 104 [12]),oM 14 1,oO 15 (cA 104 [14]),oO 16 (cA 89 [13,15]),oM 4 16]
def q90_3 : LReg := rG [oM 17 0,oO 18 (cA 82 [17])]
def q90_4 : LReg := rG [oO 4 (mK (kI (-1)))]
def q90_5 : LReg := rG [oM 19 1,oO 20 (cA 82 [19])]
def q90_6 : LReg := rG [oO 4 (mK (kI 1))]
def q90_7 : LReg := rG [oO 5 (mK (kI 0))]
def q90_8 : LReg := rG [oM 21 5,oM 22 0,oO 23 (sN 22),oO 24 (bT .lss 21 23),oM 25 24,oT 26 25 (.mv (.t 5)),oT 27 25 (.mv (.t 1)),oT 28 25 (sN 27),oT 29 25 (bT .lss 26 28),oO 30 (pK 25 29 (kB false))]
def q90_9 : LReg := ⟨[oM 33 0,oM 34 5,oO 35 (.sidx (.t 33) (.t 34)),oM 36 1,oM 37 5,oO 38 (.sidx (.t 36) (.t 37)),oO 39 (bT .neq 35 38)],true,[]⟩
def q90_10 : LReg := ⟨[oM 40 0,oM 41 5,oO 42 (.sidx (.t 40) (.t 41)),oO 43 (.conv .i64 (.t 42)),oM 44 1,oM 45 5,oO 46 (.sidx (.t 44) (.t 45)),oO 47 (.conv .i64 (.t 46)),oO 48 (cA 89 [43,47]),oM 4 48],true,[]⟩
def q90_11 : LReg := rG [oM 31 5,oO 32 (bK .add 31 1),oM 5 32]
def q90_12 : LReg := rG [oM 49 0,oO 50 (sN 49),oM 51 1,oO 52 (sN 51),oO 53 (cA 89 [50,52]),oM 4 53]
def Tryz.l_ref5_identifiers : LCode := (.seq (.reg q90_0) (.seq (.seq (.reg q90_1) (.cond (.t 11) (.seq (.reg q90_2) .ret) .skip)) (.seq (.seq (.reg q90_3) (.cond (.t 18) (.seq (.reg q90_4) .ret) .skip)) (.seq (.seq (.reg q90_5) (.cond (.t 20) (.seq (.reg q90_6) .ret) .skip)) (.seq (.seq (.reg q90_7) (.block 0 (.loop (.seq (.seq (.reg q90_8) (.cond (.t 30) .skip (.exit 0))) (.seq (.block 1 (.seq (.reg q90_9) (.cond (.t 39) (.seq (.reg q90_10) .ret) .skip))) (.reg q90_11)))))) (.seq (.reg q90_12) .ret))))))
theorem Tryz.c_ref5_identifiers : fnComp Tryz.prog 90 = some (54, Tryz.l_ref5_identifiers,[.t 4]) := by kernel_rfl
def q72_0 : LReg := rG [oO 2 (.box 60 4 (.t 0)),oO 3 (.box 60 4 (.t 1)),oO 4 (mK (kI 0))]
def q72_1 : LReg := rG [oO 7 (fA 0 2),oO 8 (lV 1 7),oO 9 (fA 0 3),oO 10 (lV 1 9),oO 11 (bT .neq 8 10)]
def q72_2 : LReg := rG [oO 12 (fA 0 2),oO 13 (lV 1 12),oO 14 (fA 0 3),oO 15 (lV 1 14),oO 16 (cA 89 [13,15]),oM 4 16]
def q72_3 : LReg := rG [oO 17 (fA 1 2),oO 18 (lV 1 17),oO 19 (fA 1 3),oO 20 (lV 1 19),oO 21 (bT .neq 18 20)]
def q72_4 : LReg := rG [oO 22 (fA 1 2),oO 23 (lV 1 22),oO 24 (fA 1 3),oO 25 (lV 1 24),oO 26 (cA 89 [23,25]),oM 4 26]
def q72_5 : LReg := rG [oO 27 (fA 2 2),oO 28 (lV 1 27),oO 29 (fA 2 3),oO 30 (lV 1 29),oO 31 (bT .neq 28 30)]
def q72_6 : LReg := rG [oO 32 (fA 2 2),oO 33 (lV 1 32),oO 34 (fA 2 3),oO 35 (lV 1 34),oO 36 (cA 89 [33,35]),oM 4 36]
def q72_7 : LReg := rG [oO 37 (fA 3 2),oO 38 (lV 1 37),oO 39 (lN 38),oO 40 (bK .eql 39 0),oM 41 40,oF 42 41 (fA 3 3),oF 43 41 (lV 1 42),oF 44 41 (lN 43),oF 45 41 (bK .eql 44 0),oO 46 (pL 41 (kB true) 45)]
def q72_8 : LReg := ⟨[oO 47 (fA 3 3),oO 48 (lV 1 47),oO 49 (lN 48),oO 50 (fA 3 2),oO 51 (lV 1 50),oO 52 (lN 51),oO 53 (cA 89 [49,52]),oO 54 (fA 3 2),oO 55 (lV 1 54),oO 56 (lN 55),oO 57 (fA 3 3),oO 58 (lV 1 57),oO 59 (lN 58),oO 60 (bT .add 56 59),oO 61 (.call 89 [(.t 60),(kI 0)]),oO 62 (bT .mul 53 61),oM 4 62],true,[(0,3),(1,3),(2,3),(0,4),(1,4),(2,4),(0,5),(1,5),(2,5),(0,7),(1,7),(2,7),(3,7),(4,7),(5,7),(6,7),(0,8),(1,8),(2,8),(3,8),(4,8),(5,8),(6,8),(0,9),(1,9),(2,9),(3,9),(4,9),(5,9),(6,9),(0,10),(1,10),(2,10),(3,10),(4,10),(5,10),(6,10),(7,10),(8,10),(9,10),(0,11),(1,11),(2,11),(3,11),(4,11),(5,11),(6,11),(7,11),(8,11),(9,11),(0,12),(1,12),(2,12),(3,12),(4,12),(5,12),(6,12),(7,12),(8,12),(9,12)]⟩
def q72_9 : LReg := rG [oO 5 (mK (kI 0))]
def q72_10 : LReg := rG [oM 63 5,oO 64 (fA 3 2),oO 65 (lV 1 64),oO 66 (lN 65),oO 67 (bT .lss 63 66),oM 68 67,oT 69 68 (.mv (.t 5)),oT 70 68 (fA 3 3),oT 71 68 (lV 1 70),oT 72 68 (lN 71),oT 73 68 (bT .lss 69 72),oO 74 (pK 68 73 (kB false))]
def q72_11 : LReg := ⟨[oO 77 (fA 3 2),oO 78 (lV 1 77),oM 79 5,oO 80 (iX 1 78 79),oO 81 (lV 1 80),oO 82 (fA 3 3),oO 83 (lV 1 82),oM 84 5,oO 85 (iX 1 83 84),oO 86 (lV 1 85),oO 87 (cA 90 [81,86]),oM 6 87],true,[(0,5),(1,5),(3,5),(4,5),(0,6),(1,6),(3,6),(4,6),(0,8),(1,8),(3,8),(4,8),(0,9),(1,9),(3,9),(4,9)]⟩
def q72_12 : LReg := rG [oM 88 6,oO 89 (bK .neq 88 0)]
def q72_13 : LReg := rG [oM 90 6,oM 4 90]
def q72_14 : LReg := rG [oM 75 5,oO 76 (bK .add 75 1),oM 5 76]
def q72_15 : LReg := rG [oO 91 (fA 3 2),oO 92 (lV 1 91),oO 93 (lN 92),oO 94 (fA 3 3),oO 95 (lV 1 94),oO 96 (lN 95),oO 97 (cA 89 [93,96]),oM 4 97]
def Tryz.l_ref5_VersionOrder : LCode := (.seq (.reg q72_0) (.seq (.seq (.reg q72_1) (.cond (.t 11) (.seq (.reg q72_2) .ret) .skip)) (.seq (.seq (.reg q72_3) (.cond (.t 21) (.seq (.reg q72_4) .ret) .skip)) (.seq (.seq (.reg q72_5) (.cond (.t 31) (.seq (.reg q72_6) .ret) .skip)) (.seq (.seq (.reg q72_7) (.cond (.t 46) (.seq (.reg q72_8) .ret) .skip)) (.seq (.seq (.reg q72_9) (.block 0 (.loop (.seq (.seq (.reg q72_10) (.cond (.t 74) .skip (.exit 0))) (.seq (.block 1 (.seq (.reg q72_11) (.seq (.reg q72_12) (.cond (.t 89) (.seq (.reg q72_13) .ret) .skip)))) (.reg q72_14)))))) (.seq (.reg q72_15) .ret)))))))
theorem Tryz.c_ref5_VersionOrder : fnComp Tryz.prog 72 = some (98, Tryz.l_ref5_VersionOrder,[.t 4]) := by kernel_rfl
def q91_0 : LReg := rG [oO 1 (.box 93 1 (.t 0)),oO 2 (.alloc 26 2 [.int .i64 0,.int .i64 0])]
def q91_1 : LReg := rG [oO 6 (fA 0 1),oO 7 (lV 1 6),oO 8 (lN 7),oO 9 (bK .gtr 8 12)]
def q91_2 : LReg := rG [oO 10 (.call 47 [(kI 2),(kI (-1))]),oX (sT 2 2 10)]
def q91_3 : LReg := rG [oO 3 (mK (kI 0))]
def q91_4 : LReg := rG [oM 11 3,oO 12 (fA 0 1),oO 13 (lV 1 12),oO 14 (lN 13),oO 15 (bT .lss 11 14)]
def q91_5 : LReg := rG [oO 18 (fA 0 1),oO 19 (lV 1 18),oM 20 3,oO 21 (iX 9 19 20),oO 22 (lA 9 21),oO 4 (.alloc 109 9 [.int .i64 0,.int .i64 0,.int .i64 0,.nils,.int .i64 0,.int .i64 0,.int .i64 0,.nils,.bool false]),oX (sT 9 4 22)]
def q91_6 : LReg := rG [oO 23 (fA 0 4),oO 24 (lA 4 23),oO 25 (cA 35 [24]),oO 5 (.alloc 26 2 [.int .i64 0,.int .i64 0]),oX (sT 2 5 25)]
def q91_7 : LReg := rG [oO 26 (fA 0 5),oO 27 (lV 1 26),oO 28 (bK .neq 27 0)]
def q91_8 : LReg := rG [oO 29 (fA 0 5),oO 30 (lV 1 29),oM 31 3,oO 32 (cA 47 [30,31]),oX (sT 2 2 32)]
def q91_9 : LReg := rG [oO 33 (fA 8 4),oO 34 (lV 1 33),oM 35 34,oT 36 35 (fA 4 4),oT 37 35 (lA 4 36),oT 38 35 (.build [.int .i64 0,.int .i64 0,.int .i64 0,.nils] []),oT 39 35 (cA 53 [37,38]),oT 40 35 (.un .not (.t 39)),oO 41 (pK 35 40 (kB false))]
def q91_10 : LReg := rG [oM 42 3,oO 43 (.call 47 [(kI 5),(.t 42)]),oX (sT 2 2 43)]
def q91_11 : LReg := rG [oO 44 (fA 8 4),oO 45 (lV 1 44),oO 46 (.un .not (.t 45))]
def q91_12 : LReg := rG [oO 47 (fA 4 4),oO 48 (lA 4 47),oO 49 (cA 35 [48]),oX (sT 2 5 49)]
def q91_13 : LReg := rG [oO 50 (fA 0 5),oO 51 (lV 1 50),oO 52 (bK .neq 51 0)]
def q91_14 : LReg := rG [oO 53 (fA 0 5),oO 54 (lV 1 53),oM 55 3,oO 56 (cA 47 [54,55]),oX (sT 2 2 56)]
def q91_15 : LReg := rG [oO 57 (fA 0 4),oO 58 (lA 4 57),oO 59 (fA 4 4),oO 60 (lA 4 59),oO 61 (cA 72 [58,60]),oO 62 (bK .geq 61 0)]
def q91_16 : LReg := rG [oM 63 3,oO 64 (.call 47 [(kI 5),(.t 63)]),oX (sT 2 2 64)]
def q91_17 : LReg := ⟨[oM 65 3,oO 66 (bK .gtr 65 0),oM 67 66,oT 68 67 (fA 0 1),oT 69 67 (lV 1 68),oT 70 67 (.mv (.t 3)),oT 71 67 (bK .sub 70 1),oT 72 67 (iX 9 69 71),oT 73 67 (fA 8 72),oT 74 67 (lV 1 73),oT 75 67 (.mv (.t 74)),oF 76 75 (fA 0 1),oF 77 75 (lV 1 76),oF 78 75 (.mv (.t 3)),oF 79 75 (bK .sub 78 1),oF 80 75 (iX 9 77 79),oF 81 75 (fA 4 80),oF 82 75 (lA 4 81),oF 83 75 (fA 0 4),oF 84 75 (lA 4 83),oF 85 75 (cA 72 [82,84]),oF 86 75 (bK .geq 85 0),oT 87 67 (pL 75 (kB true) 86),oO 88 (pK 67 87 (kB false))],true,[(11,18),(12,18),(15,18),(16,18),(17,18),(11,19),(12,19),(15,19),(16,19),(17,19)]⟩
def q91_18 : LReg := rG [oM 89 3,oO 90 (.call 47 [(kI 5),(.t 89)]),oX (sT 2 2 90)]
def q91_19 : LReg := rG [oM 16 3,oO 17 (bK .add 16 1),oM 3 17]
def q91_20 : LReg := rG [oO 91 (.build [.int .i64 0,.int .i64 0] []),oX (sT 2 2 91)]
def Tryz.l_ref5_RangeFault : LCode := (.seq (.reg q91_0) (.seq (.seq (.reg q91_1) (.cond (.t 9) (.seq (.reg q91_2) .ret) .skip)) (.seq (.seq (.reg q91_3) (.block 0 (.loop (.seq (.seq (.reg q91_4) (.cond (.t 15) .skip (.exit 0))) (.seq (.block 1 (.seq (.reg q91_5) (.seq (.reg q91_6) (.seq (.seq (.reg q91_7) (.cond (.t 28) (.seq (.reg q91_8) .ret) .skip)) (.seq (.seq (.reg q91_9) (.cond (.t 41) (.seq (.reg q91_10) .ret) .skip)) (.seq (.seq (.reg q91_11) (.cond (.t 46) (.seq (.reg q91_12) (.seq (.seq (.reg q91_13) (.cond (.t 52) (.seq (.reg q91_14) .ret) .skip)) (.seq (.reg q91_15) (.cond (.t 62) (.seq (.reg q91_16) .ret) .skip)))) .skip)) (.seq (.reg q91_17) (.cond (.t 88) (.seq (.reg q91_18) .ret) .skip)))))))) (.reg q91_19)))))) (.seq (.reg q91_20) .ret))))
theorem Tryz.c_ref5_RangeFault : fnComp Tryz.prog 91 = some (92, Tryz.l_ref5_RangeFault,[.cell 2 2 true]) := by kernel_rfl
def q73_0 : LReg := rG [oO 4 (mK (kI 0))]
def q73_1 : LReg := rG [oM 7 1,oO 8 (lN 7),oO 9 (bK .gtr 8 4)]
def q73_2 : LReg := rG [oO 4 (mK (kI 2))]
def q73_3 : LReg := rG [oO 5 (mK (kI 0))]
def q73_4 : LReg := rG [oM 10 5,oM 11 1,oO 12 (lN 11),oO 13 (bT .lss 10 12)]
def q73_5 : LReg := rG [oM 16 1,oM 17 5,oO 18 (iX 2 16 17),oO 19 (fA 0 18),oO 20 (lV 1 19),oM 21 0,oO 22 (bK .sub 21 1),oO 23 (.call 49 [(.t 20),(kI 0),(.t 22)]),oO 24 (.un .not (.t 23))]
def q73_6 : LReg := rG [oO 4 (mK (kI 3))]
def q73_7 : LReg := rG [oM 25 1,oM 26 5,oO 27 (iX 2 25 26),oO 28 (fA 1 27),oO 29 (lA 1 28),oO 30 (cA 91 [29]),oO 6 (.alloc 26 2 [.int .i64 0,.int .i64 0]),oX (sT 2 6 30)]
def q73_8 : LReg := rG [oO 31 (fA 0 6),oO 32 (lV 1 31),oO 33 (bK .neq 32 0)]
def q73_9 : LReg := rG [oO 34 (fA 0 6),oO 35 (lV 1 34),oM 4 35]
def q73_10 : LReg := ⟨[oM 36 5,oO 37 (bK .gtr 36 0),oM 38 37,oT 39 38 (.mv (.t 1)),oT 40 38 (.mv (.t 5)),oT 41 38 (iX 2 39 40),oT 42 38 (fA 0 41),oT 43 38 (lV 1 42),oT 44 38 (.mv (.t 1)),oT 45 38 (.mv (.t 5)),oT 46 38 (bK .sub 45 1),oT 47 38 (iX 2 44 46),oT 48 38 (fA 0 47),oT 49 38 (lV 1 48),oT 50 38 (bT .leq 43 49),oO 51 (pK 38 50 (kB false))],true,[(5,11),(6,11),(7,11),(5,12),(6,12),(7,12),(5,13),(6,13),(7,13)]⟩
def q73_11 : LReg := rG [oO 4 (mK (kI 5))]
def q73_12 : LReg := rG [oM 14 5,oO 15 (bK .add 14 1),oM 5 15]
def q73_13 : LReg := rG [oO 4 (mK (kI 0))]
def Tryz.l_ref5_NeedsCode : LCode := (.seq (.reg q73_0) (.seq (.seq (.reg q73_1) (.cond (.t 9) (.seq (.reg q73_2) .ret) .skip)) (.seq (.seq (.reg q73_3) (.block 0 (.loop (.seq (.seq (.reg q73_4) (.cond (.t 13) .skip (.exit 0))) (.seq (.block 1 (.seq (.seq (.reg q73_5) (.cond (.t 24) (.seq (.reg q73_6) .ret) .skip)) (.seq (.reg q73_7) (.seq (.seq (.reg q73_8) (.cond (.t 33) (.seq (.reg q73_9) .ret) .skip)) (.seq (.reg q73_10) (.cond (.t 51) (.seq (.reg q73_11) .ret) .skip)))))) (.reg q73_12)))))) (.seq (.reg q73_13) .ret))))
theorem Tryz.c_ref5_NeedsCode : fnComp Tryz.prog 73 = some (52, Tryz.l_ref5_NeedsCode,[.t 4]) := by kernel_rfl
def q48_0 : LReg := rG [oO 4 (mK (kI 0))]
def q48_1 : LReg := rG [oM 8 1,oO 9 (lN 8),oO 10 (bK .gtr 9 4)]
def q48_2 : LReg := rG [oO 4 (mK (kI 2))]
def q48_3 : LReg := rG [oO 5 (mK (kI 0))]
def q48_4 : LReg := rG [oM 11 5,oM 12 1,oO 13 (lN 12),oO 14 (bT .lss 11 13)]
def q48_5 : LReg := rG [oM 17 1,oM 18 5,oO 19 (iX 5 17 18),oO 20 (fA 0 19),oO 21 (lA 4 20),oO 22 (cA 35 [21]),oO 6 (.alloc 26 2 [.int .i64 0,.int .i64 0]),oX (sT 2 6 22)]
def q48_6 : LReg := rG [oO 23 (fA 0 6),oO 24 (lV 1 23),oO 25 (bK .neq 24 0)]
def q48_7 : LReg := rG [oO 26 (fA 0 6),oO 27 (lV 1 26),oM 4 27]
def q48_8 : LReg := ⟨[oM 28 5,oO 29 (bK .gtr 28 0),oM 30 29,oT 31 30 (.mv (.t 1)),oT 32 30 (.mv (.t 5)),oT 33 30 (bK .sub 32 1),oT 34 30 (iX 5 31 33),oT 35 30 (fA 0 34),oT 36 30 (lA 4 35),oT 37 30 (.mv (.t 1)),oT 38 30 (.mv (.t 5)),oT 39 30 (iX 5 37 38),oT 40 30 (fA 0 39),oT 41 30 (lA 4 40),oT 42 30 (cA 72 [36,41]),oT 43 30 (bK .geq 42 0),oO 44 (pK 30 43 (kB false))],true,[(6,11),(7,11),(8,11),(6,12),(7,12),(8,12),(6,13),(7,13),(8,13)]⟩
def q48_9 : LReg := rG [oO 4 (mK (kI 5))]
def q48_10 : LReg := rG [oM 45 0,oM 46 1,oM 47 5,oO 48 (iX 5 46 47),oO 49 (fA 4 48),oO 50 (lV 1 49),oO 51 (cA 73 [45,50]),oM 7 51]
def q48_11 : LReg := rG [oM 52 7,oO 53 (bK .neq 52 0)]
def q48_12 : LReg := rG [oM 54 7,oM 4 54]
def q48_13 : LReg := rG [oM 15 5,oO 16 (bK .add 15 1),oM 5 16]
def q48_14 : LReg := rG [oO 4 (mK (kI 0))]
def Tryz.l_ref5_ReleasesCode : LCode := (.seq (.reg q48_0) (.seq (.seq (.reg q48_1) (.cond (.t 10) (.seq (.reg q48_2) .ret) .skip)) (.seq (.seq (.reg q48_3) (.block 0 (.loop (.seq (.seq (.reg q48_4) (.cond (.t 14) .skip (.exit 0))) (.seq (.block 1 (.seq (.reg q48_5) (.seq (.seq (.reg q48_6) (.cond (.t 25) (.seq (.reg q48_7) .ret) .skip)) (.seq (.seq (.reg q48_8) (.cond (.t 44) (.seq (.reg q48_9) .ret) .skip)) (.seq (.reg q48_10) (.seq (.reg q48_11) (.cond (.t 53) (.seq (.reg q48_12) .ret) .skip))))))) (.reg q48_13)))))) (.seq (.reg q48_14) .ret))))
theorem Tryz.c_ref5_ReleasesCode : fnComp Tryz.prog 48 = some (55, Tryz.l_ref5_ReleasesCode,[.t 4]) := by kernel_rfl
def q20_0 : LReg := rG [oO 1 (.box 39 1 (.t 0)),oO 2 (.alloc 26 2 [.int .i64 0,.int .i64 0])]
def q20_1 : LReg := rG [oO 5 (fA 0 1),oO 6 (lV 1 5),oO 7 (lN 6),oO 8 (bK .gtr 7 6)]
def q20_2 : LReg := rG [oO 9 (.call 47 [(kI 2),(kI (-1))]),oX (sT 2 2 9)]
def q20_3 : LReg := rG [oO 3 (mK (kI 0))]
def q20_4 : LReg := rG [oM 10 3,oO 11 (fA 0 1),oO 12 (lV 1 11),oO 13 (lN 12),oO 14 (bT .lss 10 13)]
def q20_5 : LReg := ⟨[oO 17 (fA 0 1),oO 18 (lV 1 17),oO 19 (lN 18),oO 20 (fA 0 1),oO 21 (lV 1 20),oM 22 3,oO 23 (iX 1 21 22),oO 24 (lV 1 23),oO 25 (cA 48 [19,24]),oM 4 25],true,[(0,3),(1,3),(2,3),(0,4),(1,4),(2,4),(0,6),(1,6),(2,6),(0,7),(1,7),(2,7)]⟩
def q20_6 : LReg := rG [oM 26 4,oO 27 (bK .neq 26 0)]
def q20_7 : LReg := rG [oM 28 4,oM 29 3,oO 30 (cA 47 [28,29]),oX (sT 2 2 30)]
def q20_8 : LReg := rG [oM 15 3,oO 16 (bK .add 15 1),oM 3 16]
def q20_9 : LReg := rG [oO 31 (.build [.int .i64 0,.int .i64 0] []),oX (sT 2 2 31)]
def Tryz.l_ref5_UniverseFault : LCode := (.seq (.reg q20_0) (.seq (.seq (.reg q20_1) (.cond (.t 8) (.seq (.reg q20_2) .ret) .skip)) (.seq (.seq (.reg q20_3) (.block 0 (.loop (.seq (.seq (.reg q20_4) (.cond (.t 14) .skip (.exit 0))) (.seq (.block 1 (.seq (.reg q20_5) (.seq (.reg q20_6) (.cond (.t 27) (.seq (.reg q20_7) .ret) .skip)))) (.reg q20_8)))))) (.seq (.reg q20_9) .ret))))
theorem Tryz.c_ref5_UniverseFault : fnComp Tryz.prog 20 = some (32, Tryz.l_ref5_UniverseFault,[.cell 2 2 true]) := by kernel_rfl
def q21_0 : LReg := rG [oO 2 (.box 39 1 (.t 0)),oO 4 (.alloc 26 2 [.int .i64 0,.int .i64 0])]
def q21_1 : LReg := rG [oM 6 1,oO 7 (lN 6),oO 8 (fA 0 2),oO 9 (lV 1 8),oO 10 (lN 9),oO 11 (bT .neq 7 10)]
def q21_2 : LReg := rG [oO 12 (.call 47 [(kI 9),(kI (-3))]),oX (sT 2 4 12)]
def q21_3 : LReg := rG [oO 5 (mK (kI 0))]
def q21_4 : LReg := rG [oM 13 5,oM 14 1,oO 15 (lN 14),oO 16 (bT .lss 13 15)]
def q21_5 : LReg := ⟨[oM 19 1,oM 20 5,oO 21 (iX 1 19 20),oO 22 (lV 1 21),oO 23 (fA 0 2),oO 24 (lV 1 23),oM 25 5,oO 26 (iX 1 24 25),oO 27 (lV 1 26),oO 28 (lN 27),oO 29 (bK .sub 28 1),oO 30 (.call 49 [(.t 22),(kI (-1)),(.t 29)]),oO 31 (.un .not (.t 30))],true,[(2,4),(3,4),(2,5),(3,5),(2,7),(3,7),(2,8),(3,8),(2,9),(3,9)]⟩
def q21_6 : LReg := rG [oO 32 (.call 47 [(kI 3),(kI (-4))]),oX (sT 2 4 32)]
def q21_7 : LReg := rG [oM 17 5,oO 18 (bK .add 17 1),oM 5 18]
def q21_8 : LReg := rG [oO 33 (.build [.int .i64 0,.int .i64 0] []),oX (sT 2 4 33)]
def Tryz.l_ref5_ChosenFault : LCode := (.seq (.reg q21_0) (.seq (.seq (.reg q21_1) (.cond (.t 11) (.seq (.reg q21_2) .ret) .skip)) (.seq (.seq (.reg q21_3) (.block 0 (.loop (.seq (.seq (.reg q21_4) (.cond (.t 16) .skip (.exit 0))) (.seq (.block 1 (.seq (.reg q21_5) (.cond (.t 31) (.seq (.reg q21_6) .ret) .skip))) (.reg q21_7)))))) (.seq (.reg q21_8) .ret))))
theorem Tryz.c_ref5_ChosenFault : fnComp Tryz.prog 21 = some (34, Tryz.l_ref5_ChosenFault,[.cell 4 2 true]) := by kernel_rfl
def q24_0 : LReg := rG [oO 2 (.box 39 1 (.t 0)),oO 4 (mK (.c (.nils)))]
def q24_1 : LReg := rG [oO 5 (mK (.c (.nils)))]
def q24_2 : LReg := rG [oO 6 (mK (kI 0))]
def q24_3 : LReg := rG [oM 8 6,oM 9 1,oO 10 (lN 9),oO 11 (bT .lss 8 10)]
def q24_4 : LReg := rG [oM 14 1,oM 15 6,oO 16 (iX 1 14 15),oO 17 (lV 1 16),oO 18 (bK .geq 17 0)]
def q24_5 : LReg := ⟨[oO 19 (fA 0 2),oO 20 (lV 1 19),oM 21 6,oO 22 (iX 1 20 21),oO 23 (lV 1 22),oM 24 1,oM 25 6,oO 26 (iX 1 24 25),oO 27 (lV 1 26),oO 28 (iX 5 23 27),oO 29 (fA 0 28),oO 30 (lA 4 29),oO 7 (.alloc 60 4 [.int .i64 0,.int .i64 0,.int .i64 0,.nils]),oX (sT 4 7 30)],true,[(0,7),(1,7),(3,7),(4,7),(0,8),(1,8),(3,8),(4,8),(0,12),(1,12),(3,12),(4,12),(7,12),(8,12),(9,12),(10,12),(11,12)]⟩
def q24_6 : LReg := ⟨[oM 31 5,oM 32 6,oO 33 (lA 4 7),oO 34 (lA 4 7),oO 35 (cA 40 [34]),oO 36 (.build [.int .i64 0,.int .i64 0,.int .i64 0,.int .i64 0,.nils,.int .i64 0] [(0,1,(.t 32)),(1,4,(.t 33)),(5,1,(.t 35))]),oO 37 (.mkSlice 62 6 1 [.int .i64 0,.int .i64 0,.int .i64 0,.int .i64 0,.nils,.int .i64 0] [(0,(.t 36))]),oO 38 (.append 62 6 64 (.t 31) (.t 37)),oM 5 38],true,[(2,3),(2,4)]⟩
def q24_7 : LReg := rG [oM 12 6,oO 13 (bK .add 12 1),oM 6 13]
def q24_8 : LReg := rG [oM 39 5,oM 4 39]
def Tryz.l_ref6_Locked : LCode := (.seq (.reg q24_0) (.seq (.reg q24_1) (.seq (.seq (.reg q24_2) (.block 0 (.loop (.seq (.seq (.reg q24_3) (.cond (.t 11) .skip (.exit 0))) (.seq (.block 1 (.seq (.reg q24_4) (.cond (.t 18) (.seq (.reg q24_5) (.reg q24_6)) .skip))) (.reg q24_7)))))) (.seq (.reg q24_8) .ret))))
theorem Tryz.c_ref6_Locked : fnComp Tryz.prog 24 = some (40, Tryz.l_ref6_Locked,[.t 4]) := by kernel_rfl
def q4_0 : LReg := rG [oO 2 (.box 39 1 (.t 0)),oO 4 (mK (kB false))]
def q4_1 : LReg := rG [oO 8 (cA 9 []),oO 9 (.un .not (.t 8))]
def q4_2 : LReg := rG [oO 4 (mK (kB false))]
def q4_3 : LReg := rG [oO 10 (lA 1 2),oO 11 (.call 19 [(.t 10),(.c (.nils))])]
def q4_4 : LReg := rG [oO 4 (mK (kB true))]
def q4_5 : LReg := rG [oO 12 (lA 1 2),oO 13 (cA 20 [12]),oO 5 (.alloc 26 2 [.int .i64 0,.int .i64 0]),oX (sT 2 5 13)]
def q4_6 : LReg := rG [oO 14 (fA 0 5),oO 15 (lV 1 14),oO 16 (bK .eql 15 0)]
def q4_7 : LReg := rG [oO 17 (lA 1 2),oM 18 1,oO 19 (cA 21 [17,18]),oX (sT 2 5 19)]
def q4_8 : LReg := rG [oO 21 (lA 1 2),oM 22 1,oO 23 (cA 22 [21,22]),oM 20 23,oO 24 (eX 0 20),oO 25 (eX 1 20),oO 7 (.alloc 26 2 [.int .i64 0,.int .i64 0]),oM 6 24,oX (sT 2 7 25)]
def q4_9 : LReg := rG [oO 26 (lA 2 7),oO 27 (lA 2 5),oO 28 (.eqs false [0,0] (.t 26) (.t 27)),oM 29 28,oT 30 29 (fA 0 5),oT 31 29 (lV 1 30),oT 32 29 (bK .neq 31 0),oT 33 29 (.mv (.t 32)),oT 34 33 (.mv (.t 6)),oT 35 33 (lN 34),oT 36 33 (bK .eql 35 0),oT 37 29 (pK 33 36 (kB false)),oT 38 29 (.mv (.t 37)),oF 39 38 (fA 0 5),oF 40 38 (lV 1 39),oF 41 38 (bK .eql 40 0),oF 42 38 (.mv (.t 41)),oT 43 42 (.mv (.t 6)),oT 44 42 (lA 1 2),oT 45 42 (.mv (.t 1)),oT 46 42 (cA 24 [44,45]),oT 47 42 (cA 23 [43,46]),oF 48 38 (pK 42 47 (kB false)),oT 49 29 (pL 38 (kB true) 48),oO 50 (pK 29 49 (kB false)),oM 4 50]
def Tryz.l_law6_LockfileMakeMatchesSpec : LCode := (.seq (.reg q4_0) (.seq (.seq (.reg q4_1) (.cond (.t 9) (.seq (.reg q4_2) .ret) .skip)) (.seq (.seq (.reg q4_3) (.cond (.t 11) (.seq (.reg q4_4) .ret) .skip)) (.seq (.reg q4_5) (.seq (.seq (.reg q4_6) (.cond (.t 16) (.reg q4_7) .skip)) (.seq (.reg q4_8) (.seq (.reg q4_9) .ret)))))))
theorem Tryz.c_law6_LockfileMakeMatchesSpec : fnComp Tryz.prog 4 = some (51, Tryz.l_law6_LockfileMakeMatchesSpec,[.t 4]) := by kernel_rfl
def q30_0 : LReg := rG [oO 4 (mK (kB false))]
def q30_1 : LReg := rG [oO 5 (mK (kI 0))]
def q30_2 : LReg := rG [oM 6 5,oM 7 0,oO 8 (lN 7),oO 9 (bT .lss 6 8)]
def q30_3 : LReg := rG [oM 12 0,oM 13 5,oO 14 (iX 1 12 13),oO 15 (lV 1 14),oM 16 1,oO 17 (bT .eql 15 16)]
def q30_4 : LReg := rG [oO 4 (mK (kB true))]
def q30_5 : LReg := rG [oM 10 5,oO 11 (bK .add 10 1),oM 5 11]
def q30_6 : LReg := rG [oO 4 (mK (kB false))]
def Tryz.l_ref5_Has : LCode := (.seq (.reg q30_0) (.seq (.seq (.reg q30_1) (.block 0 (.loop (.seq (.seq (.reg q30_2) (.cond (.t 9) .skip (.exit 0))) (.seq (.block 1 (.seq (.reg q30_3) (.cond (.t 17) (.seq (.reg q30_4) .ret) .skip))) (.reg q30_5)))))) (.seq (.reg q30_6) .ret)))
theorem Tryz.c_ref5_Has : fnComp Tryz.prog 30 = some (18, Tryz.l_ref5_Has,[.t 4]) := by kernel_rfl
def q7_0 : LReg := rG [oO 6 (mK (kB false))]
def q7_1 : LReg := rG [oO 16 (cA 9 []),oO 17 (.un .not (.t 16))]
def q7_2 : LReg := rG [oO 6 (mK (kB false))]
def q7_3 : LReg := rG [oM 18 0,oO 19 (cA 10 [18]),oM 20 19,oF 21 20 (.mv (.t 1)),oF 22 20 (cA 10 [21]),oO 23 (pL 20 (kB true) 22),oM 24 23,oF 25 24 (.mv (.t 2)),oF 26 24 (cA 10 [25]),oO 27 (pL 24 (kB true) 26)]
def q7_4 : LReg := rG [oO 6 (mK (kB true))]
def q7_5 : LReg := rG [oM 29 0,oM 30 1,oO 31 (cA 17 [29,30]),oM 28 31,oO 32 (eX 0 28),oO 33 (eX 1 28),oO 8 (.alloc 26 2 [.int .i64 0,.int .i64 0]),oM 7 32,oX (sT 2 8 33)]
def q7_6 : LReg := rG [oM 35 1,oM 36 0,oO 37 (cA 17 [35,36]),oM 34 37,oO 38 (eX 0 34),oO 39 (eX 1 34),oO 10 (.alloc 26 2 [.int .i64 0,.int .i64 0]),oM 9 38,oX (sT 2 10 39)]
def q7_7 : LReg := rG [oM 41 1,oM 42 2,oO 43 (cA 17 [41,42]),oM 40 43,oO 44 (eX 0 40),oO 45 (eX 1 40),oO 12 (.alloc 26 2 [.int .i64 0,.int .i64 0]),oM 11 44,oX (sT 2 12 45)]
def q7_8 : LReg := rG [oM 47 0,oM 48 2,oO 49 (cA 17 [47,48]),oM 46 49,oO 50 (eX 0 46),oO 51 (eX 1 46),oO 14 (.alloc 26 2 [.int .i64 0,.int .i64 0]),oM 13 50,oX (sT 2 14 51)]
def q7_9 : LReg := rG [oO 52 (fA 0 8),oO 53 (lV 1 52),oO 54 (bK .neq 53 0),oM 55 54,oF 56 55 (fA 0 12),oF 57 55 (lV 1 56),oF 58 55 (bK .neq 57 0),oO 59 (pL 55 (kB true) 58)]
def q7_10 : LReg := rG [oO 60 (fA 0 8),oO 61 (lV 1 60),oO 62 (bK .eql 61 0),oM 63 62,oF 64 63 (.mv (.t 7)),oF 65 63 (lN 64),oF 66 63 (bK .eql 65 0),oO 67 (pL 63 (kB true) 66),oM 68 67,oT 69 68 (fA 0 12),oT 70 68 (lV 1 69),oT 71 68 (bK .eql 70 0),oT 72 68 (.mv (.t 71)),oF 73 72 (.mv (.t 11)),oF 74 72 (lN 73),oF 75 72 (bK .eql 74 0),oT 76 68 (pL 72 (kB true) 75),oO 77 (pK 68 76 (kB false)),oM 6 77]
def q7_11 : LReg := rG [oO 78 (fA 0 10),oO 79 (lV 1 78),oO 80 (bK .neq 79 0),oM 81 80,oF 82 81 (fA 0 14),oF 83 81 (lV 1 82),oF 84 81 (bK .neq 83 0),oO 85 (pL 81 (kB true) 84),oM 86 85,oF 87 86 (.mv (.t 7)),oF 88 86 (.mv (.t 9)),oF 89 86 (cA 14 [87,88]),oF 90 86 (.un .not (.t 89)),oO 91 (pL 86 (kB true) 90),oM 92 91,oF 93 92 (.mv (.t 7)),oF 94 92 (lN 93),oF 95 92 (bK .eql 94 0),oF 96 92 (.mv (.t 0)),oF 97 92 (.mv (.t 1)),oF 98 92 (cA 23 [96,97]),oF 99 92 (.eqb true (.t 95) (.t 98)),oO 100 (pL 92 (kB true) 99)]
def q7_12 : LReg := rG [oO 6 (mK (kB false))]
def q7_13 : LReg := rG [oO 15 (mK (kI 0))]
def q7_14 : LReg := rG [oM 101 15,oM 102 13,oO 103 (lN 102),oO 104 (bT .lss 101 103)]
def q7_15 : LReg := rG [oM 107 7,oM 108 13,oM 109 15,oO 110 (iX 1 108 109),oO 111 (lV 1 110),oO 112 (cA 30 [107,111]),oO 113 (.un .not (.t 112)),oM 114 113,oT 115 114 (.mv (.t 11)),oT 116 114 (.mv (.t 13)),oT 117 114 (.mv (.t 15)),oT 118 114 (iX 1 116 117),oT 119 114 (lV 1 118),oT 120 114 (cA 30 [115,119]),oT 121 114 (.un .not (.t 120)),oO 122 (pK 114 121 (kB false))]
def q7_16 : LReg := rG [oO 6 (mK (kB false))]
def q7_17 : LReg := rG [oM 105 15,oO 106 (bK .add 105 1),oM 15 106]
def q7_18 : LReg := rG [oO 6 (mK (kB true))]
def Tryz.l_law6_LockfileDriftIsADistance : LCode := (.seq (.reg q7_0) (.seq (.seq (.reg q7_1) (.cond (.t 17) (.seq (.reg q7_2) .ret) .skip)) (.seq (.seq (.reg q7_3) (.cond (.t 27) (.seq (.reg q7_4) .ret) .skip)) (.seq (.reg q7_5) (.seq (.reg q7_6) (.seq (.reg q7_7) (.seq (.reg q7_8) (.seq (.seq (.reg q7_9) (.cond (.t 59) (.seq (.reg q7_10) .ret) .skip)) (.seq (.seq (.reg q7_11) (.cond (.t 100) (.seq (.reg q7_12) .ret) .skip)) (.seq (.seq (.reg q7_13) (.block 0 (.loop (.seq (.seq (.reg q7_14) (.cond (.t 104) .skip (.exit 0))) (.seq (.block 1 (.seq (.reg q7_15) (.cond (.t 122) (.seq (.reg q7_16) .ret) .skip))) (.reg q7_17)))))) (.seq (.reg q7_18) .ret)))))))))))
theorem Tryz.c_law6_LockfileDriftIsADistance : fnComp Tryz.prog 7 = some (123, Tryz.l_law6_LockfileDriftIsADistance,[.t 6]) := by kernel_rfl
def q8_0 : LReg := rG [oO 3 (.box 39 1 (.t 0)),oO 6 (mK (kB false))]
def q8_1 : LReg := rG [oO 17 (cA 9 []),oO 18 (.un .not (.t 17))]
def q8_2 : LReg := rG [oO 6 (mK (kB false))]
def q8_3 : LReg := rG [oO 19 (lA 1 3),oO 20 (.call 19 [(.t 19),(.c (.nils))])]
def q8_4 : LReg := rG [oO 6 (mK (kB true))]
def q8_5 : LReg := rG [oO 22 (lA 1 3),oM 23 1,oO 24 (cA 22 [22,23]),oM 21 24,oO 25 (eX 0 21),oO 26 (eX 1 21),oO 8 (.alloc 26 2 [.int .i64 0,.int .i64 0]),oM 7 25,oX (sT 2 8 26)]
def q8_6 : LReg := rG [oO 28 (lA 1 3),oM 29 2,oO 30 (cA 22 [28,29]),oM 27 30,oO 31 (eX 0 27),oO 32 (eX 1 27),oO 10 (.alloc 26 2 [.int .i64 0,.int .i64 0]),oM 9 31,oX (sT 2 10 32)]
def q8_7 : LReg := rG [oO 33 (fA 0 8),oO 34 (lV 1 33),oO 35 (bK .neq 34 0),oM 36 35,oF 37 36 (fA 0 10),oF 38 36 (lV 1 37),oF 39 36 (bK .neq 38 0),oO 40 (pL 36 (kB true) 39)]
def q8_8 : LReg := rG [oO 41 (fA 0 8),oO 42 (lV 1 41),oO 43 (bK .eql 42 0),oM 44 43,oF 45 44 (.mv (.t 7)),oF 46 44 (lN 45),oF 47 44 (bK .eql 46 0),oO 48 (pL 44 (kB true) 47),oM 49 48,oT 50 49 (fA 0 10),oT 51 49 (lV 1 50),oT 52 49 (bK .eql 51 0),oT 53 49 (.mv (.t 52)),oF 54 53 (.mv (.t 9)),oF 55 53 (lN 54),oF 56 53 (bK .eql 55 0),oT 57 49 (pL 53 (kB true) 56),oO 58 (pK 49 57 (kB false)),oM 6 58]
def q8_9 : LReg := rG [oM 60 7,oM 61 9,oO 62 (cA 17 [60,61]),oM 59 62,oO 63 (eX 0 59),oO 64 (eX 1 59),oO 12 (.alloc 26 2 [.int .i64 0,.int .i64 0]),oM 11 63,oX (sT 2 12 64)]
def q8_10 : LReg := rG [oM 66 7,oO 67 (cA 13 [66]),oM 65 67,oO 68 (eX 0 65),oO 69 (eX 1 65),oO 14 (.alloc 26 2 [.int .i64 0,.int .i64 0]),oM 13 68,oX (sT 2 14 69)]
def q8_11 : LReg := rG [oO 15 (mK (.c (.nils)))]
def q8_12 : LReg := rG [oO 16 (mK (kI 0))]
def q8_13 : LReg := rG [oM 70 16,oM 71 1,oO 72 (lN 71),oO 73 (bT .lss 70 72),oM 74 73,oT 75 74 (.mv (.t 16)),oT 76 74 (.mv (.t 2)),oT 77 74 (lN 76),oT 78 74 (bT .lss 75 77),oO 79 (pK 74 78 (kB false))]
def q8_14 : LReg := ⟨[oM 82 1,oM 83 16,oO 84 (iX 1 82 83),oO 85 (lV 1 84),oM 86 2,oM 87 16,oO 88 (iX 1 86 87),oO 89 (lV 1 88),oO 90 (bT .neq 85 89)],true,[(2,6),(3,6),(2,7),(3,7)]⟩
def q8_15 : LReg := rG [oM 91 15,oM 92 16,oO 93 (.mkSlice 3 1 1 [.int .i64 0] [(0,(.t 92))]),oO 94 (.append 3 1 8 (.t 91) (.t 93)),oM 15 94]
def q8_16 : LReg := rG [oM 80 16,oO 81 (bK .add 80 1),oM 16 81]
def q8_17 : LReg := rG [oO 95 (fA 0 12),oO 96 (lV 1 95),oO 97 (bK .eql 96 0),oM 98 97,oT 99 98 (fA 0 14),oT 100 98 (lV 1 99),oT 101 98 (bK .eql 100 0),oO 102 (pK 98 101 (kB false)),oM 103 102,oT 104 103 (.mv (.t 13)),oT 105 103 (lN 104),oT 106 103 (bK .eql 105 0),oO 107 (pK 103 106 (kB false)),oM 108 107,oT 109 108 (.mv (.t 11)),oT 110 108 (.mv (.t 15)),oT 111 108 (cA 14 [109,110]),oO 112 (pK 108 111 (kB false)),oM 6 112]
def Tryz.l_law6_LockfileDriftOfSelections : LCode := (.seq (.reg q8_0) (.seq (.seq (.reg q8_1) (.cond (.t 18) (.seq (.reg q8_2) .ret) .skip)) (.seq (.seq (.reg q8_3) (.cond (.t 20) (.seq (.reg q8_4) .ret) .skip)) (.seq (.reg q8_5) (.seq (.reg q8_6) (.seq (.seq (.reg q8_7) (.cond (.t 40) (.seq (.reg q8_8) .ret) .skip)) (.seq (.reg q8_9) (.seq (.reg q8_10) (.seq (.reg q8_11) (.seq (.seq (.reg q8_12) (.block 0 (.loop (.seq (.seq (.reg q8_13) (.cond (.t 79) .skip (.exit 0))) (.seq (.block 1 (.seq (.reg q8_14) (.cond (.t 90) (.reg q8_15) .skip))) (.reg q8_16)))))) (.seq (.reg q8_17) .ret)))))))))))
theorem Tryz.c_law6_LockfileDriftOfSelections : fnComp Tryz.prog 8 = some (113, Tryz.l_law6_LockfileDriftOfSelections,[.t 6]) := by kernel_rfl
end Go.Proofs.YtpcmhhbocifbcaaGreatDoor
