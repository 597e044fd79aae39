/- The code of the functions, as the evaluator reads it. Laid by a program (wip/gen/dec.py). -/
import Derived.Test.YtpcmhhbocifbcaaGreatDoorProg
import Derived.Test.YtpcmhhbocifbcaaGreatDoorPwFam
import Derived.Test.YtpcmhhbocifbcaaGreatDoorPwAuto
namespace Go.Proofs.YtpcmhhbocifbcaaGreatDoor
open Go.PW Go
theorem hm : Tryz.prog.follows .mixedOrders = true := by kernel_rfl
instance : Hm Tryz.prog := ⟨hm⟩
def q84_0 : LReg := rG [oO 2 (mK (kB false))]
def q84_1 : LReg := rG [oM 3 0,oO 4 (.call 100 [(.t 3),(.c (.fn 101 [] []))]),oO 5 (.un .not (.t 4)),oM 2 5]
def Tryz.l_version_numeric : LCode := (.seq (.reg q84_0) (.seq (.reg q84_1) .ret))
theorem Tryz.c_version_numeric : fnComp Tryz.prog 84 = some (6, Tryz.l_version_numeric,[.t 2]) := by kernel_rfl
def q64_0 : LReg := rG [oO 2 (mK (kB false))]
def q64_1 : LReg := rG [oM 5 0,oO 6 (sN 5),oO 7 (bK .eql 6 0),oM 8 7,oF 9 8 (.mv (.t 0)),oF 10 8 (sN 9),oF 11 8 (bK .gtr 10 8),oO 12 (pL 8 (kB true) 11)]
def q64_2 : LReg := rG [oO 2 (mK (kB false))]
def q64_3 : LReg := rG [oM 13 0,oO 14 (sN 13),oO 15 (mK (kI 0))]
def q64_4 : LReg := rG [oO 16 (bT .lss 15 14)]
def q64_5 : LReg := rG [oM 17 15,oM 3 17]
def q64_6 : LReg := rG [oM 18 0,oM 19 3,oO 20 (.sidx (.t 18) (.t 19)),oM 4 20]
def q64_7 : LReg := rG [oM 21 4,oO 22 (.bin .lss (.t 21) (.c (.int .u8 48))),oM 23 22,oF 24 23 (.mv (.t 4)),oF 25 23 (.bin .gtr (.t 24) (.c (.int .u8 57))),oO 26 (pL 23 (kB true) 25),oM 27 26,oT 28 27 (.mv (.t 4)),oT 29 27 (.bin .lss (.t 28) (.c (.int .u8 97))),oT 30 27 (.mv (.t 29)),oF 31 30 (.mv (.t 4)),oF 32 30 (.bin .gtr (.t 31) (.c (.int .u8 122))),oT 33 27 (pL 30 (kB true) 32),oO 34 (pK 27 33 (kB false)),oM 35 34,oT 36 35 (.mv (.t 4)),oT 37 35 (.bin .lss (.t 36) (.c (.int .u8 65))),oT 38 35 (.mv (.t 37)),oF 39 38 (.mv (.t 4)),oF 40 38 (.bin .gtr (.t 39) (.c (.int .u8 90))),oT 41 35 (pL 38 (kB true) 40),oO 42 (pK 35 41 (kB false)),oM 43 42,oT 44 43 (.mv (.t 4)),oT 45 43 (.bin .neq (.t 44) (.c (.int .u8 45))),oO 46 (pK 43 45 (kB false))]
def q64_8 : LReg := rG [oO 2 (mK (kB false))]
def q64_9 : LReg := rG [oO 47 (bK .add 15 1),oM 15 47]
def q64_10 : LReg := rG [oM 48 0,oO 49 (cA 84 [48]),oO 50 (.un .not (.t 49)),oM 51 50,oF 52 51 (.mv (.t 0)),oF 53 51 (sN 52),oF 54 51 (bK .eql 53 1),oO 55 (pL 51 (kB true) 54),oM 56 55,oF 57 56 (.mv (.t 0)),oF 58 56 (.sidx (.t 57) (kI 0)),oF 59 56 (.bin .neq (.t 58) (.c (.int .u8 48))),oO 60 (pL 56 (kB true) 59),oM 2 60]
def Tryz.l_version_identifier : LCode := (.seq (.reg q64_0) (.seq (.seq (.reg q64_1) (.cond (.t 12) (.seq (.reg q64_2) .ret) .skip)) (.seq (.seq (.reg q64_3) (.block 0 (.loop (.seq (.reg q64_4) (.seq (.cond (.t 16) .skip (.exit 0)) (.seq (.block 1 (.seq (.reg q64_5) (.seq (.reg q64_6) (.seq (.reg q64_7) (.cond (.t 46) (.seq (.reg q64_8) .ret) .skip))))) (.reg q64_9))))))) (.seq (.reg q64_10) .ret))))
theorem Tryz.c_version_identifier : fnComp Tryz.prog 64 = some (61, Tryz.l_version_identifier,[.t 2]) := by kernel_rfl
def q37_0 : LReg := rG [oO 1 (.box 60 4 (.t 0)),oO 2 (.alloc 26 2 [.int .i64 0,.int .i64 0])]
def q37_1 : LReg := rG [oO 7 (fA 0 1),oO 8 (lV 1 7),oO 9 (fA 1 1),oO 10 (lV 1 9),oO 11 (fA 2 1),oO 12 (lV 1 11),oO 13 (.build [.int .i64 0,.int .i64 0,.int .i64 0] [(0,1,(.t 8)),(1,1,(.t 10)),(2,1,(.t 12))]),oO 14 (mK (kI 0))]
def q37_2 : LReg := rG [oO 15 (bK .lss 14 3)]
def q37_3 : LReg := rG [oM 16 14,oO 17 (.vidx 3 1 false (.t 13) (.t 14)),oM 3 16,oM 4 17]
def q37_4 : LReg := rG [oM 18 4,oO 19 (bK .lss 18 0),oM 20 19,oF 21 20 (.mv (.t 4)),oF 22 20 (bK .gtr 21 1000000000),oO 23 (pL 20 (kB true) 22)]
def q37_5 : LReg := rG [oM 24 3,oO 25 (.build [.int .i64 0,.int .i64 0] [(0,1,(kI 3)),(1,1,(.t 24))]),oX (sT 2 2 25)]
def q37_6 : LReg := rG [oO 26 (bK .add 14 1),oM 14 26]
def q37_7 : LReg := rG [oO 27 (fA 3 1),oO 28 (lV 1 27),oO 29 (lN 28),oO 30 (bK .gtr 29 4)]
def q37_8 : LReg := rG [oO 31 (.build [.int .i64 0,.int .i64 0] [(0,1,(kI 2)),(1,1,(kI (-1)))]),oX (sT 2 2 31)]
def q37_9 : LReg := rG [oO 32 (fA 3 1),oO 33 (lV 1 32),oO 34 (lN 33),oO 35 (mK (kI 0))]
def q37_10 : LReg := rG [oO 36 (bT .lss 35 34)]
def q37_11 : LReg := rG [oM 37 35,oO 38 (iX 1 33 35),oO 39 (lV 1 38),oM 5 37,oM 6 39]
def q37_12 : LReg := rG [oM 40 6,oO 41 (cA 64 [40]),oO 42 (.un .not (.t 41))]
def q37_13 : LReg := rG [oM 43 5,oO 44 (.build [.int .i64 0,.int .i64 0] [(0,1,(kI 5)),(1,1,(.t 43))]),oX (sT 2 2 44)]
def q37_14 : LReg := rG [oO 45 (bK .add 35 1),oM 35 45]
def q37_15 : LReg := rG [oO 46 (.build [.int .i64 0,.int .i64 0] []),oX (sT 2 2 46)]
def Tryz.l_version_Validate : LCode := (.seq (.reg q37_0) (.seq (.seq (.reg q37_1) (.block 0 (.loop (.seq (.reg q37_2) (.seq (.cond (.t 15) .skip (.exit 0)) (.seq (.block 1 (.seq (.reg q37_3) (.seq (.reg q37_4) (.cond (.t 23) (.seq (.reg q37_5) .ret) .skip)))) (.reg q37_6))))))) (.seq (.seq (.reg q37_7) (.cond (.t 30) (.seq (.reg q37_8) .ret) .skip)) (.seq (.seq (.reg q37_9) (.block 2 (.loop (.seq (.reg q37_10) (.seq (.cond (.t 36) .skip (.exit 2)) (.seq (.block 3 (.seq (.reg q37_11) (.seq (.reg q37_12) (.cond (.t 42) (.seq (.reg q37_13) .ret) .skip)))) (.reg q37_14))))))) (.seq (.reg q37_15) .ret)))))
theorem Tryz.c_version_Validate : fnComp Tryz.prog 37 = some (47, Tryz.l_version_Validate,[.cell 2 2 true]) := by kernel_rfl
def q38_0 : LReg := rG [oO 2 (mK (kB false))]
def q38_1 : LReg := rG [oM 3 0,oO 4 (bK .geq 3 0),oM 5 4,oT 6 5 (.mv (.t 0)),oT 7 5 (bK .lss 6 2305843009213693951),oO 8 (pK 5 7 (kB false)),oM 2 8]
def Tryz.l_signing_IsDigest : LCode := (.seq (.reg q38_0) (.seq (.reg q38_1) .ret))
theorem Tryz.c_signing_IsDigest : fnComp Tryz.prog 38 = some (9, Tryz.l_signing_IsDigest,[.t 2]) := by kernel_rfl
def q12_0 : LReg := rG [oO 2 (.alloc 26 2 [.int .i64 0,.int .i64 0])]
def q12_1 : LReg := rG [oM 6 0,oO 7 (lN 6),oO 8 (bK .gtr 7 6)]
def q12_2 : LReg := rG [oO 9 (.build [.int .i64 0,.int .i64 0] [(0,1,(kI 2)),(1,1,(kI (-1)))]),oX (sT 2 2 9)]
def q12_3 : LReg := rG [oM 10 0,oO 11 (lN 10),oO 12 (mK (kI 0))]
def q12_4 : LReg := rG [oO 13 (bT .lss 12 11)]
def q12_5 : LReg := rG [oM 14 12,oO 15 (iX 6 10 12),oO 16 (lA 6 15),oO 4 (.alloc 62 6 [.int .i64 0,.int .i64 0,.int .i64 0,.int .i64 0,.nils,.int .i64 0]),oM 3 14,oX (sT 6 4 16)]
def q12_6 : LReg := rG [oO 17 (fA 1 4),oO 18 (lA 4 17),oO 19 (cA 37 [18]),oO 20 (.field 0 1 false (.t 19)),oM 5 20]
def q12_7 : LReg := rG [oO 22 (fA 0 4),oO 23 (lV 1 22),oO 24 (bK .lss 23 0),oM 25 24,oF 26 25 (fA 0 4),oF 27 25 (lV 1 26),oF 28 25 (bK .geq 27 6),oO 29 (pL 25 (kB true) 28),oM 21 29]
def q12_8 : LReg := rG [oO 5 (mK (kI 3))]
def q12_9 : LReg := rG [oM 31 5,oO 32 (bK .neq 31 0),oM 30 32]
def q12_10 : LReg := rG [oO 34 (fA 5 4),oO 35 (lV 1 34),oO 36 (cA 38 [35]),oO 37 (.un .not (.t 36)),oM 33 37]
def q12_11 : LReg := rG [oO 5 (mK (kI 3))]
def q12_12 : LReg := ⟨[oM 39 3,oO 40 (bK .gtr 39 0),oM 41 40,oT 42 41 (fA 0 4),oT 43 41 (lV 1 42),oT 44 41 (.mv (.t 0)),oT 45 41 (.mv (.t 3)),oT 46 41 (bK .sub 45 1),oT 47 41 (iX 6 44 46),oT 48 41 (fA 0 47),oT 49 41 (lV 1 48),oT 50 41 (bT .leq 43 49),oO 51 (pK 41 50 (kB false)),oM 38 51],true,[(3,8),(4,8),(3,9),(4,9),(3,10),(4,10)]⟩
def q12_13 : LReg := rG [oO 5 (mK (kI 5))]
def q12_14 : LReg := rG [oM 52 5,oO 53 (bK .neq 52 0)]
def q12_15 : LReg := rG [oM 54 5,oM 55 3,oO 56 (.build [.int .i64 0,.int .i64 0] [(0,1,(.t 54)),(1,1,(.t 55))]),oX (sT 2 2 56)]
def q12_16 : LReg := rG [oO 57 (bK .add 12 1),oM 12 57]
def q12_17 : LReg := rG [oO 58 (.build [.int .i64 0,.int .i64 0] []),oX (sT 2 2 58)]
def Tryz.l_lockfile_Validate : LCode := (.seq (.reg q12_0) (.seq (.seq (.reg q12_1) (.cond (.t 8) (.seq (.reg q12_2) .ret) .skip)) (.seq (.seq (.reg q12_3) (.block 0 (.loop (.seq (.reg q12_4) (.seq (.cond (.t 13) .skip (.exit 0)) (.seq (.block 1 (.seq (.reg q12_5) (.seq (.reg q12_6) (.seq (.block 2 (.seq (.reg q12_7) (.cond (.t 21) (.reg q12_8) (.seq (.reg q12_9) (.cond (.t 30) .skip (.seq (.reg q12_10) (.cond (.t 33) (.reg q12_11) (.seq (.reg q12_12) (.cond (.t 38) (.reg q12_13) .skip))))))))) (.seq (.reg q12_14) (.cond (.t 53) (.seq (.reg q12_15) .ret) .skip)))))) (.reg q12_16))))))) (.seq (.reg q12_17) .ret))))
theorem Tryz.c_lockfile_Validate : fnComp Tryz.prog 12 = some (59, Tryz.l_lockfile_Validate,[.cell 2 2 true]) := by kernel_rfl
def q54_0 : LReg := rG [oO 1 (.box 60 4 (.t 0)),oO 2 (mK (.c (.str []))),oO 3 (.alloc 26 2 [.int .i64 0,.int .i64 0])]
def q54_1 : LReg := rG [oO 6 (lA 4 1),oO 7 (cA 37 [6]),oO 4 (.alloc 26 2 [.int .i64 0,.int .i64 0]),oX (sT 2 4 7)]
def q54_2 : LReg := rG [oO 8 (lA 2 4),oO 9 (.build [.int .i64 0,.int .i64 0] []),oO 10 (.eqs true [0,0] (.t 8) (.t 9))]
def q54_3 : LReg := ⟨[oO 11 (lA 2 4),oO 2 (mK (.c (.str []))),oX (sT 2 3 11)],true,[]⟩
def q54_4 : LReg := ⟨[oO 12 (fA 0 1),oO 13 (lV 1 12),oO 14 (cA 55 [13]),oO 15 (.bin .add (.t 14) (.c (.str [46]))),oO 16 (fA 1 1),oO 17 (lV 1 16),oO 18 (cA 55 [17]),oO 19 (bT .add 15 18),oO 20 (.bin .add (.t 19) (.c (.str [46]))),oO 21 (fA 2 1),oO 22 (lV 1 21),oO 23 (cA 55 [22]),oO 24 (bT .add 20 23),oM 5 24],true,[(0,4),(1,4),(2,4),(0,5),(1,5),(2,5),(0,9),(1,9),(2,9),(4,9),(5,9),(6,9),(0,10),(1,10),(2,10),(4,10),(5,10),(6,10)]⟩
def q54_5 : LReg := rG [oO 25 (fA 3 1),oO 26 (lV 1 25),oO 27 (lN 26),oO 28 (bK .gtr 27 0)]
def q54_6 : LReg := rG [oM 29 5,oO 30 (fA 3 1),oO 31 (lV 1 30),oO 32 (.call 76 [(.t 31),(.c (.str [46]))]),oO 33 (.bin .add (.c (.str [45])) (.t 32)),oO 34 (bT .add 29 33),oM 5 34]
def q54_7 : LReg := rG [oM 35 5,oO 36 (.build [.int .i64 0,.int .i64 0] []),oM 2 35,oX (sT 2 3 36)]
def Tryz.l_version_Format : LCode := (.seq (.reg q54_0) (.seq (.seq (.reg q54_1) (.seq (.reg q54_2) (.cond (.t 10) (.seq (.reg q54_3) .ret) .skip))) (.seq (.reg q54_4) (.seq (.seq (.reg q54_5) (.cond (.t 28) (.reg q54_6) .skip)) (.seq (.reg q54_7) .ret)))))
theorem Tryz.c_version_Format : fnComp Tryz.prog 54 = some (37, Tryz.l_version_Format,[.t 2,.cell 3 2 true]) := by kernel_rfl
def q102_0 : LReg := rG [oO 4 (mK (kI 0))]
def q102_1 : LReg := rG [oO 5 (mK (kI 0))]
def q102_2 : LReg := rG [oM 6 1,oO 7 (bK .gtr 6 0)]
def q102_3 : LReg := rG [oM 10 1,oO 11 (bK .and 10 1),oO 12 (bK .eql 11 1)]
def q102_4 : LReg := rG [oM 13 5,oM 14 0,oO 15 (bT .add 13 14),oO 16 (bK .rem 15 2305843009213693951),oM 5 16]
def q102_5 : LReg := rG [oM 17 0,oO 18 (.bin .mul (kI 2) (.t 17)),oO 19 (bK .rem 18 2305843009213693951),oM 0 19]
def q102_6 : LReg := rG [oM 8 1,oO 9 (.bin .shr (.t 8) (.c (.int .u64 1))),oM 1 9]
def q102_7 : LReg := rG [oM 20 5,oM 4 20]
def Tryz.l_digest_mul : LCode := (.seq (.reg q102_0) (.seq (.reg q102_1) (.seq (.block 0 (.loop (.seq (.seq (.reg q102_2) (.cond (.t 7) .skip (.exit 0))) (.seq (.block 1 (.seq (.seq (.reg q102_3) (.cond (.t 12) (.reg q102_4) .skip)) (.reg q102_5))) (.reg q102_6))))) (.seq (.reg q102_7) .ret))))
theorem Tryz.c_digest_mul : fnComp Tryz.prog 102 = some (21, Tryz.l_digest_mul,[.t 4]) := by kernel_rfl
def q85_0 : LReg := rG [oO 2 (.box 123 2 (.t 0)),oO 4 (mK (kI 0))]
def q85_1 : LReg := ⟨[oO 5 (.idxA 2 1 (.t 2) (kI 0)),oO 6 (lV 1 5),oM 7 1,oO 8 (cA 102 [6,7]),oO 9 (.idxA 2 1 (.t 2) (kI 1)),oO 10 (lV 1 9),oO 11 (bT .add 8 10),oO 12 (bK .rem 11 2305843009213693951),oM 4 12],true,[(0,4),(1,4),(3,4),(0,5),(1,5),(3,5)]⟩
def Tryz.l_digest_next : LCode := (.seq (.reg q85_0) (.seq (.reg q85_1) .ret))
theorem Tryz.c_digest_next : fnComp Tryz.prog 85 = some (13, Tryz.l_digest_next,[.t 4]) := by kernel_rfl
def q65_0 : LReg := rG [oO 2 (mK (kI 0)),oO 3 (.alloc 26 2 [.int .i64 0,.int .i64 0])]
def q65_1 : LReg := rG [oM 7 0,oO 8 (lN 7),oO 9 (bK .gtr 8 4096)]
def q65_2 : LReg := rG [oO 10 (.build [.int .i64 0,.int .i64 0] [(0,1,(kI 2))]),oO 2 (mK (kI 0)),oX (sT 2 3 10)]
def q65_3 : LReg := rG [oO 4 (mK (kI 1))]
def q65_4 : LReg := rG [oM 11 0,oO 12 (lN 11),oO 13 (mK (kI 0))]
def q65_5 : LReg := rG [oO 14 (bT .lss 13 12)]
def q65_6 : LReg := rG [oO 15 (iX 1 11 13),oO 16 (lV 1 15),oM 6 16]
def q65_7 : LReg := rG [oM 17 4,oM 18 6,oO 19 (.conv .i64 (.t 18)),oO 20 (bK .add 19 1),oO 21 (.build [.int .i64 0,.int .i64 0] [(0,1,(.t 17)),(1,1,(.t 20))]),oO 22 (.call 85 [(.t 21),(kI 257)]),oM 4 22]
def q65_8 : LReg := rG [oO 23 (bK .add 13 1),oM 13 23]
def q65_9 : LReg := rG [oM 24 4,oO 25 (.build [.int .i64 0,.int .i64 0] []),oM 2 24,oX (sT 2 3 25)]
def Tryz.l_digest_Of : LCode := (.seq (.reg q65_0) (.seq (.seq (.reg q65_1) (.cond (.t 9) (.seq (.reg q65_2) .ret) .skip)) (.seq (.reg q65_3) (.seq (.seq (.reg q65_4) (.block 0 (.loop (.seq (.reg q65_5) (.seq (.cond (.t 14) .skip (.exit 0)) (.seq (.block 1 (.seq (.reg q65_6) (.reg q65_7))) (.reg q65_8))))))) (.seq (.reg q65_9) .ret)))))
theorem Tryz.c_digest_Of : fnComp Tryz.prog 65 = some (26, Tryz.l_digest_Of,[.t 2,.cell 3 2 true]) := by kernel_rfl
def q39_0 : LReg := rG [oO 1 (.box 60 4 (.t 0)),oO 2 (mK (kI 0))]
def q39_1 : LReg := rG [oO 8 (lA 4 1),oO 9 (cA 54 [8]),oM 7 9,oO 10 (eX 0 7),oO 11 (eX 1 7),oO 4 (.alloc 26 2 [.int .i64 0,.int .i64 0]),oM 3 10,oX (sT 2 4 11)]
def q39_2 : LReg := rG [oM 13 3,oO 14 (.toBytes 5 (.t 13)),oO 15 (cA 65 [14]),oM 12 15,oO 16 (eX 0 12),oO 17 (eX 1 12),oO 6 (.alloc 26 2 [.int .i64 0,.int .i64 0]),oM 5 16,oX (sT 2 6 17)]
def q39_3 : LReg := rG [oM 18 5,oM 2 18]
def Tryz.l_lockfile_seal : LCode := (.seq (.reg q39_0) (.seq (.reg q39_1) (.seq (.reg q39_2) (.seq (.reg q39_3) .ret))))
theorem Tryz.c_lockfile_seal : fnComp Tryz.prog 39 = some (19, Tryz.l_lockfile_seal,[.t 2]) := by kernel_rfl
def q13_0 : LReg := rG [oO 2 (mK (.c (.nils))),oO 3 (.alloc 26 2 [.int .i64 0,.int .i64 0])]
def q13_1 : LReg := rG [oM 8 0,oO 9 (cA 12 [8]),oO 4 (.alloc 26 2 [.int .i64 0,.int .i64 0]),oX (sT 2 4 9)]
def q13_2 : LReg := rG [oO 10 (lA 2 4),oO 11 (.build [.int .i64 0,.int .i64 0] []),oO 12 (.eqs true [0,0] (.t 10) (.t 11))]
def q13_3 : LReg := ⟨[oO 13 (lA 2 4),oO 2 (mK (.c (.nils))),oX (sT 2 3 13)],true,[]⟩
def q13_4 : LReg := rG [oO 5 (mK (.c (.nils)))]
def q13_5 : LReg := rG [oM 14 0,oO 15 (lN 14),oO 16 (mK (kI 0))]
def q13_6 : LReg := rG [oO 17 (bT .lss 16 15)]
def q13_7 : LReg := rG [oM 18 16,oO 19 (iX 6 14 16),oO 20 (lA 6 19),oO 7 (.alloc 62 6 [.int .i64 0,.int .i64 0,.int .i64 0,.int .i64 0,.nils,.int .i64 0]),oM 6 18,oX (sT 6 7 20)]
def q13_8 : LReg := ⟨[oO 21 (fA 5 7),oO 22 (lV 1 21),oO 23 (fA 1 7),oO 24 (lA 4 23),oO 25 (cA 39 [24]),oO 26 (bT .neq 22 25)],true,[(0,2),(1,2),(0,3),(1,3),(0,4),(1,4)]⟩
def q13_9 : LReg := rG [oM 27 5,oM 28 6,oO 29 (.mkSlice 3 1 1 [.int .i64 0] [(0,(.t 28))]),oO 30 (.append 3 1 8 (.t 27) (.t 29)),oM 5 30]
def q13_10 : LReg := rG [oO 31 (bK .add 16 1),oM 16 31]
def q13_11 : LReg := rG [oM 32 5,oO 33 (.build [.int .i64 0,.int .i64 0] []),oM 2 32,oX (sT 2 3 33)]
def Tryz.l_lockfile_Corrupt : LCode := (.seq (.reg q13_0) (.seq (.seq (.reg q13_1) (.seq (.reg q13_2) (.cond (.t 12) (.seq (.reg q13_3) .ret) .skip))) (.seq (.reg q13_4) (.seq (.seq (.reg q13_5) (.block 0 (.loop (.seq (.reg q13_6) (.seq (.cond (.t 17) .skip (.exit 0)) (.seq (.block 1 (.seq (.reg q13_7) (.seq (.reg q13_8) (.cond (.t 26) (.reg q13_9) .skip)))) (.reg q13_10))))))) (.seq (.reg q13_11) .ret)))))
theorem Tryz.c_lockfile_Corrupt : fnComp Tryz.prog 13 = some (34, Tryz.l_lockfile_Corrupt,[.t 2,.cell 3 2 true]) := by kernel_rfl
def q14_0 : LReg := rG [oO 4 (mK (kB false))]
def q14_1 : LReg := rG [oM 6 0,oO 7 (lN 6),oM 8 1,oO 9 (lN 8),oO 10 (bT .neq 7 9)]
def q14_2 : LReg := rG [oO 4 (mK (kB false))]
def q14_3 : LReg := rG [oO 5 (mK (kI 0))]
def q14_4 : LReg := rG [oM 11 5,oM 12 0,oO 13 (lN 12),oO 14 (bT .lss 11 13)]
def q14_5 : LReg := ⟨[oM 17 0,oM 18 5,oO 19 (iX 1 17 18),oO 20 (lV 1 19),oM 21 1,oM 22 5,oO 23 (iX 1 21 22),oO 24 (lV 1 23),oO 25 (bT .neq 20 24)],true,[(2,6),(3,6),(2,7),(3,7)]⟩
def q14_6 : LReg := rG [oO 4 (mK (kB false))]
def q14_7 : LReg := rG [oM 15 5,oO 16 (bK .add 15 1),oM 5 16]
def q14_8 : LReg := rG [oO 4 (mK (kB true))]
def Tryz.l_ref5_Ints : LCode := (.seq (.reg q14_0) (.seq (.seq (.reg q14_1) (.cond (.t 10) (.seq (.reg q14_2) .ret) .skip)) (.seq (.seq (.reg q14_3) (.block 0 (.loop (.seq (.seq (.reg q14_4) (.cond (.t 14) .skip (.exit 0))) (.seq (.block 1 (.seq (.reg q14_5) (.cond (.t 25) (.seq (.reg q14_6) .ret) .skip))) (.reg q14_7)))))) (.seq (.reg q14_8) .ret))))
theorem Tryz.c_ref5_Ints : fnComp Tryz.prog 14 = some (26, Tryz.l_ref5_Ints,[.t 4]) := by kernel_rfl
def q16_0 : LReg := rG [oO 4 (.alloc 26 2 [.int .i64 0,.int .i64 0])]
def q16_1 : LReg := rG [oM 5 0,oM 6 1,oO 7 (.build [.int .i64 0,.int .i64 0] [(0,1,(.t 5)),(1,1,(.t 6))]),oX (sT 2 4 7)]
def Tryz.l_law6_fault : LCode := (.seq (.reg q16_0) (.seq (.reg q16_1) .ret))
theorem Tryz.c_law6_fault : fnComp Tryz.prog 16 = some (8, Tryz.l_law6_fault,[.cell 4 2 true]) := by kernel_rfl
def q42_0 : LReg := rG [oO 4 (mK (kI 0))]
def q42_1 : LReg := rG [oM 6 0,oO 7 (lN 6),oO 8 (mK (kI 0))]
def q42_2 : LReg := rG [oO 9 (bT .lss 8 7)]
def q42_3 : LReg := rG [oM 10 8,oM 5 10]
def q42_4 : LReg := rG [oM 11 1,oM 12 0,oM 13 5,oO 14 (iX 6 12 13),oO 15 (lA 6 14),oO 16 (.callv (.t 11) [(.t 15)])]
def q42_5 : LReg := rG [oM 17 5,oM 4 17]
def q42_6 : LReg := rG [oO 18 (bK .add 8 1),oM 8 18]
def q42_7 : LReg := rG [oO 4 (mK (kI (-1)))]
def Tryz.l_slices_IndexFunc_api_LockEntry_api_LockEntry : LCode := (.seq (.reg q42_0) (.seq (.seq (.reg q42_1) (.block 0 (.loop (.seq (.reg q42_2) (.seq (.cond (.t 9) .skip (.exit 0)) (.seq (.block 1 (.seq (.reg q42_3) (.seq (.reg q42_4) (.cond (.t 16) (.seq (.reg q42_5) .ret) .skip)))) (.reg q42_6))))))) (.seq (.reg q42_7) .ret)))
theorem Tryz.c_slices_IndexFunc_api_LockEntry_api_LockEntry : fnComp Tryz.prog 42 = some (19, Tryz.l_slices_IndexFunc_api_LockEntry_api_LockEntry,[.t 4]) := by kernel_rfl
theorem Tryz.b_lockfile_Drift_1_1 : bodied Tryz.prog 43 = true := by kernel_rfl
def q43_0 : LReg := rG [oO 2 (.box 62 6 (.t 0)),oO 3 (mK (kB false))]
def q43_1 : LReg := rG [oO 4 (fA 0 2),oO 5 (lV 1 4),oO 6 (lV 1 1),oO 7 (bT .eql 5 6),oM 3 7]
def Tryz.l_lockfile_Drift_1_1 : LCode := (.seq (.reg q43_0) (.seq (.reg q43_1) .ret))
theorem Tryz.c_lockfile_Drift_1_1 : fnComp Tryz.prog 43 = some (8, Tryz.l_lockfile_Drift_1_1,[.t 3]) := by kernel_rfl
theorem Tryz.b_lockfile_Drift_1 : bodied Tryz.prog 41 = true := by kernel_rfl
def q41_0 : LReg := rG [oO 3 (.box 3 1 (.t 1)),oO 4 (mK (kI 0))]
def q41_1 : LReg := rG [oM 5 0,oO 6 (.mkfn 43 [] [(.t 3)]),oO 7 (cA 42 [5,6]),oM 4 7]
def Tryz.l_lockfile_Drift_1 : LCode := (.seq (.reg q41_0) (.seq (.reg q41_1) .ret))
theorem Tryz.c_lockfile_Drift_1 : fnComp Tryz.prog 41 = some (8, Tryz.l_lockfile_Drift_1,[.t 4]) := by kernel_rfl
def q68_0 : LReg := rG [oO 2 (mK (kI 0))]
def q68_1 : LReg := rG [oO 3 (mK (kI 0))]
def q68_2 : LReg := rG [oM 6 0,oO 7 (lN 6),oO 8 (mK (kI 0))]
def q68_3 : LReg := rG [oO 9 (bT .lss 8 7)]
def q68_4 : LReg := rG [oO 10 (iX 1 6 8),oO 11 (lV 1 10),oM 5 11]
def q68_5 : LReg := rG [oM 12 5,oM 13 3,oO 14 (bT .neq 12 13)]
def q68_6 : LReg := rG [oM 15 5,oM 2 15]
def q68_7 : LReg := rG [oO 16 (bK .add 8 1),oM 8 16]
def q68_8 : LReg := rG [oM 17 3,oM 2 17]
def Tryz.l_cmp_Or_int : LCode := (.seq (.reg q68_0) (.seq (.reg q68_1) (.seq (.seq (.reg q68_2) (.block 0 (.loop (.seq (.reg q68_3) (.seq (.cond (.t 9) .skip (.exit 0)) (.seq (.block 1 (.seq (.reg q68_4) (.seq (.reg q68_5) (.cond (.t 14) (.seq (.reg q68_6) .ret) .skip)))) (.reg q68_7))))))) (.seq (.reg q68_8) .ret))))
theorem Tryz.c_cmp_Or_int : fnComp Tryz.prog 68 = some (18, Tryz.l_cmp_Or_int,[.t 2]) := by kernel_rfl
def q87_0 : LReg := rG [oO 2 (mK (kB false))]
def q87_1 : LReg := rG [oM 3 0,oM 4 0,oO 5 (bT .neq 3 4),oM 2 5]
def Tryz.l_cmp_isNaN_int : LCode := (.seq (.reg q87_0) (.seq (.reg q87_1) .ret))
theorem Tryz.c_cmp_isNaN_int : fnComp Tryz.prog 87 = some (6, Tryz.l_cmp_isNaN_int,[.t 2]) := by kernel_rfl
def q69_0 : LReg := rG [oO 4 (mK (kI 0))]
def q69_1 : LReg := rG [oM 7 0,oO 8 (cA 87 [7]),oM 5 8]
def q69_2 : LReg := rG [oM 9 1,oO 10 (cA 87 [9]),oM 6 10]
def q69_3 : LReg := rG [oM 11 5]
def q69_4 : LReg := rG [oM 12 6]
def q69_5 : LReg := rG [oO 4 (mK (kI 0))]
def q69_6 : LReg := rG [oO 4 (mK (kI (-1)))]
def q69_7 : LReg := rG [oM 13 6]
def q69_8 : LReg := rG [oO 4 (mK (kI 1))]
def q69_9 : LReg := rG [oM 14 0,oM 15 1,oO 16 (bT .lss 14 15)]
def q69_10 : LReg := rG [oO 4 (mK (kI (-1)))]
def q69_11 : LReg := rG [oM 17 0,oM 18 1,oO 19 (bT .gtr 17 18)]
def q69_12 : LReg := rG [oO 4 (mK (kI 1))]
def q69_13 : LReg := rG [oO 4 (mK (kI 0))]
def Tryz.l_cmp_Compare_int : LCode := (.seq (.reg q69_0) (.seq (.reg q69_1) (.seq (.reg q69_2) (.seq (.seq (.reg q69_3) (.cond (.t 11) (.seq (.seq (.reg q69_4) (.cond (.t 12) (.seq (.reg q69_5) .ret) .skip)) (.seq (.reg q69_6) .ret)) .skip)) (.seq (.seq (.reg q69_7) (.cond (.t 13) (.seq (.reg q69_8) .ret) .skip)) (.seq (.seq (.reg q69_9) (.cond (.t 16) (.seq (.reg q69_10) .ret) .skip)) (.seq (.seq (.reg q69_11) (.cond (.t 19) (.seq (.reg q69_12) .ret) .skip)) (.seq (.reg q69_13) .ret))))))))
theorem Tryz.c_cmp_Compare_int : fnComp Tryz.prog 69 = some (20, Tryz.l_cmp_Compare_int,[.t 4]) := by kernel_rfl
def q70_0 : LReg := rG [oO 6 (mK (kI 0))]
def q70_1 : LReg := rG [oM 11 0,oO 12 (lN 11),oO 13 (mK (kI 0))]
def q70_2 : LReg := rG [oO 14 (bT .lss 13 12)]
def q70_3 : LReg := rG [oM 15 13,oO 16 (iX 1 11 13),oO 17 (lV 1 16),oM 7 15,oM 8 17]
def q70_4 : LReg := rG [oM 18 7,oM 19 1,oO 20 (lN 19),oO 21 (bT .geq 18 20)]
def q70_5 : LReg := rG [oO 6 (mK (kI 1))]
def q70_6 : LReg := rG [oM 22 1,oM 23 7,oO 24 (iX 1 22 23),oO 25 (lV 1 24),oM 9 25]
def q70_7 : LReg := rG [oM 26 2,oM 27 8,oM 28 9,oO 29 (.callv (.t 26) [(.t 27),(.t 28)]),oM 10 29]
def q70_8 : LReg := rG [oM 30 10,oO 31 (bK .neq 30 0)]
def q70_9 : LReg := rG [oM 32 10,oM 6 32]
def q70_10 : LReg := rG [oO 33 (bK .add 13 1),oM 13 33]
def q70_11 : LReg := rG [oM 34 0,oO 35 (lN 34),oM 36 1,oO 37 (lN 36),oO 38 (bT .lss 35 37)]
def q70_12 : LReg := rG [oO 6 (mK (kI (-1)))]
def q70_13 : LReg := rG [oO 6 (mK (kI 0))]
def Tryz.l_slices_CompareFunc_string_string_string_string : LCode := (.seq (.reg q70_0) (.seq (.seq (.reg q70_1) (.block 0 (.loop (.seq (.reg q70_2) (.seq (.cond (.t 14) .skip (.exit 0)) (.seq (.block 1 (.seq (.reg q70_3) (.seq (.seq (.reg q70_4) (.cond (.t 21) (.seq (.reg q70_5) .ret) .skip)) (.seq (.reg q70_6) (.seq (.reg q70_7) (.seq (.reg q70_8) (.cond (.t 31) (.seq (.reg q70_9) .ret) .skip))))))) (.reg q70_10))))))) (.seq (.seq (.reg q70_11) (.cond (.t 38) (.seq (.reg q70_12) .ret) .skip)) (.seq (.reg q70_13) .ret))))
theorem Tryz.c_slices_CompareFunc_string_string_string_string : fnComp Tryz.prog 70 = some (39, Tryz.l_slices_CompareFunc_string_string_string_string,[.t 6]) := by kernel_rfl
theorem Tryz.b_version_compareIdentifiers : bodied Tryz.prog 71 = true := by kernel_rfl
def q71_0 : LReg := rG [oO 4 (mK (kI 0))]
def q71_1 : LReg := rG [oM 7 0,oO 8 (cA 84 [7]),oM 9 1,oO 10 (cA 84 [9]),oM 5 8,oM 6 10]
def q71_2 : LReg := rG [oM 12 5,oM 13 12,oT 14 13 (.mv (.t 6)),oO 15 (pK 13 14 (kB false)),oM 11 15]
def q71_3 : LReg := rG [oM 16 0,oO 17 (sN 16),oM 18 1,oO 19 (sN 18),oO 20 (cA 69 [17,19]),oM 21 0,oM 22 1,oO 23 (cA 88 [21,22]),oO 24 (.mkSlice 3 1 2 [.int .i64 0] [(0,(.t 20)),(1,(.t 23))]),oO 25 (cA 68 [24]),oM 4 25]
def q71_4 : LReg := rG [oM 27 5,oM 26 27]
def q71_5 : LReg := rG [oO 4 (mK (kI (-1)))]
def q71_6 : LReg := rG [oM 29 6,oM 28 29]
def q71_7 : LReg := rG [oO 4 (mK (kI 1))]
def q71_8 : LReg := rG [oM 30 0,oM 31 1,oO 32 (cA 88 [30,31]),oM 4 32]
def Tryz.l_version_compareIdentifiers : LCode := (.seq (.reg q71_0) (.seq (.reg q71_1) (.seq (.block 0 (.seq (.reg q71_2) (.cond (.t 11) (.seq (.reg q71_3) .ret) (.seq (.reg q71_4) (.cond (.t 26) (.seq (.reg q71_5) .ret) (.seq (.reg q71_6) (.cond (.t 28) (.seq (.reg q71_7) .ret) .skip))))))) (.seq (.reg q71_8) .ret))))
theorem Tryz.c_version_compareIdentifiers : fnComp Tryz.prog 71 = some (33, Tryz.l_version_compareIdentifiers,[.t 4]) := by kernel_rfl
def q44_0 : LReg := rG [oO 2 (.box 60 4 (.t 0)),oO 3 (.box 60 4 (.t 1)),oO 4 (mK (kI 0))]
def q44_1 : LReg := ⟨[oO 6 (fA 0 2),oO 7 (lV 1 6),oO 8 (fA 0 3),oO 9 (lV 1 8),oO 10 (cA 69 [7,9]),oO 11 (fA 1 2),oO 12 (lV 1 11),oO 13 (fA 1 3),oO 14 (lV 1 13),oO 15 (cA 69 [12,14]),oO 16 (fA 2 2),oO 17 (lV 1 16),oO 18 (fA 2 3),oO 19 (lV 1 18),oO 20 (cA 69 [17,19]),oO 21 (.mkSlice 3 1 3 [.int .i64 0] [(0,(.t 10)),(1,(.t 15)),(2,(.t 20))]),oO 22 (cA 68 [21]),oM 5 22],true,[(0,2),(1,2),(0,3),(1,3),(0,5),(1,5),(2,5),(3,5),(4,5),(0,6),(1,6),(2,6),(3,6),(4,6),(0,7),(1,7),(2,7),(3,7),(4,7),(5,7),(6,7),(0,8),(1,8),(2,8),(3,8),(4,8),(5,8),(6,8),(0,10),(1,10),(2,10),(3,10),(4,10),(5,10),(6,10),(7,10),(8,10),(9,10),(0,11),(1,11),(2,11),(3,11),(4,11),(5,11),(6,11),(7,11),(8,11),(9,11),(0,12),(1,12),(2,12),(3,12),(4,12),(5,12),(6,12),(7,12),(8,12),(9,12),(10,12),(11,12),(0,13),(1,13),(2,13),(3,13),(4,13),(5,13),(6,13),(7,13),(8,13),(9,13),(10,13),(11,13)]⟩
def q44_2 : LReg := rG [oM 23 5,oO 24 (bK .neq 23 0)]
def q44_3 : LReg := rG [oM 25 5,oM 4 25]
def q44_4 : LReg := rG [oO 26 (fA 3 2),oO 27 (lV 1 26),oO 28 (lN 27),oO 29 (bK .eql 28 0),oO 30 (fA 3 3),oO 31 (lV 1 30),oO 32 (lN 31),oO 33 (bK .eql 32 0),oO 34 (.eqb true (.t 29) (.t 33))]
def q44_5 : LReg := rG [oO 35 (fA 3 3),oO 36 (lV 1 35),oO 37 (lN 36),oO 38 (fA 3 2),oO 39 (lV 1 38),oO 40 (lN 39),oO 41 (cA 69 [37,40]),oM 4 41]
def q44_6 : LReg := rG [oO 42 (fA 3 2),oO 43 (lV 1 42),oO 44 (fA 3 3),oO 45 (lV 1 44),oO 46 (.call 70 [(.t 43),(.t 45),(.c (.fn 71 [] []))]),oM 4 46]
def Tryz.l_version_Order : LCode := (.seq (.reg q44_0) (.seq (.seq (.reg q44_1) (.seq (.reg q44_2) (.cond (.t 24) (.seq (.reg q44_3) .ret) .skip))) (.seq (.seq (.reg q44_4) (.cond (.t 34) (.seq (.reg q44_5) .ret) .skip)) (.seq (.reg q44_6) .ret))))
theorem Tryz.c_version_Order : fnComp Tryz.prog 44 = some (47, Tryz.l_version_Order,[.t 4]) := by kernel_rfl
def q17_0 : LReg := rG [oO 4 (mK (.c (.nils))),oO 5 (.alloc 26 2 [.int .i64 0,.int .i64 0])]
def q17_1 : LReg := rG [oM 13 0,oO 14 (cA 12 [13]),oO 6 (.alloc 26 2 [.int .i64 0,.int .i64 0]),oX (sT 2 6 14)]
def q17_2 : LReg := rG [oO 15 (lA 2 6),oO 16 (.build [.int .i64 0,.int .i64 0] []),oO 17 (.eqs true [0,0] (.t 15) (.t 16))]
def q17_3 : LReg := ⟨[oO 18 (lA 2 6),oO 4 (mK (.c (.nils))),oX (sT 2 5 18)],true,[]⟩
def q17_4 : LReg := rG [oM 19 1,oO 20 (cA 12 [19]),oO 7 (.alloc 26 2 [.int .i64 0,.int .i64 0]),oX (sT 2 7 20)]
def q17_5 : LReg := rG [oO 21 (lA 2 7),oO 22 (.build [.int .i64 0,.int .i64 0] []),oO 23 (.eqs true [0,0] (.t 21) (.t 22))]
def q17_6 : LReg := ⟨[oO 24 (fA 0 7),oO 25 (lV 1 24),oO 26 (.build [.int .i64 0,.int .i64 0] [(0,1,(.t 25)),(1,1,(kI (-2)))]),oO 4 (mK (.c (.nils))),oX (sT 2 5 26)],true,[]⟩
def q17_7 : LReg := rG [oO 8 (mK (.c (.fn 41 [] [])))]
def q17_8 : LReg := rG [oO 9 (mK (.c (.nils)))]
def q17_9 : LReg := rG [oO 27 (mK (kI 0))]
def q17_10 : LReg := rG [oO 28 (bK .lss 27 6)]
def q17_11 : LReg := rG [oM 29 27,oM 10 29]
def q17_12 : LReg := rG [oM 30 8,oM 31 0,oM 32 10,oO 33 (.callv (.t 30) [(.t 31),(.t 32)]),oM 34 8,oM 35 1,oM 36 10,oO 37 (.callv (.t 34) [(.t 35),(.t 36)]),oM 11 33,oM 12 37]
def q17_13 : LReg := ⟨[oM 38 11,oO 39 (bK .lss 38 0),oM 40 12,oO 41 (bK .lss 40 0),oO 42 (.eqb true (.t 39) (.t 41)),oM 43 42,oF 44 43 (.mv (.t 11)),oF 45 43 (bK .geq 44 0),oF 46 43 (.mv (.t 45)),oT 47 46 (.mv (.t 0)),oT 48 46 (.mv (.t 11)),oT 49 46 (iX 6 47 48),oT 50 46 (fA 5 49),oT 51 46 (lV 1 50),oT 52 46 (.mv (.t 1)),oT 53 46 (.mv (.t 12)),oT 54 46 (iX 6 52 53),oT 55 46 (fA 5 54),oT 56 46 (lV 1 55),oT 57 46 (bT .neq 51 56),oT 58 46 (.mv (.t 57)),oF 59 58 (.mv (.t 0)),oF 60 58 (.mv (.t 11)),oF 61 58 (iX 6 59 60),oF 62 58 (fA 1 61),oF 63 58 (lA 4 62),oF 64 58 (.mv (.t 1)),oF 65 58 (.mv (.t 12)),oF 66 58 (iX 6 64 65),oF 67 58 (fA 1 66),oF 68 58 (lA 4 67),oF 69 58 (cA 44 [63,68]),oF 70 58 (bK .neq 69 0),oT 71 46 (pL 58 (kB true) 70),oF 72 43 (pK 46 71 (kB false)),oO 73 (pL 43 (kB true) 72)],true,[(11,16),(12,16),(13,16),(11,17),(12,17),(13,17),(11,18),(12,18),(13,18),(23,28),(24,28),(25,28),(23,29),(24,29),(25,29),(23,30),(24,30),(25,30)]⟩
def q17_14 : LReg := rG [oM 74 9,oM 75 10,oO 76 (.mkSlice 3 1 1 [.int .i64 0] [(0,(.t 75))]),oO 77 (.append 3 1 8 (.t 74) (.t 76)),oM 9 77]
def q17_15 : LReg := rG [oO 78 (bK .add 27 1),oM 27 78]
def q17_16 : LReg := rG [oM 79 9,oO 80 (.build [.int .i64 0,.int .i64 0] []),oM 4 79,oX (sT 2 5 80)]
def Tryz.l_lockfile_Drift : LCode := (.seq (.reg q17_0) (.seq (.seq (.reg q17_1) (.seq (.reg q17_2) (.cond (.t 17) (.seq (.reg q17_3) .ret) .skip))) (.seq (.seq (.reg q17_4) (.seq (.reg q17_5) (.cond (.t 23) (.seq (.reg q17_6) .ret) .skip))) (.seq (.reg q17_7) (.seq (.reg q17_8) (.seq (.seq (.reg q17_9) (.block 0 (.loop (.seq (.reg q17_10) (.seq (.cond (.t 28) .skip (.exit 0)) (.seq (.block 1 (.seq (.reg q17_11) (.seq (.reg q17_12) (.seq (.reg q17_13) (.cond (.t 73) (.reg q17_14) .skip))))) (.reg q17_15))))))) (.seq (.reg q17_16) .ret)))))))
theorem Tryz.c_lockfile_Drift : fnComp Tryz.prog 17 = some (81, Tryz.l_lockfile_Drift,[.t 4,.cell 5 2 true]) := by kernel_rfl
def q138_0 : LReg := rG [oO 1 (.box 60 4 (.t 0)),oO 2 (mK (kB false))]
def q138_1 : LReg := rG [oO 3 (fA 0 1),oO 4 (lV 1 3),oO 5 (bK .eql 4 0),oM 6 5,oT 7 6 (fA 1 1),oT 8 6 (lV 1 7),oT 9 6 (bK .eql 8 0),oO 10 (pK 6 9 (kB false)),oM 11 10,oT 12 11 (fA 2 1),oT 13 11 (lV 1 12),oT 14 11 (bK .eql 13 0),oO 15 (pK 11 14 (kB false)),oM 16 15,oT 17 16 (fA 3 1),oT 18 16 (lV 1 17),oT 19 16 (lN 18),oT 20 16 (bK .eql 19 0),oO 21 (pK 16 20 (kB false)),oM 2 21]
def Tryz.l_version_Zero : LCode := (.seq (.reg q138_0) (.seq (.reg q138_1) .ret))
theorem Tryz.c_version_Zero : fnComp Tryz.prog 138 = some (22, Tryz.l_version_Zero,[.t 2]) := by kernel_rfl
def q120_0 : LReg := rG [oO 1 (.box 109 9 (.t 0)),oO 2 (mK (kI 0))]
def q120_1 : LReg := rG [oO 5 (fA 0 1),oO 6 (lA 4 5),oO 7 (cA 37 [6]),oO 3 (.alloc 26 2 [.int .i64 0,.int .i64 0]),oX (sT 2 3 7)]
def q120_2 : LReg := rG [oO 8 (lA 2 3),oO 9 (.build [.int .i64 0,.int .i64 0] []),oO 10 (.eqs true [0,0] (.t 8) (.t 9))]
def q120_3 : LReg := rG [oO 11 (fA 0 3),oO 12 (lV 1 11),oM 2 12]
def q120_4 : LReg := rG [oO 13 (fA 8 1),oO 14 (lV 1 13)]
def q120_5 : LReg := rG [oO 15 (fA 4 1),oO 16 (lA 4 15),oO 17 (cA 138 [16]),oO 18 (.un .not (.t 17))]
def q120_6 : LReg := rG [oO 2 (mK (kI 5))]
def q120_7 : LReg := rG [oO 2 (mK (kI 0))]
def q120_8 : LReg := rG [oO 19 (fA 4 1),oO 20 (lA 4 19),oO 21 (cA 37 [20]),oO 4 (.alloc 26 2 [.int .i64 0,.int .i64 0]),oX (sT 2 4 21)]
def q120_9 : LReg := rG [oO 22 (lA 2 4),oO 23 (.build [.int .i64 0,.int .i64 0] []),oO 24 (.eqs true [0,0] (.t 22) (.t 23))]
def q120_10 : LReg := rG [oO 25 (fA 0 4),oO 26 (lV 1 25),oM 2 26]
def q120_11 : LReg := rG [oO 27 (fA 0 1),oO 28 (lA 4 27),oO 29 (fA 4 1),oO 30 (lA 4 29),oO 31 (cA 44 [28,30]),oO 32 (bK .geq 31 0)]
def q120_12 : LReg := rG [oO 2 (mK (kI 5))]
def q120_13 : LReg := rG [oO 2 (mK (kI 0))]
def Tryz.l_verrange_check : LCode := (.seq (.reg q120_0) (.seq (.seq (.reg q120_1) (.seq (.reg q120_2) (.cond (.t 10) (.seq (.reg q120_3) .ret) .skip))) (.seq (.seq (.reg q120_4) (.cond (.t 14) (.seq (.seq (.reg q120_5) (.cond (.t 18) (.seq (.reg q120_6) .ret) .skip)) (.seq (.reg q120_7) .ret)) .skip)) (.seq (.seq (.reg q120_8) (.seq (.reg q120_9) (.cond (.t 24) (.seq (.reg q120_10) .ret) .skip))) (.seq (.seq (.reg q120_11) (.cond (.t 32) (.seq (.reg q120_12) .ret) .skip)) (.seq (.reg q120_13) .ret))))))
theorem Tryz.c_verrange_check : fnComp Tryz.prog 120 = some (33, Tryz.l_verrange_check,[.t 2]) := by kernel_rfl
def q105_0 : LReg := rG [oO 1 (.box 93 1 (.t 0)),oO 2 (.alloc 26 2 [.int .i64 0,.int .i64 0])]
def q105_1 : LReg := rG [oO 7 (fA 0 1),oO 8 (lV 1 7),oO 9 (lN 8),oO 10 (bK .gtr 9 12)]
def q105_2 : LReg := rG [oO 11 (.build [.int .i64 0,.int .i64 0] [(0,1,(kI 2)),(1,1,(kI (-1)))]),oX (sT 2 2 11)]
def q105_3 : LReg := rG [oO 12 (fA 0 1),oO 13 (lV 1 12),oO 14 (lN 13),oO 15 (mK (kI 0))]
def q105_4 : LReg := rG [oO 16 (bT .lss 15 14)]
def q105_5 : LReg := rG [oM 17 15,oO 18 (iX 9 13 15),oO 19 (lA 9 18),oO 4 (.alloc 109 9 [.int .i64 0,.int .i64 0,.int .i64 0,.nils,.int .i64 0,.int .i64 0,.int .i64 0,.nils,.bool false]),oM 3 17,oX (sT 9 4 19)]
def q105_6 : LReg := rG [oO 20 (lA 9 4),oO 21 (cA 120 [20]),oM 5 21]
def q105_7 : LReg := rG [oM 22 5,oO 23 (bK .eql 22 0),oM 24 23,oT 25 24 (.mv (.t 3)),oT 26 24 (bK .gtr 25 0),oO 27 (pK 24 26 (kB false))]
def q105_8 : LReg := rG [oO 28 (fA 0 1),oO 29 (lV 1 28),oM 30 3,oO 31 (bK .sub 30 1),oO 32 (iX 9 29 31),oO 33 (lA 9 32),oO 6 (.alloc 109 9 [.int .i64 0,.int .i64 0,.int .i64 0,.nils,.int .i64 0,.int .i64 0,.int .i64 0,.nils,.bool false]),oX (sT 9 6 33)]
def q105_9 : LReg := rG [oO 34 (fA 8 6),oO 35 (lV 1 34),oM 36 35,oF 37 36 (fA 4 6),oF 38 36 (lA 4 37),oF 39 36 (fA 0 4),oF 40 36 (lA 4 39),oF 41 36 (cA 44 [38,40]),oF 42 36 (bK .geq 41 0),oO 43 (pL 36 (kB true) 42)]
def q105_10 : LReg := rG [oO 5 (mK (kI 5))]
def q105_11 : LReg := rG [oM 44 5,oO 45 (bK .neq 44 0)]
def q105_12 : LReg := rG [oM 46 5,oM 47 3,oO 48 (.build [.int .i64 0,.int .i64 0] [(0,1,(.t 46)),(1,1,(.t 47))]),oX (sT 2 2 48)]
def q105_13 : LReg := rG [oO 49 (bK .add 15 1),oM 15 49]
def q105_14 : LReg := rG [oO 50 (.build [.int .i64 0,.int .i64 0] []),oX (sT 2 2 50)]
def Tryz.l_verrange_Validate : LCode := (.seq (.reg q105_0) (.seq (.seq (.reg q105_1) (.cond (.t 10) (.seq (.reg q105_2) .ret) .skip)) (.seq (.seq (.reg q105_3) (.block 0 (.loop (.seq (.reg q105_4) (.seq (.cond (.t 16) .skip (.exit 0)) (.seq (.block 1 (.seq (.reg q105_5) (.seq (.reg q105_6) (.seq (.seq (.reg q105_7) (.cond (.t 27) (.seq (.reg q105_8) (.seq (.reg q105_9) (.cond (.t 43) (.reg q105_10) .skip))) .skip)) (.seq (.reg q105_11) (.cond (.t 45) (.seq (.reg q105_12) .ret) .skip)))))) (.reg q105_13))))))) (.seq (.reg q105_14) .ret))))
theorem Tryz.c_verrange_Validate : fnComp Tryz.prog 105 = some (51, Tryz.l_verrange_Validate,[.cell 2 2 true]) := by kernel_rfl
def q92_0 : LReg := rG [oO 4 (mK (kI 0))]
def q92_1 : LReg := rG [oM 8 0,oO 9 (lN 8),oO 10 (bK .gtr 9 4)]
def q92_2 : LReg := rG [oO 4 (mK (kI 2))]
def q92_3 : LReg := rG [oM 11 0,oO 12 (lN 11),oO 13 (mK (kI 0))]
def q92_4 : LReg := rG [oO 14 (bT .lss 13 12)]
def q92_5 : LReg := rG [oM 15 13,oO 16 (iX 2 11 13),oO 17 (lA 2 16),oO 6 (.alloc 95 2 [.int .i64 0,.nils]),oM 5 15,oX (sT 2 6 17)]
def q92_6 : LReg := rG [oO 18 (fA 0 6),oO 19 (lV 1 18),oO 20 (bK .lss 19 0),oM 21 20,oF 22 21 (fA 0 6),oF 23 21 (lV 1 22),oF 24 21 (.mv (.t 1)),oF 25 21 (bT .geq 23 24),oO 26 (pL 21 (kB true) 25)]
def q92_7 : LReg := rG [oO 4 (mK (kI 3))]
def q92_8 : LReg := rG [oO 27 (fA 1 6),oO 28 (lA 1 27),oO 29 (cA 105 [28]),oO 7 (.alloc 26 2 [.int .i64 0,.int .i64 0]),oX (sT 2 7 29)]
def q92_9 : LReg := rG [oO 30 (lA 2 7),oO 31 (.build [.int .i64 0,.int .i64 0] []),oO 32 (.eqs true [0,0] (.t 30) (.t 31))]
def q92_10 : LReg := rG [oO 33 (fA 0 7),oO 34 (lV 1 33),oM 4 34]
def q92_11 : LReg := ⟨[oM 35 5,oO 36 (bK .gtr 35 0),oM 37 36,oT 38 37 (fA 0 6),oT 39 37 (lV 1 38),oT 40 37 (.mv (.t 0)),oT 41 37 (.mv (.t 5)),oT 42 37 (bK .sub 41 1),oT 43 37 (iX 2 40 42),oT 44 37 (fA 0 43),oT 45 37 (lV 1 44),oT 46 37 (bT .leq 39 45),oO 47 (pK 37 46 (kB false))],true,[(3,8),(4,8),(3,9),(4,9),(3,10),(4,10)]⟩
def q92_12 : LReg := rG [oO 4 (mK (kI 5))]
def q92_13 : LReg := rG [oO 48 (bK .add 13 1),oM 13 48]
def q92_14 : LReg := rG [oO 4 (mK (kI 0))]
def Tryz.l_solver_Needs : LCode := (.seq (.reg q92_0) (.seq (.seq (.reg q92_1) (.cond (.t 10) (.seq (.reg q92_2) .ret) .skip)) (.seq (.seq (.reg q92_3) (.block 0 (.loop (.seq (.reg q92_4) (.seq (.cond (.t 14) .skip (.exit 0)) (.seq (.block 1 (.seq (.reg q92_5) (.seq (.seq (.reg q92_6) (.cond (.t 26) (.seq (.reg q92_7) .ret) .skip)) (.seq (.seq (.reg q92_8) (.seq (.reg q92_9) (.cond (.t 32) (.seq (.reg q92_10) .ret) .skip))) (.seq (.reg q92_11) (.cond (.t 47) (.seq (.reg q92_12) .ret) .skip)))))) (.reg q92_13))))))) (.seq (.reg q92_14) .ret))))
theorem Tryz.c_solver_Needs : fnComp Tryz.prog 92 = some (49, Tryz.l_solver_Needs,[.t 4]) := by kernel_rfl
def q74_0 : LReg := rG [oO 4 (mK (kI 0))]
def q74_1 : LReg := rG [oM 9 0,oO 10 (lN 9),oO 11 (bK .gtr 10 4)]
def q74_2 : LReg := rG [oO 4 (mK (kI 2))]
def q74_3 : LReg := rG [oM 12 0,oO 13 (lN 12),oO 14 (mK (kI 0))]
def q74_4 : LReg := rG [oO 15 (bT .lss 14 13)]
def q74_5 : LReg := rG [oM 16 14,oO 17 (iX 5 12 14),oO 18 (lA 5 17),oO 6 (.alloc 75 5 [.int .i64 0,.int .i64 0,.int .i64 0,.nils,.nils]),oM 5 16,oX (sT 5 6 18)]
def q74_6 : LReg := rG [oO 19 (fA 0 6),oO 20 (lA 4 19),oO 21 (cA 37 [20]),oO 7 (.alloc 26 2 [.int .i64 0,.int .i64 0]),oX (sT 2 7 21)]
def q74_7 : LReg := rG [oO 22 (lA 2 7),oO 23 (.build [.int .i64 0,.int .i64 0] []),oO 24 (.eqs true [0,0] (.t 22) (.t 23))]
def q74_8 : LReg := rG [oO 25 (fA 0 7),oO 26 (lV 1 25),oM 4 26]
def q74_9 : LReg := ⟨[oM 27 5,oO 28 (bK .gtr 27 0),oM 29 28,oT 30 29 (fA 0 6),oT 31 29 (lA 4 30),oT 32 29 (.mv (.t 0)),oT 33 29 (.mv (.t 5)),oT 34 29 (bK .sub 33 1),oT 35 29 (iX 5 32 34),oT 36 29 (fA 0 35),oT 37 29 (lA 4 36),oT 38 29 (cA 44 [31,37]),oT 39 29 (bK .leq 38 0),oO 40 (pK 29 39 (kB false))],true,[(3,8),(4,8),(3,9),(4,9),(3,10),(4,10)]⟩
def q74_10 : LReg := rG [oO 4 (mK (kI 5))]
def q74_11 : LReg := rG [oO 41 (fA 4 6),oO 42 (lV 1 41),oM 43 1,oO 44 (cA 92 [42,43]),oM 8 44]
def q74_12 : LReg := rG [oM 45 8,oO 46 (bK .neq 45 0)]
def q74_13 : LReg := rG [oM 47 8,oM 4 47]
def q74_14 : LReg := rG [oO 48 (bK .add 14 1),oM 14 48]
def q74_15 : LReg := rG [oO 4 (mK (kI 0))]
def Tryz.l_solver_releases : LCode := (.seq (.reg q74_0) (.seq (.seq (.reg q74_1) (.cond (.t 11) (.seq (.reg q74_2) .ret) .skip)) (.seq (.seq (.reg q74_3) (.block 0 (.loop (.seq (.reg q74_4) (.seq (.cond (.t 15) .skip (.exit 0)) (.seq (.block 1 (.seq (.reg q74_5) (.seq (.seq (.reg q74_6) (.seq (.reg q74_7) (.cond (.t 24) (.seq (.reg q74_8) .ret) .skip))) (.seq (.seq (.reg q74_9) (.cond (.t 40) (.seq (.reg q74_10) .ret) .skip)) (.seq (.reg q74_11) (.seq (.reg q74_12) (.cond (.t 46) (.seq (.reg q74_13) .ret) .skip))))))) (.reg q74_14))))))) (.seq (.reg q74_15) .ret))))
theorem Tryz.c_solver_releases : fnComp Tryz.prog 74 = some (49, Tryz.l_solver_releases,[.t 4]) := by kernel_rfl
def q50_0 : LReg := rG [oO 1 (.box 39 1 (.t 0)),oO 2 (.alloc 26 2 [.int .i64 0,.int .i64 0])]
def q50_1 : LReg := rG [oO 6 (fA 0 1),oO 7 (lV 1 6),oO 8 (lN 7),oO 9 (bK .gtr 8 6)]
def q50_2 : LReg := rG [oO 10 (.build [.int .i64 0,.int .i64 0] [(0,1,(kI 2)),(1,1,(kI (-1)))]),oX (sT 2 2 10)]
def q50_3 : LReg := rG [oO 11 (fA 0 1),oO 12 (lV 1 11),oO 13 (lN 12),oO 14 (mK (kI 0))]
def q50_4 : LReg := rG [oO 15 (bT .lss 14 13)]
def q50_5 : LReg := rG [oM 16 14,oO 17 (iX 1 12 14),oO 18 (lV 1 17),oM 3 16,oM 4 18]
def q50_6 : LReg := rG [oM 19 4,oO 20 (fA 0 1),oO 21 (lV 1 20),oO 22 (lN 21),oO 23 (cA 74 [19,22]),oM 5 23]
def q50_7 : LReg := rG [oM 24 5,oO 25 (bK .neq 24 0)]
def q50_8 : LReg := rG [oM 26 5,oM 27 3,oO 28 (.build [.int .i64 0,.int .i64 0] [(0,1,(.t 26)),(1,1,(.t 27))]),oX (sT 2 2 28)]
def q50_9 : LReg := rG [oO 29 (bK .add 14 1),oM 14 29]
def q50_10 : LReg := rG [oO 30 (.build [.int .i64 0,.int .i64 0] []),oX (sT 2 2 30)]
def Tryz.l_solver_Validate : LCode := (.seq (.reg q50_0) (.seq (.seq (.reg q50_1) (.cond (.t 9) (.seq (.reg q50_2) .ret) .skip)) (.seq (.seq (.reg q50_3) (.block 0 (.loop (.seq (.reg q50_4) (.seq (.cond (.t 15) .skip (.exit 0)) (.seq (.block 1 (.seq (.reg q50_5) (.seq (.reg q50_6) (.seq (.reg q50_7) (.cond (.t 25) (.seq (.reg q50_8) .ret) .skip))))) (.reg q50_9))))))) (.seq (.reg q50_10) .ret))))
theorem Tryz.c_solver_Validate : fnComp Tryz.prog 50 = some (31, Tryz.l_solver_Validate,[.cell 2 2 true]) := by kernel_rfl
def q51_0 : LReg := rG [oO 2 (.box 39 1 (.t 0)),oO 4 (.alloc 26 2 [.int .i64 0,.int .i64 0])]
def q51_1 : LReg := rG [oM 7 1,oO 8 (lN 7),oO 9 (fA 0 2),oO 10 (lV 1 9),oO 11 (lN 10),oO 12 (bT .neq 8 11)]
def q51_2 : LReg := rG [oO 13 (.build [.int .i64 0,.int .i64 0] [(0,1,(kI 9)),(1,1,(kI (-3)))]),oX (sT 2 4 13)]
def q51_3 : LReg := rG [oM 14 1,oO 15 (lN 14),oO 16 (mK (kI 0))]
def q51_4 : LReg := rG [oO 17 (bT .lss 16 15)]
def q51_5 : LReg := rG [oM 18 16,oO 19 (iX 1 14 16),oO 20 (lV 1 19),oM 5 18,oM 6 20]
def q51_6 : LReg := rG [oM 21 6,oO 22 (bK .lss 21 (-1)),oM 23 22,oF 24 23 (.mv (.t 6)),oF 25 23 (fA 0 2),oF 26 23 (lV 1 25),oF 27 23 (.mv (.t 5)),oF 28 23 (iX 1 26 27),oF 29 23 (lV 1 28),oF 30 23 (lN 29),oF 31 23 (bT .geq 24 30),oO 32 (pL 23 (kB true) 31)]
def q51_7 : LReg := rG [oO 33 (.build [.int .i64 0,.int .i64 0] [(0,1,(kI 3)),(1,1,(kI (-4)))]),oX (sT 2 4 33)]
def q51_8 : LReg := rG [oO 34 (bK .add 16 1),oM 16 34]
def q51_9 : LReg := rG [oO 35 (.build [.int .i64 0,.int .i64 0] []),oX (sT 2 4 35)]
def Tryz.l_solver_Chosen : LCode := (.seq (.reg q51_0) (.seq (.seq (.reg q51_1) (.cond (.t 12) (.seq (.reg q51_2) .ret) .skip)) (.seq (.seq (.reg q51_3) (.block 0 (.loop (.seq (.reg q51_4) (.seq (.cond (.t 17) .skip (.exit 0)) (.seq (.block 1 (.seq (.reg q51_5) (.seq (.reg q51_6) (.cond (.t 32) (.seq (.reg q51_7) .ret) .skip)))) (.reg q51_8))))))) (.seq (.reg q51_9) .ret))))
theorem Tryz.c_solver_Chosen : fnComp Tryz.prog 51 = some (36, Tryz.l_solver_Chosen,[.cell 4 2 true]) := by kernel_rfl
def q75_0 : LReg := rG [oO 2 (mK (.c (.nils)))]
def q75_1 : LReg := rG [oM 3 0,oO 4 (.isnil false (.t 3))]
def q75_2 : LReg := rG [oO 2 (mK (.c (.nils)))]
def q75_3 : LReg := rG [oO 5 (.mkSlice 9 1 0 [.str []] []),oM 6 0,oO 7 (.append 9 1 16 (.t 5) (.t 6)),oM 2 7]
def Tryz.l_slices_Clone_string : LCode := (.seq (.reg q75_0) (.seq (.seq (.reg q75_1) (.cond (.t 4) (.seq (.reg q75_2) .ret) .skip)) (.seq (.reg q75_3) .ret)))
theorem Tryz.c_slices_Clone_string : fnComp Tryz.prog 75 = some (8, Tryz.l_slices_Clone_string,[.t 2]) := by kernel_rfl
def q52_0 : LReg := rG [oO 1 (.box 60 4 (.t 0)),oO 2 (.alloc 60 4 [.int .i64 0,.int .i64 0,.int .i64 0,.nils])]
def q52_1 : LReg := rG [oO 3 (fA 3 1),oO 4 (lV 1 3),oO 5 (cA 75 [4]),oO 6 (fA 3 1),oX (sT 1 6 5)]
def q52_2 : LReg := rG [oO 7 (lA 4 1),oX (sT 4 2 7)]
def Tryz.l_version_Copy : LCode := (.seq (.reg q52_0) (.seq (.reg q52_1) (.seq (.reg q52_2) .ret)))
theorem Tryz.c_version_Copy : fnComp Tryz.prog 52 = some (8, Tryz.l_version_Copy,[.cell 2 4 true]) := by kernel_rfl
def q22_0 : LReg := rG [oO 2 (.box 39 1 (.t 0)),oO 4 (mK (.c (.nils))),oO 5 (.alloc 26 2 [.int .i64 0,.int .i64 0])]
def q22_1 : LReg := rG [oO 12 (lA 1 2),oO 13 (cA 50 [12]),oO 6 (.alloc 26 2 [.int .i64 0,.int .i64 0]),oX (sT 2 6 13)]
def q22_2 : LReg := rG [oO 14 (lA 2 6),oO 15 (.build [.int .i64 0,.int .i64 0] []),oO 16 (.eqs true [0,0] (.t 14) (.t 15))]
def q22_3 : LReg := ⟨[oO 17 (lA 2 6),oO 4 (mK (.c (.nils))),oX (sT 2 5 17)],true,[]⟩
def q22_4 : LReg := rG [oO 18 (lA 1 2),oM 19 1,oO 20 (cA 51 [18,19]),oO 7 (.alloc 26 2 [.int .i64 0,.int .i64 0]),oX (sT 2 7 20)]
def q22_5 : LReg := rG [oO 21 (lA 2 7),oO 22 (.build [.int .i64 0,.int .i64 0] []),oO 23 (.eqs true [0,0] (.t 21) (.t 22))]
def q22_6 : LReg := ⟨[oO 24 (lA 2 7),oO 4 (mK (.c (.nils))),oX (sT 2 5 24)],true,[]⟩
def q22_7 : LReg := rG [oO 8 (mK (.c (.nils)))]
def q22_8 : LReg := rG [oM 25 1,oO 26 (lN 25),oO 27 (mK (kI 0))]
def q22_9 : LReg := rG [oO 28 (bT .lss 27 26)]
def q22_10 : LReg := rG [oM 29 27,oO 30 (iX 1 25 27),oO 31 (lV 1 30),oM 9 29,oM 10 31]
def q22_11 : LReg := rG [oM 32 10,oO 33 (bK .geq 32 0)]
def q22_12 : LReg := rG [oO 34 (fA 0 2),oO 35 (lV 1 34),oM 36 9,oO 37 (iX 1 35 36),oO 38 (lV 1 37),oM 39 10,oO 40 (iX 5 38 39),oO 41 (fA 0 40),oO 42 (lA 4 41),oO 43 (cA 52 [42]),oO 11 (.alloc 60 4 [.int .i64 0,.int .i64 0,.int .i64 0,.nils]),oX (sT 4 11 43)]
def q22_13 : LReg := ⟨[oM 44 8,oM 45 9,oO 46 (lA 4 11),oO 47 (lA 4 11),oO 48 (cA 39 [47]),oO 49 (.build [.int .i64 0,.int .i64 0,.int .i64 0,.int .i64 0,.nils,.int .i64 0] [(0,1,(.t 45)),(1,4,(.t 46)),(5,1,(.t 48))]),oO 50 (.mkSlice 62 6 1 [.int .i64 0,.int .i64 0,.int .i64 0,.int .i64 0,.nils,.int .i64 0] [(0,(.t 49))]),oO 51 (.append 62 6 64 (.t 44) (.t 50)),oM 8 51],true,[(2,3),(2,4)]⟩
def q22_14 : LReg := rG [oO 52 (bK .add 27 1),oM 27 52]
def q22_15 : LReg := rG [oM 53 8,oO 54 (.build [.int .i64 0,.int .i64 0] []),oM 4 53,oX (sT 2 5 54)]
def Tryz.l_lockfile_Make : LCode := (.seq (.reg q22_0) (.seq (.seq (.reg q22_1) (.seq (.reg q22_2) (.cond (.t 16) (.seq (.reg q22_3) .ret) .skip))) (.seq (.seq (.reg q22_4) (.seq (.reg q22_5) (.cond (.t 23) (.seq (.reg q22_6) .ret) .skip))) (.seq (.reg q22_7) (.seq (.seq (.reg q22_8) (.block 0 (.loop (.seq (.reg q22_9) (.seq (.cond (.t 28) .skip (.exit 0)) (.seq (.block 1 (.seq (.reg q22_10) (.seq (.reg q22_11) (.cond (.t 33) (.seq (.reg q22_12) (.reg q22_13)) .skip)))) (.reg q22_14))))))) (.seq (.reg q22_15) .ret))))))
theorem Tryz.c_lockfile_Make : fnComp Tryz.prog 22 = some (55, Tryz.l_lockfile_Make,[.t 4,.cell 5 2 true]) := by kernel_rfl
def q53_0 : LReg := rG [oO 2 (.box 60 4 (.t 0)),oO 3 (.box 60 4 (.t 1)),oO 4 (mK (kB false))]
def q53_1 : LReg := rG [oO 6 (fA 0 2),oO 7 (lV 1 6),oO 8 (fA 0 3),oO 9 (lV 1 8),oO 10 (bT .neq 7 9),oM 11 10,oF 12 11 (fA 1 2),oF 13 11 (lV 1 12),oF 14 11 (fA 1 3),oF 15 11 (lV 1 14),oF 16 11 (bT .neq 13 15),oO 17 (pL 11 (kB true) 16),oM 18 17,oF 19 18 (fA 2 2),oF 20 18 (lV 1 19),oF 21 18 (fA 2 3),oF 22 18 (lV 1 21),oF 23 18 (bT .neq 20 22),oO 24 (pL 18 (kB true) 23),oM 25 24,oF 26 25 (fA 3 2),oF 27 25 (lV 1 26),oF 28 25 (lN 27),oF 29 25 (fA 3 3),oF 30 25 (lV 1 29),oF 31 25 (lN 30),oF 32 25 (bT .neq 28 31),oO 33 (pL 25 (kB true) 32)]
def q53_2 : LReg := rG [oO 4 (mK (kB false))]
def q53_3 : LReg := rG [oO 5 (mK (kI 0))]
def q53_4 : LReg := rG [oM 34 5,oO 35 (fA 3 2),oO 36 (lV 1 35),oO 37 (lN 36),oO 38 (bT .lss 34 37)]
def q53_5 : LReg := ⟨[oO 41 (fA 3 2),oO 42 (lV 1 41),oM 43 5,oO 44 (iX 1 42 43),oO 45 (lV 1 44),oO 46 (fA 3 3),oO 47 (lV 1 46),oM 48 5,oO 49 (iX 1 47 48),oO 50 (lV 1 49),oO 51 (bT .neq 45 50)],true,[(0,5),(1,5),(3,5),(4,5),(0,6),(1,6),(3,6),(4,6),(0,8),(1,8),(3,8),(4,8),(0,9),(1,9),(3,9),(4,9)]⟩
def q53_6 : LReg := rG [oO 4 (mK (kB false))]
def q53_7 : LReg := rG [oM 39 5,oO 40 (bK .add 39 1),oM 5 40]
def q53_8 : LReg := rG [oO 4 (mK (kB true))]
def Tryz.l_ref5_SameVersion : LCode := (.seq (.reg q53_0) (.seq (.seq (.reg q53_1) (.cond (.t 33) (.seq (.reg q53_2) .ret) .skip)) (.seq (.seq (.reg q53_3) (.block 0 (.loop (.seq (.seq (.reg q53_4) (.cond (.t 38) .skip (.exit 0))) (.seq (.block 1 (.seq (.reg q53_5) (.cond (.t 51) (.seq (.reg q53_6) .ret) .skip))) (.reg q53_7)))))) (.seq (.reg q53_8) .ret))))
theorem Tryz.c_ref5_SameVersion : fnComp Tryz.prog 53 = some (52, Tryz.l_ref5_SameVersion,[.t 4]) := by kernel_rfl
def q23_0 : LReg := rG [oO 4 (mK (kB false))]
def q23_1 : LReg := rG [oM 6 0,oO 7 (lN 6),oM 8 1,oO 9 (lN 8),oO 10 (bT .neq 7 9)]
def q23_2 : LReg := rG [oO 4 (mK (kB false))]
def q23_3 : LReg := rG [oO 5 (mK (kI 0))]
def q23_4 : LReg := rG [oM 11 5,oM 12 0,oO 13 (lN 12),oO 14 (bT .lss 11 13)]
def q23_5 : LReg := ⟨[oM 17 0,oM 18 5,oO 19 (iX 6 17 18),oO 20 (fA 0 19),oO 21 (lV 1 20),oM 22 1,oM 23 5,oO 24 (iX 6 22 23),oO 25 (fA 0 24),oO 26 (lV 1 25),oO 27 (bT .neq 21 26),oM 28 27,oF 29 28 (.mv (.t 0)),oF 30 28 (.mv (.t 5)),oF 31 28 (iX 6 29 30),oF 32 28 (fA 5 31),oF 33 28 (lV 1 32),oF 34 28 (.mv (.t 1)),oF 35 28 (.mv (.t 5)),oF 36 28 (iX 6 34 35),oF 37 28 (fA 5 36),oF 38 28 (lV 1 37),oF 39 28 (bT .neq 33 38),oO 40 (pL 28 (kB true) 39),oM 41 40,oF 42 41 (.mv (.t 0)),oF 43 41 (.mv (.t 5)),oF 44 41 (iX 6 42 43),oF 45 41 (fA 1 44),oF 46 41 (lA 4 45),oF 47 41 (.mv (.t 1)),oF 48 41 (.mv (.t 5)),oF 49 41 (iX 6 47 48),oF 50 41 (fA 1 49),oF 51 41 (lA 4 50),oF 52 41 (cA 53 [46,51]),oF 53 41 (.un .not (.t 52)),oO 54 (pL 41 (kB true) 53)],true,[(2,7),(3,7),(4,7),(2,8),(3,8),(4,8),(2,9),(3,9),(4,9),(14,19),(15,19),(16,19),(14,20),(15,20),(16,20),(14,21),(15,21),(16,21),(27,32),(28,32),(29,32),(27,33),(28,33),(29,33),(27,34),(28,34),(29,34)]⟩
def q23_6 : LReg := rG [oO 4 (mK (kB false))]
def q23_7 : LReg := rG [oM 15 5,oO 16 (bK .add 15 1),oM 5 16]
def q23_8 : LReg := rG [oO 4 (mK (kB true))]
def Tryz.l_ref6_SameLock : LCode := (.seq (.reg q23_0) (.seq (.seq (.reg q23_1) (.cond (.t 10) (.seq (.reg q23_2) .ret) .skip)) (.seq (.seq (.reg q23_3) (.block 0 (.loop (.seq (.seq (.reg q23_4) (.cond (.t 14) .skip (.exit 0))) (.seq (.block 1 (.seq (.reg q23_5) (.cond (.t 54) (.seq (.reg q23_6) .ret) .skip))) (.reg q23_7)))))) (.seq (.reg q23_8) .ret))))
theorem Tryz.c_ref6_SameLock : fnComp Tryz.prog 23 = some (55, Tryz.l_ref6_SameLock,[.t 4]) := by kernel_rfl
def q25_0 : LReg := rG [oO 2 (mK (.c (.nils))),oO 3 (.alloc 26 2 [.int .i64 0,.int .i64 0])]
def q25_1 : LReg := rG [oM 10 0,oO 11 (cA 12 [10]),oO 4 (.alloc 26 2 [.int .i64 0,.int .i64 0]),oX (sT 2 4 11)]
def q25_2 : LReg := rG [oO 12 (lA 2 4),oO 13 (.build [.int .i64 0,.int .i64 0] []),oO 14 (.eqs true [0,0] (.t 12) (.t 13))]
def q25_3 : LReg := ⟨[oO 15 (lA 2 4),oO 2 (mK (.c (.nils))),oX (sT 2 3 15)],true,[]⟩
def q25_4 : LReg := rG [oO 5 (mK (.c (.nils)))]
def q25_5 : LReg := rG [oM 16 0,oO 17 (lN 16),oO 18 (mK (kI 0))]
def q25_6 : LReg := rG [oO 19 (bT .lss 18 17)]
def q25_7 : LReg := rG [oO 20 (iX 6 16 18),oO 21 (lA 6 20),oO 7 (.alloc 62 6 [.int .i64 0,.int .i64 0,.int .i64 0,.int .i64 0,.nils,.int .i64 0]),oX (sT 6 7 21)]
def q25_8 : LReg := rG [oO 23 (fA 1 7),oO 24 (lA 4 23),oO 25 (cA 54 [24]),oM 22 25,oO 26 (eX 0 22),oO 27 (eX 1 22),oO 9 (.alloc 26 2 [.int .i64 0,.int .i64 0]),oM 8 26,oX (sT 2 9 27)]
def q25_9 : LReg := ⟨[oM 28 5,oO 29 (fA 0 7),oO 30 (lV 1 29),oO 31 (cA 55 [30]),oO 32 (.bin .add (.t 31) (.c (.str [32]))),oM 33 8,oO 34 (bT .add 32 33),oO 35 (.bin .add (.t 34) (.c (.str [32]))),oO 36 (fA 5 7),oO 37 (lV 1 36),oO 38 (cA 55 [37]),oO 39 (bT .add 35 38),oO 40 (.mkSlice 9 1 1 [.str []] [(0,(.t 39))]),oO 41 (.append 9 1 16 (.t 28) (.t 40)),oM 5 41],true,[(1,8),(2,8),(3,8),(1,9),(2,9),(3,9)]⟩
def q25_10 : LReg := rG [oO 42 (bK .add 18 1),oM 18 42]
def q25_11 : LReg := rG [oM 43 5,oO 44 (.build [.int .i64 0,.int .i64 0] []),oM 2 43,oX (sT 2 3 44)]
def Tryz.l_lockfile_Write : LCode := (.seq (.reg q25_0) (.seq (.seq (.reg q25_1) (.seq (.reg q25_2) (.cond (.t 14) (.seq (.reg q25_3) .ret) .skip))) (.seq (.reg q25_4) (.seq (.seq (.reg q25_5) (.block 0 (.loop (.seq (.reg q25_6) (.seq (.cond (.t 19) .skip (.exit 0)) (.seq (.block 1 (.seq (.reg q25_7) (.seq (.reg q25_8) (.reg q25_9)))) (.reg q25_10))))))) (.seq (.reg q25_11) .ret)))))
theorem Tryz.c_lockfile_Write : fnComp Tryz.prog 25 = some (45, Tryz.l_lockfile_Write,[.t 2,.cell 3 2 true]) := by kernel_rfl
def q26_0 : LReg := rG [oO 4 (mK (kB false))]
def q26_1 : LReg := rG [oM 6 0,oO 7 (lN 6),oM 8 1,oO 9 (lN 8),oO 10 (bT .neq 7 9)]
def q26_2 : LReg := rG [oO 4 (mK (kB false))]
def q26_3 : LReg := rG [oO 5 (mK (kI 0))]
def q26_4 : LReg := rG [oM 11 5,oM 12 0,oO 13 (lN 12),oO 14 (bT .lss 11 13)]
def q26_5 : LReg := ⟨[oM 17 0,oM 18 5,oO 19 (iX 1 17 18),oO 20 (lV 1 19),oM 21 1,oM 22 5,oO 23 (iX 1 21 22),oO 24 (lV 1 23),oO 25 (bT .neq 20 24)],true,[(2,6),(3,6),(2,7),(3,7)]⟩
def q26_6 : LReg := rG [oO 4 (mK (kB false))]
def q26_7 : LReg := rG [oM 15 5,oO 16 (bK .add 15 1),oM 5 16]
def q26_8 : LReg := rG [oO 4 (mK (kB true))]
def Tryz.l_ref6_Strings : LCode := (.seq (.reg q26_0) (.seq (.seq (.reg q26_1) (.cond (.t 10) (.seq (.reg q26_2) .ret) .skip)) (.seq (.seq (.reg q26_3) (.block 0 (.loop (.seq (.seq (.reg q26_4) (.cond (.t 14) .skip (.exit 0))) (.seq (.block 1 (.seq (.reg q26_5) (.cond (.t 25) (.seq (.reg q26_6) .ret) .skip))) (.reg q26_7)))))) (.seq (.reg q26_8) .ret))))
theorem Tryz.c_ref6_Strings : fnComp Tryz.prog 26 = some (26, Tryz.l_ref6_Strings,[.t 4]) := by kernel_rfl
def q80_0 : LReg := rG [oO 2 (.alloc 60 4 [.int .i64 0,.int .i64 0,.int .i64 0,.nils]),oO 3 (.alloc 26 2 [.int .i64 0,.int .i64 0])]
def q80_1 : LReg := rG [oM 14 0,oO 15 (sN 14),oO 16 (bK .gtr 15 80)]
def q80_2 : LReg := rG [oO 17 (.build [.int .i64 0,.int .i64 0,.int .i64 0,.nils] []),oO 18 (.build [.int .i64 0,.int .i64 0] [(0,1,(kI 2)),(1,1,(kI (-1)))]),oX (sT 4 2 17),oX (sT 2 3 18)]
def q80_3 : LReg := rG [oO 19 (.build [.int .i64 0,.int .i64 0] [(0,1,(kI 1)),(1,1,(kI (-1)))]),oO 4 (.alloc 26 2 [.int .i64 0,.int .i64 0]),oX (sT 2 4 19)]
def q80_4 : LReg := rG [oM 21 0,oO 22 (.call 98 [(.t 21),(.c (.str [45]))]),oM 20 22,oO 23 (eX 0 20),oO 24 (eX 1 20),oO 25 (eX 2 20),oM 5 23,oM 6 24,oM 7 25]
def q80_5 : LReg := rG [oO 8 (.alloc 60 4 [.int .i64 0,.int .i64 0,.int .i64 0,.nils])]
def q80_6 : LReg := rG [oM 26 7]
def q80_7 : LReg := rG [oM 27 6,oO 28 (.call 79 [(.t 27),(.c (.str [46]))]),oO 29 (fA 3 8),oX (sT 1 29 28)]
def q80_8 : LReg := rG [oM 30 5,oO 31 (.call 79 [(.t 30),(.c (.str [46]))]),oM 9 31]
def q80_9 : LReg := rG [oM 32 9,oO 33 (lN 32),oO 34 (bK .neq 33 3)]
def q80_10 : LReg := ⟨[oO 35 (.build [.int .i64 0,.int .i64 0,.int .i64 0,.nils] []),oO 36 (lA 2 4),oX (sT 4 2 35),oX (sT 2 3 36)],true,[(1,2)]⟩
def q80_11 : LReg := rG [oO 37 (fA 0 8),oO 38 (fA 1 8),oO 39 (fA 2 8),oO 40 (.mkSlice 139 1 3 [.pnil] [(0,(.t 37)),(1,(.t 38)),(2,(.t 39))]),oO 41 (lN 40),oO 42 (mK (kI 0))]
def q80_12 : LReg := rG [oO 43 (bT .lss 42 41)]
def q80_13 : LReg := rG [oM 44 42,oO 45 (iX 1 40 42),oO 46 (lV 1 45),oM 10 44,oM 11 46]
def q80_14 : LReg := rG [oM 48 11,oM 49 9,oM 50 10,oO 51 (iX 1 49 50),oO 52 (lV 1 51),oO 53 (cA 99 [52]),oM 47 53,oO 54 (eX 0 47),oO 55 (eX 1 47),oO 56 (.nilCheck (.t 48)),oX (sT 1 56 54)]
def q80_15 : LReg := rG [oO 57 (bK .add 42 1),oM 42 57]
def q80_16 : LReg := rG [oO 59 (lA 4 8),oO 60 (cA 54 [59]),oM 58 60,oO 61 (eX 0 58),oO 62 (eX 1 58),oO 13 (.alloc 26 2 [.int .i64 0,.int .i64 0]),oM 12 61,oX (sT 2 13 62)]
def q80_17 : LReg := rG [oO 63 (lA 2 13),oO 64 (.build [.int .i64 0,.int .i64 0] []),oO 65 (.eqs true [0,0] (.t 63) (.t 64)),oM 66 65,oF 67 66 (.mv (.t 12)),oF 68 66 (.mv (.t 0)),oF 69 66 (bT .neq 67 68),oO 70 (pL 66 (kB true) 69)]
def q80_18 : LReg := ⟨[oO 71 (.build [.int .i64 0,.int .i64 0,.int .i64 0,.nils] []),oO 72 (lA 2 4),oX (sT 4 2 71),oX (sT 2 3 72)],true,[(1,2)]⟩
def q80_19 : LReg := rG [oO 73 (lA 4 8),oO 74 (.build [.int .i64 0,.int .i64 0] []),oX (sT 4 2 73),oX (sT 2 3 74)]
def Tryz.l_version_Parse : LCode := (.seq (.reg q80_0) (.seq (.seq (.reg q80_1) (.cond (.t 16) (.seq (.reg q80_2) .ret) .skip)) (.seq (.reg q80_3) (.seq (.reg q80_4) (.seq (.reg q80_5) (.seq (.seq (.reg q80_6) (.cond (.t 26) (.reg q80_7) .skip)) (.seq (.reg q80_8) (.seq (.seq (.reg q80_9) (.cond (.t 34) (.seq (.reg q80_10) .ret) .skip)) (.seq (.seq (.reg q80_11) (.block 0 (.loop (.seq (.reg q80_12) (.seq (.cond (.t 43) .skip (.exit 0)) (.seq (.block 1 (.seq (.reg q80_13) (.reg q80_14))) (.reg q80_15))))))) (.seq (.seq (.reg q80_16) (.seq (.reg q80_17) (.cond (.t 70) (.seq (.reg q80_18) .ret) .skip))) (.seq (.reg q80_19) .ret)))))))))))
theorem Tryz.c_version_Parse : fnComp Tryz.prog 80 = some (75, Tryz.l_version_Parse,[.cell 2 4 true,.cell 3 2 true]) := by kernel_rfl
def q81_0 : LReg := rG [oO 4 (mK (kI 0)),oO 5 (mK (kB false))]
def q81_1 : LReg := rG [oM 9 0,oO 10 (cA 99 [9]),oM 8 10,oO 11 (eX 0 8),oO 12 (eX 1 8),oM 6 11,oM 7 12]
def q81_2 : LReg := rG [oM 13 6,oM 14 7,oO 15 (.isnilI false (.t 14)),oM 16 15,oT 17 16 (.mv (.t 6)),oT 18 16 (cA 55 [17]),oT 19 16 (.mv (.t 0)),oT 20 16 (bT .eql 18 19),oO 21 (pK 16 20 (kB false)),oM 22 21,oT 23 22 (.mv (.t 6)),oT 24 22 (bK .geq 23 0),oO 25 (pK 22 24 (kB false)),oM 26 25,oT 27 26 (.mv (.t 6)),oT 28 26 (.mv (.t 1)),oT 29 26 (bT .leq 27 28),oO 30 (pK 26 29 (kB false)),oM 4 13,oM 5 30]
def Tryz.l_lockfile_number : LCode := (.seq (.reg q81_0) (.seq (.reg q81_1) (.seq (.reg q81_2) .ret)))
theorem Tryz.c_lockfile_number : fnComp Tryz.prog 81 = some (31, Tryz.l_lockfile_number,[.t 4,.t 5]) := by kernel_rfl
def q57_0 : LReg := rG [oO 2 (.alloc 62 6 [.int .i64 0,.int .i64 0,.int .i64 0,.int .i64 0,.nils,.int .i64 0]),oO 3 (mK (kB false))]
def q57_1 : LReg := rG [oM 11 0,oO 12 (.call 79 [(.t 11),(.c (.str [32]))]),oM 4 12]
def q57_2 : LReg := rG [oM 13 4,oO 14 (lN 13),oO 15 (bK .neq 14 3)]
def q57_3 : LReg := rG [oO 16 (.build [.int .i64 0,.int .i64 0,.int .i64 0,.int .i64 0,.nils,.int .i64 0] []),oX (sT 6 2 16),oO 3 (mK (kB false))]
def q57_4 : LReg := rG [oM 18 4,oO 19 (.idx 1 (.t 18) (kI 1)),oO 20 (lV 1 19),oO 21 (cA 80 [20]),oM 17 21,oO 22 (eX 0 17),oO 23 (eX 1 17),oO 5 (.alloc 60 4 [.int .i64 0,.int .i64 0,.int .i64 0,.nils]),oO 6 (.alloc 26 2 [.int .i64 0,.int .i64 0]),oX (sT 4 5 22),oX (sT 2 6 23)]
def q57_5 : LReg := rG [oM 25 4,oO 26 (.idx 1 (.t 25) (kI 0)),oO 27 (lV 1 26),oO 28 (.call 81 [(.t 27),(kI 1000000000)]),oM 24 28,oO 29 (eX 0 24),oO 30 (eX 1 24),oM 7 29,oM 8 30]
def q57_6 : LReg := rG [oM 32 4,oO 33 (.idx 1 (.t 32) (kI 2)),oO 34 (lV 1 33),oO 35 (.call 81 [(.t 34),(kI 2305843009213693950)]),oM 31 35,oO 36 (eX 0 31),oO 37 (eX 1 31),oM 9 36,oM 10 37]
def q57_7 : LReg := ⟨[oM 38 7,oO 39 (lA 4 5),oM 40 9,oO 41 (.build [.int .i64 0,.int .i64 0,.int .i64 0,.int .i64 0,.nils,.int .i64 0] [(0,1,(.t 38)),(1,4,(.t 39)),(5,1,(.t 40))]),oO 42 (lA 2 6),oO 43 (.build [.int .i64 0,.int .i64 0] []),oO 44 (.eqs false [0,0] (.t 42) (.t 43)),oM 45 44,oT 46 45 (.mv (.t 8)),oO 47 (pK 45 46 (kB false)),oM 48 47,oT 49 48 (.mv (.t 10)),oO 50 (pK 48 49 (kB false)),oX (sT 6 2 41),oM 3 50],true,[(1,4)]⟩
def Tryz.l_lockfile_entry : LCode := (.seq (.reg q57_0) (.seq (.reg q57_1) (.seq (.seq (.reg q57_2) (.cond (.t 15) (.seq (.reg q57_3) .ret) .skip)) (.seq (.reg q57_4) (.seq (.reg q57_5) (.seq (.reg q57_6) (.seq (.reg q57_7) .ret)))))))
theorem Tryz.c_lockfile_entry : fnComp Tryz.prog 57 = some (51, Tryz.l_lockfile_entry,[.cell 2 6 true,.t 3]) := by kernel_rfl
def q28_0 : LReg := rG [oO 2 (mK (.c (.nils))),oO 3 (.alloc 26 2 [.int .i64 0,.int .i64 0])]
def q28_1 : LReg := rG [oM 10 0,oO 11 (lN 10),oO 12 (bK .gtr 11 6)]
def q28_2 : LReg := rG [oO 13 (.build [.int .i64 0,.int .i64 0] [(0,1,(kI 2)),(1,1,(kI (-1)))]),oO 2 (mK (.c (.nils))),oX (sT 2 3 13)]
def q28_3 : LReg := rG [oO 4 (mK (.c (.nils)))]
def q28_4 : LReg := rG [oM 14 0,oO 15 (lN 14),oO 16 (mK (kI 0))]
def q28_5 : LReg := rG [oO 17 (bT .lss 16 15)]
def q28_6 : LReg := rG [oM 18 16,oO 19 (iX 1 14 16),oO 20 (lV 1 19),oM 5 18,oM 6 20]
def q28_7 : LReg := rG [oM 22 6,oO 23 (cA 57 [22]),oM 21 23,oO 24 (eX 0 21),oO 25 (eX 1 21),oO 7 (.alloc 62 6 [.int .i64 0,.int .i64 0,.int .i64 0,.int .i64 0,.nils,.int .i64 0]),oX (sT 6 7 24),oM 8 25]
def q28_8 : LReg := rG [oM 26 8,oO 27 (.un .not (.t 26))]
def q28_9 : LReg := rG [oM 28 5,oO 29 (.build [.int .i64 0,.int .i64 0] [(0,1,(kI 1)),(1,1,(.t 28))]),oO 2 (mK (.c (.nils))),oX (sT 2 3 29)]
def q28_10 : LReg := rG [oM 30 4,oO 31 (lA 6 7),oO 32 (.mkSlice 62 6 1 [.int .i64 0,.int .i64 0,.int .i64 0,.int .i64 0,.nils,.int .i64 0] [(0,(.t 31))]),oO 33 (.append 62 6 64 (.t 30) (.t 32)),oM 4 33]
def q28_11 : LReg := rG [oO 34 (bK .add 16 1),oM 16 34]
def q28_12 : LReg := rG [oM 35 4,oO 36 (cA 12 [35]),oO 9 (.alloc 26 2 [.int .i64 0,.int .i64 0]),oX (sT 2 9 36)]
def q28_13 : LReg := rG [oO 37 (lA 2 9),oO 38 (.build [.int .i64 0,.int .i64 0] []),oO 39 (.eqs true [0,0] (.t 37) (.t 38))]
def q28_14 : LReg := ⟨[oO 40 (lA 2 9),oO 2 (mK (.c (.nils))),oX (sT 2 3 40)],true,[]⟩
def q28_15 : LReg := rG [oM 41 4,oO 42 (.build [.int .i64 0,.int .i64 0] []),oM 2 41,oX (sT 2 3 42)]
def Tryz.l_lockfile_Read : LCode := (.seq (.reg q28_0) (.seq (.seq (.reg q28_1) (.cond (.t 12) (.seq (.reg q28_2) .ret) .skip)) (.seq (.reg q28_3) (.seq (.seq (.reg q28_4) (.block 0 (.loop (.seq (.reg q28_5) (.seq (.cond (.t 17) .skip (.exit 0)) (.seq (.block 1 (.seq (.reg q28_6) (.seq (.reg q28_7) (.seq (.seq (.reg q28_8) (.cond (.t 27) (.seq (.reg q28_9) .ret) .skip)) (.reg q28_10))))) (.reg q28_11))))))) (.seq (.seq (.reg q28_12) (.seq (.reg q28_13) (.cond (.t 39) (.seq (.reg q28_14) .ret) .skip))) (.seq (.reg q28_15) .ret))))))
theorem Tryz.c_lockfile_Read : fnComp Tryz.prog 28 = some (43, Tryz.l_lockfile_Read,[.t 2,.cell 3 2 true]) := by kernel_rfl
def q61_0 : LReg := rG [oO 6 (.alloc 60 4 [.int .i64 0,.int .i64 0,.int .i64 0,.nils])]
def q61_1 : LReg := rG [oM 7 0,oM 8 1,oM 9 2,oO 10 (.build [.int .i64 0,.int .i64 0,.int .i64 0,.nils] [(0,1,(.t 7)),(1,1,(.t 8)),(2,1,(.t 9))]),oX (sT 4 6 10)]
def Tryz.l_law6_ver : LCode := (.seq (.reg q61_0) (.seq (.reg q61_1) .ret))
theorem Tryz.c_law6_ver : fnComp Tryz.prog 61 = some (11, Tryz.l_law6_ver,[.cell 6 4 true]) := by kernel_rfl
def q31_0 : LReg := rG [oO 0 (mK (.c (.nils)))]
def q31_1 : LReg := rG [oO 1 (.call 61 [(kI 1),(kI 2),(kI 3)]),oO 2 (.build [.int .i64 0,.int .i64 0,.int .i64 0,.int .i64 0,.nils,.int .i64 0] [(0,1,(kI 0)),(1,4,(.t 1)),(5,1,(kI 7))]),oO 3 (.mkSlice 62 6 1 [.int .i64 0,.int .i64 0,.int .i64 0,.int .i64 0,.nils,.int .i64 0] [(0,(.t 2))]),oM 0 3]
def Tryz.l_law6_lock : LCode := (.seq (.reg q31_0) (.seq (.reg q31_1) .ret))
theorem Tryz.c_law6_lock : fnComp Tryz.prog 31 = some (4, Tryz.l_law6_lock,[.t 0]) := by kernel_rfl
def q62_0 : LReg := rG [oO 4 (.box 60 4 (.t 1)),oO 5 (.box 60 4 (.t 2)),oO 6 (.alloc 95 2 [.int .i64 0,.nils])]
def q62_1 : LReg := rG [oM 7 0,oO 8 (lA 4 4),oO 9 (lA 4 5),oO 10 (.build [.int .i64 0,.int .i64 0,.int .i64 0,.nils,.int .i64 0,.int .i64 0,.int .i64 0,.nils,.bool false] [(0,4,(.t 8)),(4,4,(.t 9))]),oO 11 (.mkSlice 109 9 1 [.int .i64 0,.int .i64 0,.int .i64 0,.nils,.int .i64 0,.int .i64 0,.int .i64 0,.nils,.bool false] [(0,(.t 10))]),oO 12 (.build [.nils] [(0,1,(.t 11))]),oO 13 (.build [.int .i64 0,.nils] [(0,1,(.t 7)),(1,1,(.t 12))]),oX (sT 2 6 13)]
def Tryz.l_law6_span : LCode := (.seq (.reg q62_0) (.seq (.reg q62_1) .ret))
theorem Tryz.c_law6_span : fnComp Tryz.prog 62 = some (14, Tryz.l_law6_span,[.cell 6 2 true]) := by kernel_rfl
def q32_0 : LReg := rG [oO 0 (.alloc 39 1 [.nils])]
def q32_1 : LReg := rG [oO 2 (.call 61 [(kI 1),(kI 0),(kI 0)]),oO 3 (.call 61 [(kI 2),(kI 0),(kI 0)]),oO 4 (.call 62 [(kI 1),(.t 2),(.t 3)]),oO 1 (.alloc 95 2 [.int .i64 0,.nils]),oX (sT 2 1 4)]
def q32_2 : LReg := ⟨[oO 5 (.call 61 [(kI 1),(kI 0),(kI 0)]),oO 6 (lA 2 1),oO 7 (.mkSlice 95 2 1 [.int .i64 0,.nils] [(0,(.t 6))]),oO 8 (.build [.int .i64 0,.int .i64 0,.int .i64 0,.nils,.nils] [(0,4,(.t 5)),(4,1,(.t 7))]),oO 9 (.mkSlice 75 5 1 [.int .i64 0,.int .i64 0,.int .i64 0,.nils,.nils] [(0,(.t 8))]),oO 10 (.call 61 [(kI 3),(kI 0),(kI 0)]),oO 11 (.build [.int .i64 0,.int .i64 0,.int .i64 0,.nils,.nils] [(0,4,(.t 10))]),oO 12 (.mkSlice 75 5 1 [.int .i64 0,.int .i64 0,.int .i64 0,.nils,.nils] [(0,(.t 11))]),oO 13 (.mkSlice 73 1 2 [.nils] [(0,(.t 9)),(1,(.t 12))]),oO 14 (.build [.nils] [(0,1,(.t 13))]),oX (sT 1 0 14)],true,[(0,1),(0,2),(1,5),(2,5),(4,5),(1,7),(2,7),(4,7)]⟩
def Tryz.l_law6_universe : LCode := (.seq (.reg q32_0) (.seq (.reg q32_1) (.seq (.reg q32_2) .ret)))
theorem Tryz.c_law6_universe : fnComp Tryz.prog 32 = some (15, Tryz.l_law6_universe,[.cell 0 1 true]) := by kernel_rfl
def q9_0 : LReg := rG [oO 0 (mK (kB false))]
def q9_1 : LReg := rG [oO 15 (cA 31 []),oO 16 (cA 25 [15]),oM 14 16,oO 17 (eX 0 14),oO 18 (eX 1 14),oO 2 (.alloc 26 2 [.int .i64 0,.int .i64 0]),oM 1 17,oX (sT 2 2 18)]
def q9_2 : LReg := rG [oO 20 (.mkSlice 9 1 1 [.str []] [(0,(.c (.str [48,32,49,46,50,46,51,32,55])))]),oO 21 (cA 28 [20]),oM 19 21,oO 22 (eX 0 19),oO 23 (eX 1 19),oO 4 (.alloc 26 2 [.int .i64 0,.int .i64 0]),oM 3 22,oX (sT 2 4 23)]
def q9_3 : LReg := rG [oO 25 (cA 31 []),oO 26 (.call 17 [(.t 25),(.c (.nils))]),oM 24 26,oO 27 (eX 0 24),oO 28 (eX 1 24),oO 6 (.alloc 26 2 [.int .i64 0,.int .i64 0]),oM 5 27,oX (sT 2 6 28)]
def q9_4 : LReg := rG [oO 30 (cA 31 []),oO 31 (cA 13 [30]),oM 29 31,oO 32 (eX 0 29),oO 33 (eX 1 29),oO 8 (.alloc 26 2 [.int .i64 0,.int .i64 0]),oM 7 32,oX (sT 2 8 33)]
def q9_5 : LReg := rG [oO 35 (cA 32 []),oO 36 (.mkSlice 3 1 2 [.int .i64 0] [(0,(kI 0)),(1,(kI (-1)))]),oO 37 (cA 22 [35,36]),oM 34 37,oO 38 (eX 0 34),oO 39 (eX 1 34),oO 10 (.alloc 26 2 [.int .i64 0,.int .i64 0]),oM 9 38,oX (sT 2 10 39)]
def q9_6 : LReg := rG [oO 41 (.mkSlice 9 1 1 [.str []] [(0,(.c (.str [57,32,49,46,50,46,51,32,55])))]),oO 42 (cA 28 [41]),oM 40 42,oO 43 (eX 0 40),oO 44 (eX 1 40),oO 12 (.alloc 26 2 [.int .i64 0,.int .i64 0]),oM 11 43,oX (sT 2 12 44)]
def q9_7 : LReg := ⟨[oO 45 (fA 0 2),oO 46 (lV 1 45),oO 47 (bK .eql 46 0),oM 48 47,oT 49 48 (fA 0 4),oT 50 48 (lV 1 49),oT 51 48 (bK .eql 50 0),oO 52 (pK 48 51 (kB false)),oM 53 52,oT 54 53 (fA 0 6),oT 55 53 (lV 1 54),oT 56 53 (bK .eql 55 0),oO 57 (pK 53 56 (kB false)),oM 58 57,oT 59 58 (fA 0 8),oT 60 58 (lV 1 59),oT 61 58 (bK .eql 60 0),oO 62 (pK 58 61 (kB false)),oM 63 62,oT 64 63 (fA 0 10),oT 65 63 (lV 1 64),oT 66 63 (bK .eql 65 0),oO 67 (pK 63 66 (kB false)),oM 68 67,oT 69 68 (lA 2 12),oT 70 68 (.call 16 [(kI 3),(kI 0)]),oT 71 68 (.eqs false [0,0] (.t 69) (.t 70)),oO 72 (pK 68 71 (kB false)),oM 13 72],true,[(24,25)]⟩
def q9_8 : LReg := rG [oM 73 13,oM 74 73,oT 75 74 (.mv (.t 1)),oT 76 74 (.mkSlice 9 1 1 [.str []] [(0,(.c (.str [48,32,49,46,50,46,51,32,55])))]),oT 77 74 (cA 26 [75,76]),oO 78 (pK 74 77 (kB false)),oM 79 78,oT 80 79 (.mv (.t 3)),oT 81 79 (cA 31 []),oT 82 79 (cA 23 [80,81]),oO 83 (pK 79 82 (kB false)),oM 84 83,oT 85 84 (.mv (.t 5)),oT 86 84 (.mkSlice 3 1 1 [.int .i64 0] [(0,(kI 0))]),oT 87 84 (cA 14 [85,86]),oO 88 (pK 84 87 (kB false)),oM 89 88,oT 90 89 (.mv (.t 7)),oT 91 89 (.mkSlice 3 1 1 [.int .i64 0] [(0,(kI 0))]),oT 92 89 (cA 14 [90,91]),oO 93 (pK 89 92 (kB false)),oM 94 93,oT 95 94 (.mv (.t 9)),oT 96 94 (lN 95),oT 97 94 (bK .eql 96 1),oO 98 (pK 94 97 (kB false)),oM 99 98,oT 100 99 (.mv (.t 9)),oT 101 99 (.idx 6 (.t 100) (kI 0)),oT 102 99 (fA 0 101),oT 103 99 (lV 1 102),oT 104 99 (bK .eql 103 0),oO 105 (pK 99 104 (kB false)),oM 0 105]
def Tryz.l_law6_locks : LCode := (.seq (.reg q9_0) (.seq (.reg q9_1) (.seq (.reg q9_2) (.seq (.reg q9_3) (.seq (.reg q9_4) (.seq (.reg q9_5) (.seq (.reg q9_6) (.seq (.reg q9_7) (.seq (.reg q9_8) .ret)))))))))
theorem Tryz.c_law6_locks : fnComp Tryz.prog 9 = some (106, Tryz.l_law6_locks,[.t 0]) := by kernel_rfl
def q10_0 : LReg := rG [oO 2 (mK (kB false))]
def q10_1 : LReg := rG [oO 3 (mK (kI 0))]
def q10_2 : LReg := rG [oM 4 3,oM 5 0,oO 6 (lN 5),oO 7 (bT .lss 4 6),oM 8 7,oT 9 8 (.mv (.t 3)),oT 10 8 (bK .lss 9 20),oO 11 (pK 8 10 (kB false))]
def q10_3 : LReg := rG [oM 14 0,oM 15 3,oO 16 (iX 6 14 15),oO 17 (fA 1 16),oO 18 (fA 3 17),oO 19 (lV 1 18),oO 20 (lN 19),oO 21 (bK .gtr 20 40)]
def q10_4 : LReg := rG [oO 2 (mK (kB true))]
def q10_5 : LReg := rG [oM 12 3,oO 13 (bK .add 12 1),oM 3 13]
def q10_6 : LReg := rG [oM 22 0,oO 23 (lN 22),oO 24 (bK .gtr 23 20),oM 2 24]
def Tryz.l_law6_wideLock : LCode := (.seq (.reg q10_0) (.seq (.seq (.reg q10_1) (.block 0 (.loop (.seq (.seq (.reg q10_2) (.cond (.t 11) .skip (.exit 0))) (.seq (.block 1 (.seq (.reg q10_3) (.cond (.t 21) (.seq (.reg q10_4) .ret) .skip))) (.reg q10_5)))))) (.seq (.reg q10_6) .ret)))
theorem Tryz.c_law6_wideLock : fnComp Tryz.prog 10 = some (25, Tryz.l_law6_wideLock,[.t 2]) := by kernel_rfl
def q33_0 : LReg := rG [oO 4 (.alloc 26 2 [.int .i64 0,.int .i64 0])]
def q33_1 : LReg := rG [oM 5 0,oM 6 1,oO 7 (.build [.int .i64 0,.int .i64 0] [(0,1,(.t 5)),(1,1,(.t 6))]),oX (sT 2 4 7)]
def Tryz.l_ref6_fault : LCode := (.seq (.reg q33_0) (.seq (.reg q33_1) .ret))
theorem Tryz.c_ref6_fault : fnComp Tryz.prog 33 = some (8, Tryz.l_ref6_fault,[.cell 4 2 true]) := by kernel_rfl
def q34_0 : LReg := rG [oO 6 (mK (kB false))]
def q34_1 : LReg := rG [oM 7 0,oM 8 1,oO 9 (bT .geq 7 8),oM 10 9,oT 11 10 (.mv (.t 0)),oT 12 10 (.mv (.t 2)),oT 13 10 (bT .leq 11 12),oO 14 (pK 10 13 (kB false)),oM 6 14]
def Tryz.l_ref6_in : LCode := (.seq (.reg q34_0) (.seq (.reg q34_1) .ret))
theorem Tryz.c_ref6_in : fnComp Tryz.prog 34 = some (15, Tryz.l_ref6_in,[.t 6]) := by kernel_rfl
def q47_0 : LReg := rG [oO 4 (.alloc 26 2 [.int .i64 0,.int .i64 0])]
def q47_1 : LReg := rG [oM 5 0,oM 6 1,oO 7 (.build [.int .i64 0,.int .i64 0] [(0,1,(.t 5)),(1,1,(.t 6))]),oX (sT 2 4 7)]
def Tryz.l_ref5_fault : LCode := (.seq (.reg q47_0) (.seq (.reg q47_1) .ret))
theorem Tryz.c_ref5_fault : fnComp Tryz.prog 47 = some (8, Tryz.l_ref5_fault,[.cell 4 2 true]) := by kernel_rfl
def q49_0 : LReg := rG [oO 6 (mK (kB false))]
def q49_1 : LReg := rG [oM 7 0,oM 8 1,oO 9 (bT .geq 7 8),oM 10 9,oT 11 10 (.mv (.t 0)),oT 12 10 (.mv (.t 2)),oT 13 10 (bT .leq 11 12),oO 14 (pK 10 13 (kB false)),oM 6 14]
def Tryz.l_ref5_in : LCode := (.seq (.reg q49_0) (.seq (.reg q49_1) .ret))
theorem Tryz.c_ref5_in : fnComp Tryz.prog 49 = some (15, Tryz.l_ref5_in,[.t 6]) := by kernel_rfl
def q82_0 : LReg := rG [oO 2 (mK (kB false))]
def q82_1 : LReg := rG [oO 3 (mK (kI 0))]
def q82_2 : LReg := rG [oM 4 3,oM 5 0,oO 6 (sN 5),oO 7 (bT .lss 4 6)]
def q82_3 : LReg := rG [oM 10 0,oM 11 3,oO 12 (.sidx (.t 10) (.t 11)),oO 13 (.bin .lss (.t 12) (.c (.int .u8 48))),oM 14 13,oF 15 14 (.mv (.t 0)),oF 16 14 (.mv (.t 3)),oF 17 14 (.sidx (.t 15) (.t 16)),oF 18 14 (.bin .gtr (.t 17) (.c (.int .u8 57))),oO 19 (pL 14 (kB true) 18)]
def q82_4 : LReg := rG [oO 2 (mK (kB false))]
def q82_5 : LReg := rG [oM 8 3,oO 9 (bK .add 8 1),oM 3 9]
def q82_6 : LReg := rG [oM 20 0,oO 21 (sN 20),oO 22 (bK .gtr 21 0),oM 2 22]
def Tryz.l_ref5_Numeric : LCode := (.seq (.reg q82_0) (.seq (.seq (.reg q82_1) (.block 0 (.loop (.seq (.seq (.reg q82_2) (.cond (.t 7) .skip (.exit 0))) (.seq (.block 1 (.seq (.reg q82_3) (.cond (.t 19) (.seq (.reg q82_4) .ret) .skip))) (.reg q82_5)))))) (.seq (.reg q82_6) .ret)))
theorem Tryz.c_ref5_Numeric : fnComp Tryz.prog 82 = some (23, Tryz.l_ref5_Numeric,[.t 2]) := by kernel_rfl
def q63_0 : LReg := rG [oO 2 (mK (kB false))]
def q63_1 : LReg := rG [oM 5 0,oO 6 (sN 5),oO 7 (.call 49 [(.t 6),(kI 1),(kI 8)]),oO 8 (.un .not (.t 7)),oM 9 8,oF 10 9 (.mv (.t 0)),oF 11 9 (cA 82 [10]),oF 12 9 (.mv (.t 11)),oT 13 12 (.mv (.t 0)),oT 14 12 (sN 13),oT 15 12 (bK .gtr 14 1),oF 16 9 (pK 12 15 (kB false)),oF 17 9 (.mv (.t 16)),oT 18 17 (.mv (.t 0)),oT 19 17 (.sidx (.t 18) (kI 0)),oT 20 17 (.bin .eql (.t 19) (.c (.int .u8 48))),oF 21 9 (pK 17 20 (kB false)),oO 22 (pL 9 (kB true) 21)]
def q63_2 : LReg := rG [oO 2 (mK (kB false))]
def q63_3 : LReg := rG [oO 3 (mK (kI 0))]
def q63_4 : LReg := rG [oM 23 3,oM 24 0,oO 25 (sN 24),oO 26 (bT .lss 23 25)]
def q63_5 : LReg := rG [oM 29 0,oM 30 3,oO 31 (.sidx (.t 29) (.t 30)),oO 32 (.conv .i64 (.t 31)),oM 4 32]
def q63_6 : LReg := rG [oM 33 4,oO 34 (.call 49 [(.t 33),(kI 48),(kI 57)]),oO 35 (.un .not (.t 34)),oM 36 35,oT 37 36 (.mv (.t 4)),oT 38 36 (.call 49 [(.t 37),(kI 97),(kI 122)]),oT 39 36 (.un .not (.t 38)),oO 40 (pK 36 39 (kB false)),oM 41 40,oT 42 41 (.mv (.t 4)),oT 43 41 (.call 49 [(.t 42),(kI 65),(kI 90)]),oT 44 41 (.un .not (.t 43)),oO 45 (pK 41 44 (kB false)),oM 46 45,oT 47 46 (.mv (.t 4)),oT 48 46 (bK .neq 47 45),oO 49 (pK 46 48 (kB false))]
def q63_7 : LReg := rG [oO 2 (mK (kB false))]
def q63_8 : LReg := rG [oM 27 3,oO 28 (bK .add 27 1),oM 3 28]
def q63_9 : LReg := rG [oO 2 (mK (kB true))]
def Tryz.l_ref5_Identifier : LCode := (.seq (.reg q63_0) (.seq (.seq (.reg q63_1) (.cond (.t 22) (.seq (.reg q63_2) .ret) .skip)) (.seq (.seq (.reg q63_3) (.block 0 (.loop (.seq (.seq (.reg q63_4) (.cond (.t 26) .skip (.exit 0))) (.seq (.block 1 (.seq (.reg q63_5) (.seq (.reg q63_6) (.cond (.t 49) (.seq (.reg q63_7) .ret) .skip)))) (.reg q63_8)))))) (.seq (.reg q63_9) .ret))))
theorem Tryz.c_ref5_Identifier : fnComp Tryz.prog 63 = some (50, Tryz.l_ref5_Identifier,[.t 2]) := by kernel_rfl
def q35_0 : LReg := rG [oO 1 (.box 60 4 (.t 0)),oO 2 (.alloc 26 2 [.int .i64 0,.int .i64 0])]
def q35_1 : LReg := rG [oO 4 (fA 0 1),oO 5 (lV 1 4),oO 6 (.call 49 [(.t 5),(kI 0),(kI 1000000000)]),oO 7 (.un .not (.t 6))]
def q35_2 : LReg := rG [oO 8 (.call 47 [(kI 3),(kI 0)]),oX (sT 2 2 8)]
def q35_3 : LReg := rG [oO 9 (fA 1 1),oO 10 (lV 1 9),oO 11 (.call 49 [(.t 10),(kI 0),(kI 1000000000)]),oO 12 (.un .not (.t 11))]
def q35_4 : LReg := rG [oO 13 (.call 47 [(kI 3),(kI 1)]),oX (sT 2 2 13)]
def q35_5 : LReg := rG [oO 14 (fA 2 1),oO 15 (lV 1 14),oO 16 (.call 49 [(.t 15),(kI 0),(kI 1000000000)]),oO 17 (.un .not (.t 16))]
def q35_6 : LReg := rG [oO 18 (.call 47 [(kI 3),(kI 2)]),oX (sT 2 2 18)]
def q35_7 : LReg := rG [oO 19 (fA 3 1),oO 20 (lV 1 19),oO 21 (lN 20),oO 22 (bK .gtr 21 4)]
def q35_8 : LReg := rG [oO 23 (.call 47 [(kI 2),(kI (-1))]),oX (sT 2 2 23)]
def q35_9 : LReg := rG [oO 3 (mK (kI 0))]
def q35_10 : LReg := rG [oM 24 3,oO 25 (fA 3 1),oO 26 (lV 1 25),oO 27 (lN 26),oO 28 (bT .lss 24 27)]
def q35_11 : LReg := rG [oO 31 (fA 3 1),oO 32 (lV 1 31),oM 33 3,oO 34 (iX 1 32 33),oO 35 (lV 1 34),oO 36 (cA 63 [35]),oO 37 (.un .not (.t 36))]
def q35_12 : LReg := rG [oM 38 3,oO 39 (.call 47 [(kI 5),(.t 38)]),oX (sT 2 2 39)]
def q35_13 : LReg := rG [oM 29 3,oO 30 (bK .add 29 1),oM 3 30]
def q35_14 : LReg := rG [oO 40 (.build [.int .i64 0,.int .i64 0] []),oX (sT 2 2 40)]
def Tryz.l_ref5_VersionFault : LCode := (.seq (.reg q35_0) (.seq (.seq (.reg q35_1) (.cond (.t 7) (.seq (.reg q35_2) .ret) .skip)) (.seq (.seq (.reg q35_3) (.cond (.t 12) (.seq (.reg q35_4) .ret) .skip)) (.seq (.seq (.reg q35_5) (.cond (.t 17) (.seq (.reg q35_6) .ret) .skip)) (.seq (.seq (.reg q35_7) (.cond (.t 22) (.seq (.reg q35_8) .ret) .skip)) (.seq (.seq (.reg q35_9) (.block 0 (.loop (.seq (.seq (.reg q35_10) (.cond (.t 28) .skip (.exit 0))) (.seq (.block 1 (.seq (.reg q35_11) (.cond (.t 37) (.seq (.reg q35_12) .ret) .skip))) (.reg q35_13)))))) (.seq (.reg q35_14) .ret)))))))
theorem Tryz.c_ref5_VersionFault : fnComp Tryz.prog 35 = some (41, Tryz.l_ref5_VersionFault,[.cell 2 2 true]) := by kernel_rfl
def q36_0 : LReg := rG [oO 2 (mK (kB false))]
def q36_1 : LReg := rG [oM 3 0,oO 4 (.call 49 [(.t 3),(kI 0),(kI 2305843009213693950)]),oM 2 4]
def Tryz.l_ref5_IsDigest : LCode := (.seq (.reg q36_0) (.seq (.reg q36_1) .ret))
theorem Tryz.c_ref5_IsDigest : fnComp Tryz.prog 36 = some (5, Tryz.l_ref5_IsDigest,[.t 2]) := by kernel_rfl
def q11_0 : LReg := rG [oO 2 (.alloc 26 2 [.int .i64 0,.int .i64 0])]
def q11_1 : LReg := rG [oM 5 0,oO 6 (lN 5),oO 7 (bK .gtr 6 6)]
def q11_2 : LReg := rG [oO 8 (.call 33 [(kI 2),(kI (-1))]),oX (sT 2 2 8)]
def q11_3 : LReg := rG [oO 3 (mK (kI 0))]
def q11_4 : LReg := rG [oM 9 3,oM 10 0,oO 11 (lN 10),oO 12 (bT .lss 9 11)]
def q11_5 : LReg := rG [oM 15 0,oM 16 3,oO 17 (iX 6 15 16),oO 18 (fA 0 17),oO 19 (lV 1 18),oO 20 (.call 34 [(.t 19),(kI 0),(kI 5)]),oO 21 (.un .not (.t 20))]
def q11_6 : LReg := rG [oM 22 3,oO 23 (.call 33 [(kI 3),(.t 22)]),oX (sT 2 2 23)]
def q11_7 : LReg := rG [oM 24 0,oM 25 3,oO 26 (iX 6 24 25),oO 27 (fA 1 26),oO 28 (lA 4 27),oO 29 (cA 35 [28]),oO 4 (.alloc 26 2 [.int .i64 0,.int .i64 0]),oX (sT 2 4 29)]
def q11_8 : LReg := rG [oO 30 (fA 0 4),oO 31 (lV 1 30),oO 32 (bK .neq 31 0)]
def q11_9 : LReg := rG [oO 33 (fA 0 4),oO 34 (lV 1 33),oM 35 3,oO 36 (cA 33 [34,35]),oX (sT 2 2 36)]
def q11_10 : LReg := rG [oM 37 0,oM 38 3,oO 39 (iX 6 37 38),oO 40 (fA 5 39),oO 41 (lV 1 40),oO 42 (cA 36 [41]),oO 43 (.un .not (.t 42))]
def q11_11 : LReg := rG [oM 44 3,oO 45 (.call 33 [(kI 3),(.t 44)]),oX (sT 2 2 45)]
def q11_12 : LReg := ⟨[oM 46 3,oO 47 (bK .gtr 46 0),oM 48 47,oT 49 48 (.mv (.t 0)),oT 50 48 (.mv (.t 3)),oT 51 48 (iX 6 49 50),oT 52 48 (fA 0 51),oT 53 48 (lV 1 52),oT 54 48 (.mv (.t 0)),oT 55 48 (.mv (.t 3)),oT 56 48 (bK .sub 55 1),oT 57 48 (iX 6 54 56),oT 58 48 (fA 0 57),oT 59 48 (lV 1 58),oT 60 48 (bT .leq 53 59),oO 61 (pK 48 60 (kB false))],true,[(5,11),(6,11),(7,11),(5,12),(6,12),(7,12),(5,13),(6,13),(7,13)]⟩
def q11_13 : LReg := rG [oM 62 3,oO 63 (.call 33 [(kI 5),(.t 62)]),oX (sT 2 2 63)]
def q11_14 : LReg := rG [oM 13 3,oO 14 (bK .add 13 1),oM 3 14]
def q11_15 : LReg := rG [oO 64 (.build [.int .i64 0,.int .i64 0] []),oX (sT 2 2 64)]
def Tryz.l_ref6_LockFault : LCode := (.seq (.reg q11_0) (.seq (.seq (.reg q11_1) (.cond (.t 7) (.seq (.reg q11_2) .ret) .skip)) (.seq (.seq (.reg q11_3) (.block 0 (.loop (.seq (.seq (.reg q11_4) (.cond (.t 12) .skip (.exit 0))) (.seq (.block 1 (.seq (.seq (.reg q11_5) (.cond (.t 21) (.seq (.reg q11_6) .ret) .skip)) (.seq (.reg q11_7) (.seq (.seq (.reg q11_8) (.cond (.t 32) (.seq (.reg q11_9) .ret) .skip)) (.seq (.seq (.reg q11_10) (.cond (.t 43) (.seq (.reg q11_11) .ret) .skip)) (.seq (.reg q11_12) (.cond (.t 61) (.seq (.reg q11_13) .ret) .skip))))))) (.reg q11_14)))))) (.seq (.reg q11_15) .ret))))
theorem Tryz.c_ref6_LockFault : fnComp Tryz.prog 11 = some (65, Tryz.l_ref6_LockFault,[.cell 2 2 true]) := by kernel_rfl
def q78_0 : LReg := rG [oO 2 (mK (.c (.str [])))]
def q78_1 : LReg := rG [oM 3 0,oO 4 (bK .lss 3 10)]
def q78_2 : LReg := rG [oM 5 0,oM 6 0,oO 7 (bK .add 6 1),oO 8 (.sslice (.c (.str [48,49,50,51,52,53,54,55,56,57])) (some (.t 5)) (some (.t 7))),oM 2 8]
def q78_3 : LReg := ⟨[oM 9 0,oO 10 (bK .quo 9 10),oO 11 (cA 78 [10]),oM 12 0,oO 13 (bK .rem 12 10),oM 14 0,oO 15 (bK .rem 14 10),oO 16 (bK .add 15 1),oO 17 (.sslice (.c (.str [48,49,50,51,52,53,54,55,56,57])) (some (.t 13)) (some (.t 16))),oO 18 (bT .add 11 17),oM 2 18],true,[]⟩
def Tryz.l_ref5_Digits : LCode := (.seq (.reg q78_0) (.seq (.seq (.reg q78_1) (.cond (.t 4) (.seq (.reg q78_2) .ret) .skip)) (.seq (.reg q78_3) .ret)))
theorem Tryz.c_ref5_Digits : fnComp Tryz.prog 78 = some (19, Tryz.l_ref5_Digits,[.t 2]) := by kernel_rfl
def q67_0 : LReg := rG [oO 1 (.box 60 4 (.t 0)),oO 2 (mK (.c (.str [])))]
def q67_1 : LReg := ⟨[oO 5 (fA 0 1),oO 6 (lV 1 5),oO 7 (cA 78 [6]),oO 8 (.bin .add (.t 7) (.c (.str [46]))),oO 9 (fA 1 1),oO 10 (lV 1 9),oO 11 (cA 78 [10]),oO 12 (bT .add 8 11),oO 13 (.bin .add (.t 12) (.c (.str [46]))),oO 14 (fA 2 1),oO 15 (lV 1 14),oO 16 (cA 78 [15]),oO 17 (bT .add 13 16),oM 3 17],true,[(0,4),(1,4),(2,4),(0,5),(1,5),(2,5),(0,9),(1,9),(2,9),(4,9),(5,9),(6,9),(0,10),(1,10),(2,10),(4,10),(5,10),(6,10)]⟩
def q67_2 : LReg := rG [oO 4 (mK (kI 0))]
def q67_3 : LReg := rG [oM 18 4,oO 19 (fA 3 1),oO 20 (lV 1 19),oO 21 (lN 20),oO 22 (bT .lss 18 21)]
def q67_4 : LReg := rG [oM 25 4,oO 26 (bK .eql 25 0)]
def q67_5 : LReg := rG [oM 27 3,oO 28 (.bin .add (.t 27) (.c (.str [45]))),oM 3 28]
def q67_6 : LReg := rG [oM 29 3,oO 30 (.bin .add (.t 29) (.c (.str [46]))),oM 3 30]
def q67_7 : LReg := rG [oM 31 3,oO 32 (fA 3 1),oO 33 (lV 1 32),oM 34 4,oO 35 (iX 1 33 34),oO 36 (lV 1 35),oO 37 (bT .add 31 36),oM 3 37]
def q67_8 : LReg := rG [oM 23 4,oO 24 (bK .add 23 1),oM 4 24]
def q67_9 : LReg := rG [oM 38 3,oM 2 38]
def Tryz.l_ref5_VersionText : LCode := (.seq (.reg q67_0) (.seq (.reg q67_1) (.seq (.seq (.reg q67_2) (.block 0 (.loop (.seq (.seq (.reg q67_3) (.cond (.t 22) .skip (.exit 0))) (.seq (.block 1 (.seq (.seq (.reg q67_4) (.cond (.t 26) (.reg q67_5) (.reg q67_6))) (.reg q67_7))) (.reg q67_8)))))) (.seq (.reg q67_9) .ret))))
theorem Tryz.c_ref5_VersionText : fnComp Tryz.prog 67 = some (39, Tryz.l_ref5_VersionText,[.t 2]) := by kernel_rfl
def q56_0 : LReg := rG [oO 1 (.box 62 6 (.t 0)),oO 2 (mK (.c (.str [])))]
def q56_1 : LReg := ⟨[oO 3 (fA 0 1),oO 4 (lV 1 3),oO 5 (cA 78 [4]),oO 6 (.bin .add (.t 5) (.c (.str [32]))),oO 7 (fA 1 1),oO 8 (lA 4 7),oO 9 (cA 67 [8]),oO 10 (bT .add 6 9),oO 11 (.bin .add (.t 10) (.c (.str [32]))),oO 12 (fA 5 1),oO 13 (lV 1 12),oO 14 (cA 78 [13]),oO 15 (bT .add 11 14),oM 2 15],true,[(0,4),(1,4),(2,4),(0,5),(1,5),(2,5),(0,9),(1,9),(2,9),(4,9),(5,9),(6,9),(0,10),(1,10),(2,10),(4,10),(5,10),(6,10)]⟩
def Tryz.l_ref6_LockLine : LCode := (.seq (.reg q56_0) (.seq (.reg q56_1) .ret))
theorem Tryz.c_ref6_LockLine : fnComp Tryz.prog 56 = some (16, Tryz.l_ref6_LockLine,[.t 2]) := by kernel_rfl
def q27_0 : LReg := rG [oO 2 (mK (.c (.nils)))]
def q27_1 : LReg := rG [oO 3 (mK (.c (.nils)))]
def q27_2 : LReg := rG [oO 4 (mK (kI 0))]
def q27_3 : LReg := rG [oM 5 4,oM 6 0,oO 7 (lN 6),oO 8 (bT .lss 5 7)]
def q27_4 : LReg := rG [oM 11 3,oM 12 0,oM 13 4,oO 14 (iX 6 12 13),oO 15 (lA 6 14),oO 16 (cA 56 [15]),oO 17 (.mkSlice 9 1 1 [.str []] [(0,(.t 16))]),oO 18 (.append 9 1 16 (.t 11) (.t 17)),oM 3 18]
def q27_5 : LReg := rG [oM 9 4,oO 10 (bK .add 9 1),oM 4 10]
def q27_6 : LReg := rG [oM 19 3,oM 2 19]
def Tryz.l_ref6_LockLines : LCode := (.seq (.reg q27_0) (.seq (.reg q27_1) (.seq (.seq (.reg q27_2) (.block 0 (.loop (.seq (.seq (.reg q27_3) (.cond (.t 8) .skip (.exit 0))) (.seq (.block 1 (.reg q27_4)) (.reg q27_5)))))) (.seq (.reg q27_6) .ret))))
theorem Tryz.c_ref6_LockLines : fnComp Tryz.prog 27 = some (20, Tryz.l_ref6_LockLines,[.t 2]) := by kernel_rfl
def q58_0 : LReg := rG [oO 2 (mK (.c (.nils)))]
def q58_1 : LReg := rG [oO 3 (mK (.c (.nils)))]
def q58_2 : LReg := rG [oO 4 (mK (kI 0))]
def q58_3 : LReg := rG [oO 5 (mK (kI 0))]
def q58_4 : LReg := rG [oM 6 5,oM 7 0,oO 8 (sN 7),oO 9 (bT .leq 6 8)]
def q58_5 : LReg := rG [oM 12 5,oM 13 0,oO 14 (sN 13),oO 15 (bT .eql 12 14),oM 16 15,oF 17 16 (.mv (.t 0)),oF 18 16 (.mv (.t 5)),oF 19 16 (.sidx (.t 17) (.t 18)),oF 20 16 (.bin .eql (.t 19) (.c (.int .u8 32))),oO 21 (pL 16 (kB true) 20)]
def q58_6 : LReg := rG [oM 22 3,oM 23 0,oM 24 4,oM 25 5,oO 26 (.sslice (.t 23) (some (.t 24)) (some (.t 25))),oO 27 (.mkSlice 9 1 1 [.str []] [(0,(.t 26))]),oO 28 (.append 9 1 16 (.t 22) (.t 27)),oM 3 28]
def q58_7 : LReg := rG [oM 29 5,oO 30 (bK .add 29 1),oM 4 30]
def q58_8 : LReg := rG [oM 10 5,oO 11 (bK .add 10 1),oM 5 11]
def q58_9 : LReg := rG [oM 31 3,oM 2 31]
def Tryz.l_ref6_words : LCode := (.seq (.reg q58_0) (.seq (.reg q58_1) (.seq (.reg q58_2) (.seq (.seq (.reg q58_3) (.block 0 (.loop (.seq (.seq (.reg q58_4) (.cond (.t 9) .skip (.exit 0))) (.seq (.block 1 (.seq (.reg q58_5) (.cond (.t 21) (.seq (.reg q58_6) (.reg q58_7)) .skip))) (.reg q58_8)))))) (.seq (.reg q58_9) .ret)))))
theorem Tryz.c_ref6_words : fnComp Tryz.prog 58 = some (32, Tryz.l_ref6_words,[.t 2]) := by kernel_rfl
def q59_0 : LReg := rG [oO 4 (mK (kI 0))]
def q59_1 : LReg := rG [oM 8 0,oO 9 (cA 82 [8]),oO 10 (.un .not (.t 9)),oM 11 10,oF 12 11 (.mv (.t 0)),oF 13 11 (sN 12),oF 14 11 (bK .gtr 13 19),oO 15 (pL 11 (kB true) 14),oM 16 15,oF 17 16 (.mv (.t 0)),oF 18 16 (sN 17),oF 19 16 (bK .gtr 18 1),oF 20 16 (.mv (.t 19)),oT 21 20 (.mv (.t 0)),oT 22 20 (.sidx (.t 21) (kI 0)),oT 23 20 (.bin .eql (.t 22) (.c (.int .u8 48))),oF 24 16 (pK 20 23 (kB false)),oO 25 (pL 16 (kB true) 24)]
def q59_2 : LReg := rG [oO 4 (mK (kI (-1)))]
def q59_3 : LReg := rG [oO 5 (mK (kI 0))]
def q59_4 : LReg := rG [oO 6 (mK (kI 0))]
def q59_5 : LReg := rG [oM 26 6,oM 27 0,oO 28 (sN 27),oO 29 (bT .lss 26 28)]
def q59_6 : LReg := rG [oM 32 0,oM 33 6,oO 34 (.sidx (.t 32) (.t 33)),oO 35 (.bin .sub (.t 34) (.c (.int .u8 48))),oO 36 (.conv .i64 (.t 35)),oM 7 36]
def q59_7 : LReg := rG [oM 37 5,oM 38 1,oM 39 7,oO 40 (bT .sub 38 39),oO 41 (bK .quo 40 10),oO 42 (bT .gtr 37 41)]
def q59_8 : LReg := rG [oO 4 (mK (kI (-1)))]
def q59_9 : LReg := rG [oM 43 5,oO 44 (.bin .mul (kI 10) (.t 43)),oM 45 7,oO 46 (bT .add 44 45),oM 5 46]
def q59_10 : LReg := rG [oM 30 6,oO 31 (bK .add 30 1),oM 6 31]
def q59_11 : LReg := rG [oM 47 5,oM 4 47]
def Tryz.l_ref5_NumberOf : LCode := (.seq (.reg q59_0) (.seq (.seq (.reg q59_1) (.cond (.t 25) (.seq (.reg q59_2) .ret) .skip)) (.seq (.reg q59_3) (.seq (.seq (.reg q59_4) (.block 0 (.loop (.seq (.seq (.reg q59_5) (.cond (.t 29) .skip (.exit 0))) (.seq (.block 1 (.seq (.reg q59_6) (.seq (.seq (.reg q59_7) (.cond (.t 42) (.seq (.reg q59_8) .ret) .skip)) (.reg q59_9)))) (.reg q59_10)))))) (.seq (.reg q59_11) .ret)))))
theorem Tryz.c_ref5_NumberOf : fnComp Tryz.prog 59 = some (48, Tryz.l_ref5_NumberOf,[.t 4]) := by kernel_rfl
def q83_0 : LReg := rG [oO 6 (mK (.c (.str []))),oO 7 (mK (.c (.str [])))]
def q83_1 : LReg := rG [oO 8 (mK (kI 0))]
def q83_2 : LReg := rG [oM 9 8,oM 10 0,oO 11 (sN 10),oO 12 (bT .lss 9 11),oM 13 12,oT 14 13 (.mv (.t 0)),oT 15 13 (.mv (.t 8)),oT 16 13 (.sidx (.t 14) (.t 15)),oT 17 13 (.mv (.t 1)),oT 18 13 (bT .neq 16 17),oO 19 (pK 13 18 (kB false)),oM 20 19,oT 21 20 (.mv (.t 0)),oT 22 20 (.mv (.t 8)),oT 23 20 (.sidx (.t 21) (.t 22)),oT 24 20 (.mv (.t 2)),oT 25 20 (bT .neq 23 24),oO 26 (pK 20 25 (kB false))]
def q83_3 : LReg := rG [oM 27 8,oO 28 (bK .add 27 1),oM 8 28]
def q83_4 : LReg := ⟨[oM 29 0,oM 30 8,oO 31 (.sslice (.t 29) none (some (.t 30))),oM 32 0,oM 33 8,oO 34 (.sslice (.t 32) (some (.t 33)) none),oM 6 31,oM 7 34],true,[]⟩
def Tryz.l_ref5_until : LCode := (.seq (.reg q83_0) (.seq (.reg q83_1) (.seq (.block 0 (.loop (.seq (.seq (.reg q83_2) (.cond (.t 26) .skip (.exit 0))) (.block 1 (.reg q83_3))))) (.seq (.reg q83_4) .ret))))
theorem Tryz.c_ref5_until : fnComp Tryz.prog 83 = some (35, Tryz.l_ref5_until,[.t 6,.t 7]) := by kernel_rfl
def q60_0 : LReg := rG [oO 2 (.alloc 60 4 [.int .i64 0,.int .i64 0,.int .i64 0,.nils]),oO 3 (mK (kB false))]
def q60_1 : LReg := rG [oO 4 (.alloc 60 4 [.int .i64 0,.int .i64 0,.int .i64 0,.nils])]
def q60_2 : LReg := rG [oM 11 0,oO 12 (.call 83 [(.t 11),(.c (.int .u8 46)),(.c (.int .u8 46))]),oM 10 12,oO 13 (eX 0 10),oO 14 (eX 1 10),oM 5 13,oM 0 14]
def q60_3 : LReg := rG [oM 15 0,oO 16 (.bin .eql (.t 15) (.c (.str [])))]
def q60_4 : LReg := rG [oO 17 (lA 4 4),oX (sT 4 2 17),oO 3 (mK (kB false))]
def q60_5 : LReg := rG [oM 19 0,oO 20 (.sslice (.t 19) (some (kI 1)) none),oO 21 (.call 83 [(.t 20),(.c (.int .u8 46)),(.c (.int .u8 46))]),oM 18 21,oO 22 (eX 0 18),oO 23 (eX 1 18),oM 6 22,oM 0 23]
def q60_6 : LReg := rG [oM 24 0,oO 25 (.bin .eql (.t 24) (.c (.str [])))]
def q60_7 : LReg := rG [oO 26 (lA 4 4),oX (sT 4 2 26),oO 3 (mK (kB false))]
def q60_8 : LReg := rG [oM 28 0,oO 29 (.sslice (.t 28) (some (kI 1)) none),oO 30 (.call 83 [(.t 29),(.c (.int .u8 45)),(.c (.int .u8 46))]),oM 27 30,oO 31 (eX 0 27),oO 32 (eX 1 27),oM 7 31,oM 0 32]
def q60_9 : LReg := rG [oM 33 5,oO 34 (.call 59 [(.t 33),(kI 1000000000)]),oO 35 (fA 0 4),oX (sT 1 35 34)]
def q60_10 : LReg := rG [oM 36 6,oO 37 (.call 59 [(.t 36),(kI 1000000000)]),oO 38 (fA 1 4),oX (sT 1 38 37)]
def q60_11 : LReg := rG [oM 39 7,oO 40 (.call 59 [(.t 39),(kI 1000000000)]),oO 41 (fA 2 4),oX (sT 1 41 40)]
def q60_12 : LReg := rG [oM 42 0,oO 43 (.bin .neq (.t 42) (.c (.str []))),oM 44 43,oT 45 44 (.mv (.t 0)),oT 46 44 (.sidx (.t 45) (kI 0)),oT 47 44 (.bin .eql (.t 46) (.c (.int .u8 46))),oO 48 (pK 44 47 (kB false))]
def q60_13 : LReg := rG [oO 49 (.build [.int .i64 0,.int .i64 0,.int .i64 0,.nils] []),oX (sT 4 2 49),oO 3 (mK (kB false))]
def q60_14 : LReg := rG [oM 50 0,oO 51 (.bin .neq (.t 50) (.c (.str [])))]
def q60_15 : LReg := rG [oM 53 0,oO 54 (.sslice (.t 53) (some (kI 1)) none),oO 55 (.call 83 [(.t 54),(.c (.int .u8 46)),(.c (.int .u8 46))]),oM 52 55,oO 56 (eX 0 52),oO 57 (eX 1 52),oM 8 56,oM 9 57]
def q60_16 : LReg := rG [oO 58 (fA 3 4),oO 59 (lV 1 58),oM 60 8,oO 61 (.mkSlice 9 1 1 [.str []] [(0,(.t 60))]),oO 62 (.append 9 1 16 (.t 59) (.t 61)),oO 63 (fA 3 4),oX (sT 1 63 62)]
def q60_17 : LReg := rG [oM 64 9,oM 0 64]
def q60_18 : LReg := rG [oO 65 (lA 4 4),oO 66 (cA 35 [65]),oO 67 (.field 0 1 false (.t 66)),oO 68 (bK .neq 67 0)]
def q60_19 : LReg := rG [oO 69 (.build [.int .i64 0,.int .i64 0,.int .i64 0,.nils] []),oX (sT 4 2 69),oO 3 (mK (kB false))]
def q60_20 : LReg := rG [oO 70 (lA 4 4),oX (sT 4 2 70),oO 3 (mK (kB true))]
def Tryz.l_ref5_VersionOf : LCode := (.seq (.reg q60_0) (.seq (.reg q60_1) (.seq (.reg q60_2) (.seq (.seq (.reg q60_3) (.cond (.t 16) (.seq (.reg q60_4) .ret) .skip)) (.seq (.reg q60_5) (.seq (.seq (.reg q60_6) (.cond (.t 25) (.seq (.reg q60_7) .ret) .skip)) (.seq (.reg q60_8) (.seq (.reg q60_9) (.seq (.reg q60_10) (.seq (.reg q60_11) (.seq (.seq (.reg q60_12) (.cond (.t 48) (.seq (.reg q60_13) .ret) .skip)) (.seq (.block 0 (.loop (.seq (.seq (.reg q60_14) (.cond (.t 51) .skip (.exit 0))) (.block 1 (.seq (.reg q60_15) (.seq (.reg q60_16) (.reg q60_17))))))) (.seq (.seq (.reg q60_18) (.cond (.t 68) (.seq (.reg q60_19) .ret) .skip)) (.seq (.reg q60_20) .ret))))))))))))))
theorem Tryz.c_ref5_VersionOf : fnComp Tryz.prog 60 = some (71, Tryz.l_ref5_VersionOf,[.cell 2 4 true,.t 3]) := by kernel_rfl
def q29_0 : LReg := rG [oO 2 (mK (.c (.nils))),oO 3 (.alloc 26 2 [.int .i64 0,.int .i64 0])]
def q29_1 : LReg := rG [oM 12 0,oO 13 (lN 12),oO 14 (bK .gtr 13 6)]
def q29_2 : LReg := rG [oO 15 (.call 33 [(kI 2),(kI (-1))]),oO 2 (mK (.c (.nils))),oX (sT 2 3 15)]
def q29_3 : LReg := rG [oO 4 (mK (.c (.nils)))]
def q29_4 : LReg := rG [oO 5 (mK (kI 0))]
def q29_5 : LReg := rG [oM 16 5,oM 17 0,oO 18 (lN 17),oO 19 (bT .lss 16 18)]
def q29_6 : LReg := rG [oM 22 0,oM 23 5,oO 24 (iX 1 22 23),oO 25 (lV 1 24),oO 26 (cA 58 [25]),oM 6 26]
def q29_7 : LReg := rG [oM 27 6,oO 28 (lN 27),oO 29 (bK .neq 28 3)]
def q29_8 : LReg := rG [oM 30 5,oO 31 (.call 33 [(kI 1),(.t 30)]),oO 2 (mK (.c (.nils))),oX (sT 2 3 31)]
def q29_9 : LReg := rG [oM 32 6,oO 33 (.idx 1 (.t 32) (kI 0)),oO 34 (lV 1 33),oO 35 (.call 59 [(.t 34),(kI 1000000000)]),oM 7 35]
def q29_10 : LReg := rG [oM 37 6,oO 38 (.idx 1 (.t 37) (kI 1)),oO 39 (lV 1 38),oO 40 (cA 60 [39]),oM 36 40,oO 41 (eX 0 36),oO 42 (eX 1 36),oO 8 (.alloc 60 4 [.int .i64 0,.int .i64 0,.int .i64 0,.nils]),oX (sT 4 8 41),oM 9 42]
def q29_11 : LReg := rG [oM 43 6,oO 44 (.idx 1 (.t 43) (kI 2)),oO 45 (lV 1 44),oO 46 (.call 59 [(.t 45),(kI 2305843009213693950)]),oM 10 46]
def q29_12 : LReg := rG [oM 47 7,oO 48 (bK .lss 47 0),oM 49 48,oF 50 49 (.mv (.t 9)),oF 51 49 (.un .not (.t 50)),oO 52 (pL 49 (kB true) 51),oM 53 52,oF 54 53 (.mv (.t 10)),oF 55 53 (bK .lss 54 0),oO 56 (pL 53 (kB true) 55)]
def q29_13 : LReg := rG [oM 57 5,oO 58 (.call 33 [(kI 1),(.t 57)]),oO 2 (mK (.c (.nils))),oX (sT 2 3 58)]
def q29_14 : LReg := rG [oM 59 4,oM 60 7,oO 61 (lA 4 8),oM 62 10,oO 63 (.build [.int .i64 0,.int .i64 0,.int .i64 0,.int .i64 0,.nils,.int .i64 0] [(0,1,(.t 60)),(1,4,(.t 61)),(5,1,(.t 62))]),oO 64 (.mkSlice 62 6 1 [.int .i64 0,.int .i64 0,.int .i64 0,.int .i64 0,.nils,.int .i64 0] [(0,(.t 63))]),oO 65 (.append 62 6 64 (.t 59) (.t 64)),oM 4 65]
def q29_15 : LReg := rG [oM 20 5,oO 21 (bK .add 20 1),oM 5 21]
def q29_16 : LReg := rG [oM 66 4,oO 67 (cA 11 [66]),oO 11 (.alloc 26 2 [.int .i64 0,.int .i64 0]),oX (sT 2 11 67)]
def q29_17 : LReg := rG [oO 68 (fA 0 11),oO 69 (lV 1 68),oO 70 (bK .neq 69 0)]
def q29_18 : LReg := ⟨[oO 71 (lA 2 11),oO 2 (mK (.c (.nils))),oX (sT 2 3 71)],true,[]⟩
def q29_19 : LReg := ⟨[oM 72 4,oO 73 (lA 2 11),oM 2 72,oX (sT 2 3 73)],true,[]⟩
def Tryz.l_ref6_LockOf : LCode := (.seq (.reg q29_0) (.seq (.seq (.reg q29_1) (.cond (.t 14) (.seq (.reg q29_2) .ret) .skip)) (.seq (.reg q29_3) (.seq (.seq (.reg q29_4) (.block 0 (.loop (.seq (.seq (.reg q29_5) (.cond (.t 19) .skip (.exit 0))) (.seq (.block 1 (.seq (.reg q29_6) (.seq (.seq (.reg q29_7) (.cond (.t 29) (.seq (.reg q29_8) .ret) .skip)) (.seq (.reg q29_9) (.seq (.reg q29_10) (.seq (.reg q29_11) (.seq (.seq (.reg q29_12) (.cond (.t 56) (.seq (.reg q29_13) .ret) .skip)) (.reg q29_14)))))))) (.reg q29_15)))))) (.seq (.reg q29_16) (.seq (.seq (.reg q29_17) (.cond (.t 70) (.seq (.reg q29_18) .ret) .skip)) (.seq (.reg q29_19) .ret)))))))
theorem Tryz.c_ref6_LockOf : fnComp Tryz.prog 29 = some (74, Tryz.l_ref6_LockOf,[.t 2,.cell 3 2 true]) := by kernel_rfl
def q5_0 : LReg := rG [oO 4 (mK (kB false))]
def q5_1 : LReg := rG [oO 11 (cA 9 []),oO 12 (.un .not (.t 11))]
def q5_2 : LReg := rG [oO 4 (mK (kB false))]
def q5_3 : LReg := rG [oM 13 0,oO 14 (cA 10 [13])]
def q5_4 : LReg := rG [oO 4 (mK (kB true))]
def q5_5 : LReg := rG [oM 15 0,oO 16 (cA 11 [15]),oO 5 (.alloc 26 2 [.int .i64 0,.int .i64 0]),oX (sT 2 5 16)]
def q5_6 : LReg := rG [oM 18 0,oO 19 (cA 25 [18]),oM 17 19,oO 20 (eX 0 17),oO 21 (eX 1 17),oO 7 (.alloc 26 2 [.int .i64 0,.int .i64 0]),oM 6 20,oX (sT 2 7 21)]
def q5_7 : LReg := rG [oO 22 (lA 2 7),oO 23 (lA 2 5),oO 24 (.eqs true [0,0] (.t 22) (.t 23)),oM 25 24,oF 26 25 (fA 0 5),oF 27 25 (lV 1 26),oF 28 25 (bK .neq 27 0),oF 29 25 (.mv (.t 28)),oT 30 29 (.mv (.t 6)),oT 31 29 (lN 30),oT 32 29 (bK .gtr 31 0),oF 33 25 (pK 29 32 (kB false)),oO 34 (pL 25 (kB true) 33),oM 35 34,oF 36 35 (fA 0 5),oF 37 35 (lV 1 36),oF 38 35 (bK .eql 37 0),oF 39 35 (.mv (.t 38)),oT 40 39 (.mv (.t 6)),oT 41 39 (.mv (.t 0)),oT 42 39 (cA 27 [41]),oT 43 39 (cA 26 [40,42]),oT 44 39 (.un .not (.t 43)),oF 45 35 (pK 39 44 (kB false)),oO 46 (pL 35 (kB true) 45)]
def q5_8 : LReg := rG [oO 4 (mK (kB false))]
def q5_9 : LReg := rG [oM 48 1,oO 49 (cA 28 [48]),oM 47 49,oO 50 (eX 0 47),oO 51 (eX 1 47),oO 9 (.alloc 26 2 [.int .i64 0,.int .i64 0]),oM 8 50,oX (sT 2 9 51)]
def q5_10 : LReg := rG [oM 53 1,oO 54 (cA 29 [53]),oM 52 54,oO 55 (eX 0 52),oO 56 (eX 1 52),oM 10 55,oX (sT 2 5 56)]
def q5_11 : LReg := rG [oO 57 (lA 2 9),oO 58 (lA 2 5),oO 59 (.eqs false [0,0] (.t 57) (.t 58)),oM 60 59,oT 61 60 (.mv (.t 8)),oT 62 60 (.mv (.t 10)),oT 63 60 (cA 23 [61,62]),oO 64 (pK 60 63 (kB false)),oM 4 64]
def Tryz.l_law6_LockfileTextMatchesSpec : LCode := (.seq (.reg q5_0) (.seq (.seq (.reg q5_1) (.cond (.t 12) (.seq (.reg q5_2) .ret) .skip)) (.seq (.seq (.reg q5_3) (.cond (.t 14) (.seq (.reg q5_4) .ret) .skip)) (.seq (.reg q5_5) (.seq (.reg q5_6) (.seq (.seq (.reg q5_7) (.cond (.t 46) (.seq (.reg q5_8) .ret) .skip)) (.seq (.reg q5_9) (.seq (.reg q5_10) (.seq (.reg q5_11) .ret)))))))))
theorem Tryz.c_law6_LockfileTextMatchesSpec : fnComp Tryz.prog 5 = some (65, Tryz.l_law6_LockfileTextMatchesSpec,[.t 4]) := by kernel_rfl
def q6_0 : LReg := rG [oO 4 (mK (kB false))]
def q6_1 : LReg := rG [oO 13 (cA 9 []),oO 14 (.un .not (.t 13))]
def q6_2 : LReg := rG [oO 4 (mK (kB false))]
def q6_3 : LReg := rG [oM 15 0,oO 16 (cA 10 [15])]
def q6_4 : LReg := rG [oO 4 (mK (kB true))]
def q6_5 : LReg := rG [oM 18 0,oO 19 (cA 25 [18]),oM 17 19,oO 20 (eX 0 17),oO 21 (eX 1 17),oO 6 (.alloc 26 2 [.int .i64 0,.int .i64 0]),oM 5 20,oX (sT 2 6 21)]
def q6_6 : LReg := rG [oM 23 5,oO 24 (cA 28 [23]),oM 22 24,oO 25 (eX 0 22),oO 26 (eX 1 22),oO 8 (.alloc 26 2 [.int .i64 0,.int .i64 0]),oM 7 25,oX (sT 2 8 26)]
def q6_7 : LReg := rG [oO 27 (fA 0 6),oO 28 (lV 1 27),oO 29 (bK .eql 28 0),oM 30 29,oT 31 30 (fA 0 8),oT 32 30 (lV 1 31),oT 33 30 (bK .neq 32 0),oT 34 30 (.mv (.t 33)),oF 35 34 (.mv (.t 0)),oF 36 34 (.mv (.t 7)),oF 37 34 (cA 23 [35,36]),oF 38 34 (.un .not (.t 37)),oT 39 30 (pL 34 (kB true) 38),oO 40 (pK 30 39 (kB false))]
def q6_8 : LReg := rG [oO 4 (mK (kB false))]
def q6_9 : LReg := rG [oM 42 1,oO 43 (cA 28 [42]),oM 41 43,oO 44 (eX 0 41),oO 45 (eX 1 41),oO 10 (.alloc 26 2 [.int .i64 0,.int .i64 0]),oM 9 44,oX (sT 2 10 45)]
def q6_10 : LReg := rG [oM 47 9,oO 48 (cA 25 [47]),oM 46 48,oO 49 (eX 0 46),oO 50 (eX 1 46),oO 12 (.alloc 26 2 [.int .i64 0,.int .i64 0]),oM 11 49,oX (sT 2 12 50)]
def q6_11 : LReg := rG [oO 51 (fA 0 10),oO 52 (lV 1 51),oO 53 (bK .neq 52 0),oM 54 53,oF 55 54 (fA 0 12),oF 56 54 (lV 1 55),oF 57 54 (bK .eql 56 0),oF 58 54 (.mv (.t 57)),oT 59 58 (.mv (.t 11)),oT 60 58 (.mv (.t 1)),oT 61 58 (cA 26 [59,60]),oF 62 54 (pK 58 61 (kB false)),oO 63 (pL 54 (kB true) 62),oM 4 63]
def Tryz.l_law6_LockfileTextsAreCanonical : LCode := (.seq (.reg q6_0) (.seq (.seq (.reg q6_1) (.cond (.t 14) (.seq (.reg q6_2) .ret) .skip)) (.seq (.seq (.reg q6_3) (.cond (.t 16) (.seq (.reg q6_4) .ret) .skip)) (.seq (.reg q6_5) (.seq (.reg q6_6) (.seq (.seq (.reg q6_7) (.cond (.t 40) (.seq (.reg q6_8) .ret) .skip)) (.seq (.reg q6_9) (.seq (.reg q6_10) (.seq (.reg q6_11) .ret)))))))))
theorem Tryz.c_law6_LockfileTextsAreCanonical : fnComp Tryz.prog 6 = some (64, Tryz.l_law6_LockfileTextsAreCanonical,[.t 4]) := by kernel_rfl
end Go.Proofs.YtpcmhhbocifbcaaGreatDoor
