/- The code of the functions, as the evaluator reads it. Laid by a program (wip/gen/dec.py). -/
import Derived.Test.YtlkknmhhefjmjaaGreatDoorProg
import Derived.Test.YtlkknmhhefjmjaaGreatDoorPwFam
import Derived.Test.YtlkknmhhefjmjaaGreatDoorPwAuto
namespace Go.Proofs.YtlkknmhhefjmjaaGreatDoor
open Go.PW Go
theorem hm : Tryz.prog.follows .mixedOrders = true := by kernel_rfl
instance : Hm Tryz.prog := ⟨hm⟩
def q185_0 : LReg := rG [oO 4 (mK (kB false))]
def q185_1 : LReg := rG [oM 5 0,oO 6 (sN 5),oM 7 1,oO 8 (sN 7),oO 9 (bT .geq 6 8),oM 10 9,oT 11 10 (.mv (.t 0)),oT 12 10 (.mv (.t 1)),oT 13 10 (sN 12),oT 14 10 (.sslice (.t 11) none (some (.t 13))),oT 15 10 (.mv (.t 1)),oT 16 10 (bT .eql 14 15),oO 17 (pK 10 16 (kB false)),oM 4 17]
def Tryz.l_internal_stringslite_HasPrefix : LCode := (.seq (.reg q185_0) (.seq (.reg q185_1) .ret))
theorem Tryz.c_internal_stringslite_HasPrefix : fnComp Tryz.prog 185 = some (18, Tryz.l_internal_stringslite_HasPrefix,[.t 4]) := by kernel_rfl
def q172_0 : LReg := rG [oO 4 (mK (kB false))]
def q172_1 : LReg := rG [oM 5 0,oM 6 1,oO 7 (cA 185 [5,6]),oM 4 7]
def Tryz.l_strings_HasPrefix : LCode := (.seq (.reg q172_0) (.seq (.reg q172_1) .ret))
theorem Tryz.c_strings_HasPrefix : fnComp Tryz.prog 172 = some (8, Tryz.l_strings_HasPrefix,[.t 4]) := by kernel_rfl
def q149_0 : LReg := rG [oO 4 (mK (kB false))]
def q149_1 : LReg := rG [oM 5 0,oM 6 1,oO 7 (bT .eql 5 6),oM 8 7,oF 9 8 (.mv (.t 0)),oF 10 8 (.mv (.t 1)),oF 11 8 (.bin .add (.t 10) (.c (.str [47]))),oF 12 8 (cA 172 [9,11]),oO 13 (pL 8 (kB true) 12),oM 14 13,oF 15 14 (.mv (.t 1)),oF 16 14 (.mv (.t 0)),oF 17 14 (.bin .add (.t 16) (.c (.str [47]))),oF 18 14 (cA 172 [15,17]),oO 19 (pL 14 (kB true) 18),oM 4 19]
def Tryz.l_treepatch_Related : LCode := (.seq (.reg q149_0) (.seq (.reg q149_1) .ret))
theorem Tryz.c_treepatch_Related : fnComp Tryz.prog 149 = some (20, Tryz.l_treepatch_Related,[.t 4]) := by kernel_rfl
def q112_0 : LReg := rG [oO 6 (mK (kB false))]
def q112_1 : LReg := rG [oM 9 0,oO 10 (lN 9),oO 11 (mK (kI 0))]
def q112_2 : LReg := rG [oO 12 (bT .lss 11 10)]
def q112_3 : LReg := rG [oM 13 11,oO 14 (iX 2 9 11),oO 15 (lA 2 14),oO 8 (.alloc 37 2 [.str [],.nils]),oM 7 13,oX (sT 2 8 15)]
def q112_4 : LReg := rG [oM 16 7,oM 17 2,oO 18 (bT .neq 16 17),oM 19 18,oT 20 19 (fA 0 8),oT 21 19 (lV 1 20),oT 22 19 (.mv (.t 1)),oT 23 19 (cA 149 [21,22]),oO 24 (pK 19 23 (kB false))]
def q112_5 : LReg := rG [oO 6 (mK (kB true))]
def q112_6 : LReg := rG [oO 25 (bK .add 11 1),oM 11 25]
def q112_7 : LReg := rG [oO 6 (mK (kB false))]
def Tryz.l_treepatch_Clash : LCode := (.seq (.reg q112_0) (.seq (.seq (.reg q112_1) (.block 0 (.loop (.seq (.reg q112_2) (.seq (.cond (.t 12) .skip (.exit 0)) (.seq (.block 1 (.seq (.reg q112_3) (.seq (.reg q112_4) (.cond (.t 24) (.seq (.reg q112_5) .ret) .skip)))) (.reg q112_6))))))) (.seq (.reg q112_7) .ret)))
theorem Tryz.c_treepatch_Clash : fnComp Tryz.prog 112 = some (26, Tryz.l_treepatch_Clash,[.t 6]) := by kernel_rfl
def q156_0 : LReg := rG [oO 2 (.alloc 31 2 [.int .i64 0,.int .i64 0])]
def q156_1 : LReg := rG [oM 5 0,oO 6 (lN 5),oO 7 (bK .gtr 6 120)]
def q156_2 : LReg := rG [oO 8 (.build [.int .i64 0,.int .i64 0] [(0,1,(kI 2)),(1,1,(kI (-1)))]),oX (sT 2 2 8)]
def q156_3 : LReg := rG [oM 9 0,oO 10 (lN 9),oO 11 (mK (kI 0))]
def q156_4 : LReg := rG [oO 12 (bT .lss 11 10)]
def q156_5 : LReg := rG [oM 13 11,oO 14 (iX 1 9 11),oO 15 (lV 1 14),oM 3 13,oM 4 15]
def q156_6 : LReg := rG [oM 16 4,oO 17 (sN 16),oO 18 (bK .gtr 17 80)]
def q156_7 : LReg := rG [oM 19 3,oO 20 (.build [.int .i64 0,.int .i64 0] [(0,1,(kI 2)),(1,1,(.t 19))]),oX (sT 2 2 20)]
def q156_8 : LReg := rG [oM 21 4,oO 22 (.call 177 [(.t 21),(.c (.int .u8 10))]),oO 23 (bK .geq 22 0)]
def q156_9 : LReg := rG [oM 24 3,oO 25 (.build [.int .i64 0,.int .i64 0] [(0,1,(kI 5)),(1,1,(.t 24))]),oX (sT 2 2 25)]
def q156_10 : LReg := rG [oO 26 (bK .add 11 1),oM 11 26]
def q156_11 : LReg := rG [oO 27 (.build [.int .i64 0,.int .i64 0] []),oX (sT 2 2 27)]
def Tryz.l_lines_Validate : LCode := (.seq (.reg q156_0) (.seq (.seq (.reg q156_1) (.cond (.t 7) (.seq (.reg q156_2) .ret) .skip)) (.seq (.seq (.reg q156_3) (.block 0 (.loop (.seq (.reg q156_4) (.seq (.cond (.t 12) .skip (.exit 0)) (.seq (.block 1 (.seq (.reg q156_5) (.seq (.seq (.reg q156_6) (.cond (.t 18) (.seq (.reg q156_7) .ret) .skip)) (.seq (.reg q156_8) (.cond (.t 23) (.seq (.reg q156_9) .ret) .skip))))) (.reg q156_10))))))) (.seq (.reg q156_11) .ret))))
theorem Tryz.c_lines_Validate : fnComp Tryz.prog 156 = some (28, Tryz.l_lines_Validate,[.cell 2 2 true]) := by kernel_rfl
def q122_0 : LReg := rG [oO 4 (.alloc 31 2 [.int .i64 0,.int .i64 0])]
def q122_1 : LReg := rG [oM 6 0,oO 7 (cA 156 [6]),oO 5 (.alloc 31 2 [.int .i64 0,.int .i64 0]),oX (sT 2 5 7)]
def q122_2 : LReg := rG [oO 8 (lA 2 5),oO 9 (.build [.int .i64 0,.int .i64 0] []),oO 10 (.eqs true [0,0] (.t 8) (.t 9))]
def q122_3 : LReg := rG [oO 11 (fA 0 5),oO 12 (lV 1 11),oM 13 1,oO 14 (.build [.int .i64 0,.int .i64 0] [(0,1,(.t 12)),(1,1,(.t 13))]),oX (sT 2 4 14)]
def q122_4 : LReg := rG [oO 15 (.build [.int .i64 0,.int .i64 0] []),oX (sT 2 4 15)]
def Tryz.l_lines_Second : LCode := (.seq (.reg q122_0) (.seq (.seq (.reg q122_1) (.seq (.reg q122_2) (.cond (.t 10) (.seq (.reg q122_3) .ret) .skip))) (.seq (.reg q122_4) .ret)))
theorem Tryz.c_lines_Second : fnComp Tryz.prog 122 = some (16, Tryz.l_lines_Second,[.cell 4 2 true]) := by kernel_rfl
def q108_0 : LReg := rG [oO 1 (.box 25 1 (.t 0)),oO 2 (.alloc 31 2 [.int .i64 0,.int .i64 0])]
def q108_1 : LReg := rG [oO 6 (fA 0 1),oO 7 (lV 1 6),oO 8 (lN 7),oO 9 (bK .gtr 8 24)]
def q108_2 : LReg := rG [oO 10 (.build [.int .i64 0,.int .i64 0] [(0,1,(kI 2)),(1,1,(kI (-1)))]),oX (sT 2 2 10)]
def q108_3 : LReg := rG [oO 11 (fA 0 1),oO 12 (lV 1 11),oO 13 (lN 12),oO 14 (mK (kI 0))]
def q108_4 : LReg := rG [oO 15 (bT .lss 14 13)]
def q108_5 : LReg := rG [oM 16 14,oO 17 (iX 2 12 14),oO 18 (lA 2 17),oO 4 (.alloc 37 2 [.str [],.nils]),oM 3 16,oX (sT 2 4 18)]
def q108_6 : LReg := rG [oO 20 (fA 0 4),oO 21 (lV 1 20),oO 22 (cA 115 [21]),oO 23 (.un .not (.t 22)),oM 19 23]
def q108_7 : LReg := rG [oM 24 3,oO 25 (.build [.int .i64 0,.int .i64 0] [(0,1,(kI 12)),(1,1,(.t 24))]),oX (sT 2 2 25)]
def q108_8 : LReg := ⟨[oM 27 3,oO 28 (bK .gtr 27 0),oM 29 28,oT 30 29 (fA 0 4),oT 31 29 (lV 1 30),oT 32 29 (fA 0 1),oT 33 29 (lV 1 32),oT 34 29 (.mv (.t 3)),oT 35 29 (bK .sub 34 1),oT 36 29 (iX 2 33 35),oT 37 29 (fA 0 36),oT 38 29 (lV 1 37),oT 39 29 (bT .leq 31 38),oO 40 (pK 29 39 (kB false)),oM 26 40],true,[(3,5),(4,5),(3,6),(4,6),(3,9),(4,9),(3,10),(4,10),(3,11),(4,11)]⟩
def q108_9 : LReg := rG [oM 41 3,oO 42 (.build [.int .i64 0,.int .i64 0] [(0,1,(kI 5)),(1,1,(.t 41))]),oX (sT 2 2 42)]
def q108_10 : LReg := ⟨[oO 44 (fA 0 1),oO 45 (lV 1 44),oM 46 3,oO 47 (.slice 2 (.t 45) none (some (.t 46))),oO 48 (fA 0 4),oO 49 (lV 1 48),oO 50 (.call 112 [(.t 47),(.t 49),(kI (-1))]),oM 43 50],true,[(0,4),(1,4),(3,4),(0,5),(1,5),(3,5)]⟩
def q108_11 : LReg := rG [oM 51 3,oO 52 (.build [.int .i64 0,.int .i64 0] [(0,1,(kI 7)),(1,1,(.t 51))]),oX (sT 2 2 52)]
def q108_12 : LReg := rG [oO 53 (fA 1 4),oO 54 (lV 1 53),oM 55 3,oO 56 (cA 122 [54,55]),oO 5 (.alloc 31 2 [.int .i64 0,.int .i64 0]),oX (sT 2 5 56)]
def q108_13 : LReg := rG [oO 57 (lA 2 5),oO 58 (.build [.int .i64 0,.int .i64 0] []),oO 59 (.eqs true [0,0] (.t 57) (.t 58))]
def q108_14 : LReg := rG [oO 60 (lA 2 5),oX (sT 2 2 60)]
def q108_15 : LReg := rG [oO 61 (bK .add 14 1),oM 14 61]
def q108_16 : LReg := rG [oO 62 (.build [.int .i64 0,.int .i64 0] []),oX (sT 2 2 62)]
def Tryz.l_treepatch_Validate : LCode := (.seq (.reg q108_0) (.seq (.seq (.reg q108_1) (.cond (.t 9) (.seq (.reg q108_2) .ret) .skip)) (.seq (.seq (.reg q108_3) (.block 0 (.loop (.seq (.reg q108_4) (.seq (.cond (.t 15) .skip (.exit 0)) (.seq (.block 1 (.seq (.reg q108_5) (.seq (.block 2 (.seq (.reg q108_6) (.cond (.t 19) (.seq (.reg q108_7) .ret) (.seq (.reg q108_8) (.cond (.t 26) (.seq (.reg q108_9) .ret) (.seq (.reg q108_10) (.cond (.t 43) (.seq (.reg q108_11) .ret) .skip))))))) (.seq (.reg q108_12) (.seq (.reg q108_13) (.cond (.t 59) (.seq (.reg q108_14) .ret) .skip)))))) (.reg q108_15))))))) (.seq (.reg q108_16) .ret))))
theorem Tryz.c_treepatch_Validate : fnComp Tryz.prog 108 = some (63, Tryz.l_treepatch_Validate,[.cell 2 2 true]) := by kernel_rfl
def q55_0 : LReg := rG [oO 2 (.box 25 1 (.t 0)),oO 4 (.alloc 31 2 [.int .i64 0,.int .i64 0])]
def q55_1 : LReg := rG [oO 6 (lA 1 2),oO 7 (cA 108 [6]),oO 5 (.alloc 31 2 [.int .i64 0,.int .i64 0]),oX (sT 2 5 7)]
def q55_2 : LReg := rG [oO 8 (lA 2 5),oO 9 (.build [.int .i64 0,.int .i64 0] []),oO 10 (.eqs true [0,0] (.t 8) (.t 9))]
def q55_3 : LReg := rG [oO 11 (fA 0 5),oO 12 (lV 1 11),oM 13 1,oO 14 (.build [.int .i64 0,.int .i64 0] [(0,1,(.t 12)),(1,1,(.t 13))]),oX (sT 2 4 14)]
def q55_4 : LReg := rG [oO 15 (.build [.int .i64 0,.int .i64 0] []),oX (sT 2 4 15)]
def Tryz.l_treepatch_Second : LCode := (.seq (.reg q55_0) (.seq (.seq (.reg q55_1) (.seq (.reg q55_2) (.cond (.t 10) (.seq (.reg q55_3) .ret) .skip))) (.seq (.reg q55_4) .ret)))
theorem Tryz.c_treepatch_Second : fnComp Tryz.prog 55 = some (16, Tryz.l_treepatch_Second,[.cell 4 2 true]) := by kernel_rfl
def q59_0 : LReg := rG [oO 4 (.alloc 31 2 [.int .i64 0,.int .i64 0])]
def q59_1 : LReg := rG [oM 6 0,oO 7 (bK .gtr 6 24)]
def q59_2 : LReg := rG [oO 8 (.build [.int .i64 0,.int .i64 0] [(0,1,(kI 2)),(1,1,(kI (-1)))]),oX (sT 2 4 8)]
def q59_3 : LReg := rG [oM 9 0,oO 10 (mK (kI 0))]
def q59_4 : LReg := rG [oO 11 (bT .lss 10 9)]
def q59_5 : LReg := rG [oM 12 10,oM 5 12]
def q59_6 : LReg := rG [oM 13 1,oM 14 5,oO 15 (.callv (.t 13) [(.t 14)]),oO 16 (cA 115 [15]),oO 17 (.un .not (.t 16))]
def q59_7 : LReg := rG [oM 18 5,oO 19 (.build [.int .i64 0,.int .i64 0] [(0,1,(kI 12)),(1,1,(.t 18))]),oX (sT 2 4 19)]
def q59_8 : LReg := rG [oM 20 5,oO 21 (bK .gtr 20 0),oM 22 21,oT 23 22 (.mv (.t 1)),oT 24 22 (.mv (.t 5)),oT 25 22 (.callv (.t 23) [(.t 24)]),oT 26 22 (.mv (.t 1)),oT 27 22 (.mv (.t 5)),oT 28 22 (bK .sub 27 1),oT 29 22 (.callv (.t 26) [(.t 28)]),oT 30 22 (bT .leq 25 29),oO 31 (pK 22 30 (kB false))]
def q59_9 : LReg := rG [oM 32 5,oO 33 (.build [.int .i64 0,.int .i64 0] [(0,1,(kI 5)),(1,1,(.t 32))]),oX (sT 2 4 33)]
def q59_10 : LReg := rG [oO 34 (bK .add 10 1),oM 10 34]
def q59_11 : LReg := rG [oO 35 (.build [.int .i64 0,.int .i64 0] []),oX (sT 2 4 35)]
def Tryz.l_bom_checkPaths : LCode := (.seq (.reg q59_0) (.seq (.seq (.reg q59_1) (.cond (.t 7) (.seq (.reg q59_2) .ret) .skip)) (.seq (.seq (.reg q59_3) (.block 0 (.loop (.seq (.reg q59_4) (.seq (.cond (.t 11) .skip (.exit 0)) (.seq (.block 1 (.seq (.reg q59_5) (.seq (.seq (.reg q59_6) (.cond (.t 17) (.seq (.reg q59_7) .ret) .skip)) (.seq (.reg q59_8) (.cond (.t 31) (.seq (.reg q59_9) .ret) .skip))))) (.reg q59_10))))))) (.seq (.reg q59_11) .ret))))
theorem Tryz.c_bom_checkPaths : fnComp Tryz.prog 59 = some (36, Tryz.l_bom_checkPaths,[.cell 4 2 true]) := by kernel_rfl
theorem Tryz.b_bom_Make_1 : bodied Tryz.prog 60 = true := by kernel_rfl
def q60_0 : LReg := rG [oO 3 (mK (.c (.str [])))]
def q60_1 : LReg := rG [oO 4 (lV 1 1),oM 5 0,oO 6 (iX 1 4 5),oO 7 (lV 1 6),oM 3 7]
def Tryz.l_bom_Make_1 : LCode := (.seq (.reg q60_0) (.seq (.reg q60_1) .ret))
theorem Tryz.c_bom_Make_1 : fnComp Tryz.prog 60 = some (8, Tryz.l_bom_Make_1,[.t 3]) := by kernel_rfl
def q153_0 : LReg := rG [oO 4 (mK (kI 0))]
def q153_1 : LReg := rG [oO 5 (mK (kI 0))]
def q153_2 : LReg := rG [oM 6 1,oO 7 (bK .gtr 6 0)]
def q153_3 : LReg := rG [oM 10 1,oO 11 (bK .and 10 1),oO 12 (bK .eql 11 1)]
def q153_4 : LReg := rG [oM 13 5,oM 14 0,oO 15 (bT .add 13 14),oO 16 (bK .rem 15 2305843009213693951),oM 5 16]
def q153_5 : LReg := rG [oM 17 0,oO 18 (.bin .mul (kI 2) (.t 17)),oO 19 (bK .rem 18 2305843009213693951),oM 0 19]
def q153_6 : LReg := rG [oM 8 1,oO 9 (.bin .shr (.t 8) (.c (.int .u64 1))),oM 1 9]
def q153_7 : LReg := rG [oM 20 5,oM 4 20]
def Tryz.l_digest_mul : LCode := (.seq (.reg q153_0) (.seq (.reg q153_1) (.seq (.block 0 (.loop (.seq (.seq (.reg q153_2) (.cond (.t 7) .skip (.exit 0))) (.seq (.block 1 (.seq (.seq (.reg q153_3) (.cond (.t 12) (.reg q153_4) .skip)) (.reg q153_5))) (.reg q153_6))))) (.seq (.reg q153_7) .ret))))
theorem Tryz.c_digest_mul : fnComp Tryz.prog 153 = some (21, Tryz.l_digest_mul,[.t 4]) := by kernel_rfl
def q117_0 : LReg := rG [oO 2 (.box 149 2 (.t 0)),oO 4 (mK (kI 0))]
def q117_1 : LReg := ⟨[oO 5 (.idxA 2 1 (.t 2) (kI 0)),oO 6 (lV 1 5),oM 7 1,oO 8 (cA 153 [6,7]),oO 9 (.idxA 2 1 (.t 2) (kI 1)),oO 10 (lV 1 9),oO 11 (bT .add 8 10),oO 12 (bK .rem 11 2305843009213693951),oM 4 12],true,[(0,4),(1,4),(3,4),(0,5),(1,5),(3,5)]⟩
def Tryz.l_digest_next : LCode := (.seq (.reg q117_0) (.seq (.reg q117_1) .ret))
theorem Tryz.c_digest_next : fnComp Tryz.prog 117 = some (13, Tryz.l_digest_next,[.t 4]) := by kernel_rfl
def q65_0 : LReg := rG [oO 2 (mK (kI 0)),oO 3 (.alloc 31 2 [.int .i64 0,.int .i64 0])]
def q65_1 : LReg := rG [oM 7 0,oO 8 (lN 7),oO 9 (bK .gtr 8 4096)]
def q65_2 : LReg := rG [oO 10 (.build [.int .i64 0,.int .i64 0] [(0,1,(kI 2))]),oO 2 (mK (kI 0)),oX (sT 2 3 10)]
def q65_3 : LReg := rG [oO 4 (mK (kI 1))]
def q65_4 : LReg := rG [oM 11 0,oO 12 (lN 11),oO 13 (mK (kI 0))]
def q65_5 : LReg := rG [oO 14 (bT .lss 13 12)]
def q65_6 : LReg := rG [oO 15 (iX 1 11 13),oO 16 (lV 1 15),oM 6 16]
def q65_7 : LReg := rG [oM 17 4,oM 18 6,oO 19 (.conv .i64 (.t 18)),oO 20 (bK .add 19 1),oO 21 (.build [.int .i64 0,.int .i64 0] [(0,1,(.t 17)),(1,1,(.t 20))]),oO 22 (.call 117 [(.t 21),(kI 257)]),oM 4 22]
def q65_8 : LReg := rG [oO 23 (bK .add 13 1),oM 13 23]
def q65_9 : LReg := rG [oM 24 4,oO 25 (.build [.int .i64 0,.int .i64 0] []),oM 2 24,oX (sT 2 3 25)]
def Tryz.l_digest_Of : LCode := (.seq (.reg q65_0) (.seq (.seq (.reg q65_1) (.cond (.t 9) (.seq (.reg q65_2) .ret) .skip)) (.seq (.reg q65_3) (.seq (.seq (.reg q65_4) (.block 0 (.loop (.seq (.reg q65_5) (.seq (.cond (.t 14) .skip (.exit 0)) (.seq (.block 1 (.seq (.reg q65_6) (.reg q65_7))) (.reg q65_8))))))) (.seq (.reg q65_9) .ret)))))
theorem Tryz.c_digest_Of : fnComp Tryz.prog 65 = some (26, Tryz.l_digest_Of,[.t 2,.cell 3 2 true]) := by kernel_rfl
def q75_0 : LReg := rG [oO 4 (mK (kI 0))]
def q75_1 : LReg := rG [oM 5 0,oM 6 1,oO 7 (.build [.int .i64 0,.int .i64 0] [(0,1,(.t 6)),(1,1,(kI 7))]),oO 8 (.call 117 [(.t 7),(kI 31)]),oO 9 (.build [.int .i64 0,.int .i64 0] [(0,1,(.t 5)),(1,1,(.t 8))]),oO 10 (.call 117 [(.t 9),(kI 1000003)]),oM 4 10]
def Tryz.l_digest_pair : LCode := (.seq (.reg q75_0) (.seq (.reg q75_1) .ret))
theorem Tryz.c_digest_pair : fnComp Tryz.prog 75 = some (11, Tryz.l_digest_pair,[.t 4]) := by kernel_rfl
def q26_0 : LReg := rG [oO 2 (mK (kI 0)),oO 3 (.alloc 31 2 [.int .i64 0,.int .i64 0])]
def q26_1 : LReg := rG [oM 9 0,oO 10 (lN 9),oO 11 (bK .gtr 10 120)]
def q26_2 : LReg := rG [oO 12 (.build [.int .i64 0,.int .i64 0] [(0,1,(kI 2)),(1,1,(kI (-1)))]),oO 2 (mK (kI 0)),oX (sT 2 3 12)]
def q26_3 : LReg := rG [oO 4 (mK (kI 2))]
def q26_4 : LReg := rG [oM 13 0,oO 14 (lN 13),oO 15 (mK (kI 0))]
def q26_5 : LReg := rG [oO 16 (bT .lss 15 14)]
def q26_6 : LReg := rG [oM 17 15,oO 18 (iX 1 13 15),oO 19 (lV 1 18),oM 5 17,oM 6 19]
def q26_7 : LReg := rG [oM 21 6,oO 22 (.toBytes 5 (.t 21)),oO 23 (cA 65 [22]),oM 20 23,oO 24 (eX 0 20),oO 25 (eX 1 20),oO 8 (.alloc 31 2 [.int .i64 0,.int .i64 0]),oM 7 24,oX (sT 2 8 25)]
def q26_8 : LReg := rG [oO 26 (lA 2 8),oO 27 (.build [.int .i64 0,.int .i64 0] []),oO 28 (.eqs true [0,0] (.t 26) (.t 27))]
def q26_9 : LReg := ⟨[oO 29 (fA 0 8),oO 30 (lV 1 29),oM 31 5,oO 32 (.build [.int .i64 0,.int .i64 0] [(0,1,(.t 30)),(1,1,(.t 31))]),oO 2 (mK (kI 0)),oX (sT 2 3 32)],true,[]⟩
def q26_10 : LReg := rG [oM 33 4,oM 34 7,oO 35 (cA 75 [33,34]),oM 4 35]
def q26_11 : LReg := rG [oO 36 (bK .add 15 1),oM 15 36]
def q26_12 : LReg := rG [oM 37 4,oO 38 (.build [.int .i64 0,.int .i64 0] []),oM 2 37,oX (sT 2 3 38)]
def Tryz.l_digest_Strings : LCode := (.seq (.reg q26_0) (.seq (.seq (.reg q26_1) (.cond (.t 11) (.seq (.reg q26_2) .ret) .skip)) (.seq (.reg q26_3) (.seq (.seq (.reg q26_4) (.block 0 (.loop (.seq (.reg q26_5) (.seq (.cond (.t 16) .skip (.exit 0)) (.seq (.block 1 (.seq (.reg q26_6) (.seq (.reg q26_7) (.seq (.seq (.reg q26_8) (.cond (.t 28) (.seq (.reg q26_9) .ret) .skip)) (.reg q26_10))))) (.reg q26_11))))))) (.seq (.reg q26_12) .ret)))))
theorem Tryz.c_digest_Strings : fnComp Tryz.prog 26 = some (39, Tryz.l_digest_Strings,[.t 2,.cell 3 2 true]) := by kernel_rfl
def q118_0 : LReg := rG [oO 6 (mK (kI 0)),oO 7 (mK (kB false))]
def q118_1 : LReg := rG [oM 12 0,oO 13 (lN 12),oM 8 13]
def q118_2 : LReg := rG [oM 14 8,oO 9 (mK (kI 0)),oM 10 14]
def q118_3 : LReg := rG [oM 15 9,oM 16 10,oO 17 (bT .lss 15 16)]
def q118_4 : LReg := rG [oM 18 9,oM 19 10,oO 20 (bT .add 18 19),oO 21 (.conv .u64 (.t 20)),oO 22 (.bin .shr (.t 21) (.c (.int .u64 1))),oO 23 (.conv .i64 (.t 22)),oM 11 23]
def q118_5 : LReg := rG [oM 24 2,oM 25 0,oM 26 11,oO 27 (iX 2 25 26),oO 28 (lA 2 27),oM 29 1,oO 30 (.callv (.t 24) [(.t 28),(.t 29)]),oO 31 (bK .lss 30 0)]
def q118_6 : LReg := rG [oM 32 11,oO 33 (bK .add 32 1),oM 9 33]
def q118_7 : LReg := rG [oM 34 11,oM 10 34]
def q118_8 : LReg := rG [oM 35 9,oM 36 9,oM 37 8,oO 38 (bT .lss 36 37),oM 39 38,oT 40 39 (.mv (.t 2)),oT 41 39 (.mv (.t 0)),oT 42 39 (.mv (.t 9)),oT 43 39 (iX 2 41 42),oT 44 39 (lA 2 43),oT 45 39 (.mv (.t 1)),oT 46 39 (.callv (.t 40) [(.t 44),(.t 45)]),oT 47 39 (bK .eql 46 0),oO 48 (pK 39 47 (kB false)),oM 6 35,oM 7 48]
def Tryz.l_slices_BinarySearchFunc_api_File_api_File_string : LCode := (.seq (.reg q118_0) (.seq (.reg q118_1) (.seq (.reg q118_2) (.seq (.block 0 (.loop (.seq (.seq (.reg q118_3) (.cond (.t 17) .skip (.exit 0))) (.block 1 (.seq (.reg q118_4) (.seq (.reg q118_5) (.cond (.t 31) (.reg q118_6) (.reg q118_7)))))))) (.seq (.reg q118_8) .ret)))))
theorem Tryz.c_slices_BinarySearchFunc_api_File_api_File_string : fnComp Tryz.prog 118 = some (49, Tryz.l_slices_BinarySearchFunc_api_File_api_File_string,[.t 6,.t 7]) := by kernel_rfl
theorem Tryz.b_treepatch_Find_1 : bodied Tryz.prog 119 = true := by kernel_rfl
def q119_0 : LReg := rG [oO 2 (.box 37 2 (.t 0)),oO 4 (mK (kI 0))]
def q119_1 : LReg := rG [oO 5 (fA 0 2),oO 6 (lV 1 5),oM 7 1,oO 8 (cA 120 [6,7]),oM 4 8]
def Tryz.l_treepatch_Find_1 : LCode := (.seq (.reg q119_0) (.seq (.reg q119_1) .ret))
theorem Tryz.c_treepatch_Find_1 : fnComp Tryz.prog 119 = some (9, Tryz.l_treepatch_Find_1,[.t 4]) := by kernel_rfl
def q66_0 : LReg := rG [oO 4 (mK (kI 0)),oO 5 (mK (kB false))]
def q66_1 : LReg := rG [oM 6 0,oM 7 1,oO 8 (.call 118 [(.t 6),(.t 7),(.c (.fn 119 [] []))]),oO 9 (eX 0 8),oO 10 (eX 1 8),oM 4 9,oM 5 10]
def Tryz.l_treepatch_Find : LCode := (.seq (.reg q66_0) (.seq (.reg q66_1) .ret))
theorem Tryz.c_treepatch_Find : fnComp Tryz.prog 66 = some (11, Tryz.l_treepatch_Find,[.t 4,.t 5]) := by kernel_rfl
def q61_0 : LReg := rG [oO 2 (.box 25 1 (.t 0)),oO 4 (mK (kI 0))]
def q61_1 : LReg := rG [oO 10 (fA 0 2),oO 11 (lV 1 10),oM 12 1,oO 13 (cA 66 [11,12]),oM 9 13,oO 14 (eX 0 9),oO 15 (eX 1 9),oM 5 14,oM 6 15]
def q61_2 : LReg := rG [oM 16 6,oO 17 (.un .not (.t 16))]
def q61_3 : LReg := rG [oO 4 (mK (kI (-1)))]
def q61_4 : LReg := rG [oO 19 (fA 0 2),oO 20 (lV 1 19),oM 21 5,oO 22 (iX 2 20 21),oO 23 (fA 1 22),oO 24 (lV 1 23),oO 25 (cA 26 [24]),oM 18 25,oO 26 (eX 0 18),oO 27 (eX 1 18),oO 8 (.alloc 31 2 [.int .i64 0,.int .i64 0]),oM 7 26,oX (sT 2 8 27)]
def q61_5 : LReg := rG [oM 28 7,oM 4 28]
def Tryz.l_bom_describe : LCode := (.seq (.reg q61_0) (.seq (.reg q61_1) (.seq (.seq (.reg q61_2) (.cond (.t 17) (.seq (.reg q61_3) .ret) .skip)) (.seq (.reg q61_4) (.seq (.reg q61_5) .ret)))))
theorem Tryz.c_bom_describe : fnComp Tryz.prog 61 = some (29, Tryz.l_bom_describe,[.t 4]) := by kernel_rfl
def q16_0 : LReg := rG [oO 2 (.box 34 1 (.t 0)),oO 3 (.box 25 1 (.t 1)),oO 4 (mK (.c (.nils))),oO 5 (.alloc 31 2 [.int .i64 0,.int .i64 0])]
def q16_1 : LReg := rG [oO 11 (lV 1 2),oO 12 (lN 11),oO 13 (.mkfn 60 [] [(.t 2)]),oO 14 (cA 59 [12,13]),oO 6 (.alloc 31 2 [.int .i64 0,.int .i64 0]),oX (sT 2 6 14)]
def q16_2 : LReg := rG [oO 15 (lA 2 6),oO 16 (.build [.int .i64 0,.int .i64 0] []),oO 17 (.eqs true [0,0] (.t 15) (.t 16))]
def q16_3 : LReg := ⟨[oO 18 (lA 2 6),oO 4 (mK (.c (.nils))),oX (sT 2 5 18)],true,[]⟩
def q16_4 : LReg := rG [oO 19 (lA 1 3),oO 20 (.call 55 [(.t 19),(kI (-2))]),oO 7 (.alloc 31 2 [.int .i64 0,.int .i64 0]),oX (sT 2 7 20)]
def q16_5 : LReg := rG [oO 21 (lA 2 7),oO 22 (.build [.int .i64 0,.int .i64 0] []),oO 23 (.eqs true [0,0] (.t 21) (.t 22))]
def q16_6 : LReg := ⟨[oO 24 (lA 2 7),oO 4 (mK (.c (.nils))),oX (sT 2 5 24)],true,[]⟩
def q16_7 : LReg := rG [oO 8 (mK (.c (.nils)))]
def q16_8 : LReg := rG [oO 25 (lV 1 2),oO 26 (lN 25),oO 27 (mK (kI 0))]
def q16_9 : LReg := rG [oO 28 (bT .lss 27 26)]
def q16_10 : LReg := rG [oO 29 (iX 1 25 27),oO 30 (lV 1 29),oM 10 30]
def q16_11 : LReg := rG [oM 31 8,oM 32 10,oO 33 (lA 1 3),oM 34 10,oO 35 (cA 61 [33,34]),oO 36 (.build [.str [],.int .i64 0] [(0,1,(.t 32)),(1,1,(.t 35))]),oO 37 (.mkSlice 46 2 1 [.str [],.int .i64 0] [(0,(.t 36))]),oO 38 (.append 46 2 24 (.t 31) (.t 37)),oM 8 38]
def q16_12 : LReg := rG [oO 39 (bK .add 27 1),oM 27 39]
def q16_13 : LReg := rG [oM 40 8,oO 41 (.build [.int .i64 0,.int .i64 0] []),oM 4 40,oX (sT 2 5 41)]
def Tryz.l_bom_Make : LCode := (.seq (.reg q16_0) (.seq (.seq (.reg q16_1) (.seq (.reg q16_2) (.cond (.t 17) (.seq (.reg q16_3) .ret) .skip))) (.seq (.seq (.reg q16_4) (.seq (.reg q16_5) (.cond (.t 23) (.seq (.reg q16_6) .ret) .skip))) (.seq (.reg q16_7) (.seq (.seq (.reg q16_8) (.block 0 (.loop (.seq (.reg q16_9) (.seq (.cond (.t 28) .skip (.exit 0)) (.seq (.block 1 (.seq (.reg q16_10) (.reg q16_11))) (.reg q16_12))))))) (.seq (.reg q16_13) .ret))))))
theorem Tryz.c_bom_Make : fnComp Tryz.prog 16 = some (42, Tryz.l_bom_Make,[.t 4,.cell 5 2 true]) := by kernel_rfl
def q145_0 : LReg := rG [oO 1 (.box 109 2 (.t 0)),oO 2 (mK (kI 0))]
def q145_1 : LReg := rG [oO 3 (fA 0 1),oO 4 (lV 1 3)]
def q145_2 : LReg := rG [oO 6 (bK .eql 4 1),oM 5 6]
def q145_3 : LReg := rG [oO 7 (bK .eql 4 2),oM 5 7]
def q145_4 : LReg := rG [oO 8 (fA 1 1),oO 9 (lV 1 8),oO 10 (cA 115 [9]),oO 11 (.un .not (.t 10))]
def q145_5 : LReg := rG [oO 2 (mK (kI 12))]
def q145_6 : LReg := rG [oO 13 (bK .eql 4 3),oM 12 13]
def q145_7 : LReg := rG [oO 14 (fA 1 1),oO 15 (lV 1 14),oO 16 (.mkSlice 9 1 1 [.str []] [(0,(.t 15))]),oO 17 (cA 156 [16]),oO 18 (.field 0 1 false (.t 17)),oM 2 18]
def q145_8 : LReg := rG [oO 20 (bK .eql 4 4),oM 19 20]
def q145_9 : LReg := rG [oO 21 (bK .eql 4 5),oM 19 21]
def q145_10 : LReg := rG [oO 22 (fA 1 1),oO 23 (lV 1 22),oO 24 (.bin .neq (.t 23) (.c (.str [])))]
def q145_11 : LReg := rG [oO 2 (mK (kI 5))]
def q145_12 : LReg := rG [oO 2 (mK (kI 4))]
def q145_13 : LReg := rG [oO 2 (mK (kI 0))]
def Tryz.l_sandbox_checkOp : LCode := (.seq (.reg q145_0) (.seq (.seq (.reg q145_1) (.block 0 (.seq (.seq (.reg q145_2) (.cond (.t 5) .skip (.reg q145_3))) (.cond (.t 5) (.seq (.reg q145_4) (.cond (.t 11) (.seq (.reg q145_5) .ret) .skip)) (.seq (.reg q145_6) (.cond (.t 12) (.seq (.reg q145_7) .ret) (.seq (.seq (.reg q145_8) (.cond (.t 19) .skip (.reg q145_9))) (.cond (.t 19) (.seq (.reg q145_10) (.cond (.t 24) (.seq (.reg q145_11) .ret) .skip)) (.seq (.reg q145_12) .ret))))))))) (.seq (.reg q145_13) .ret)))
theorem Tryz.c_sandbox_checkOp : fnComp Tryz.prog 145 = some (25, Tryz.l_sandbox_checkOp,[.t 2]) := by kernel_rfl
def q107_0 : LReg := rG [oO 1 (.box 53 3 (.t 0)),oO 2 (.alloc 31 2 [.int .i64 0,.int .i64 0])]
def q107_1 : LReg := rG [oO 8 (fA 0 1),oO 9 (lV 1 8),oO 10 (lN 9),oO 11 (bK .gtr 10 8),oM 12 11,oF 13 12 (fA 1 1),oF 14 12 (lV 1 13),oF 15 12 (lN 14),oF 16 12 (bK .gtr 15 16),oO 17 (pL 12 (kB true) 16)]
def q107_2 : LReg := rG [oO 18 (.build [.int .i64 0,.int .i64 0] [(0,1,(kI 2)),(1,1,(kI (-1)))]),oX (sT 2 2 18)]
def q107_3 : LReg := rG [oO 19 (fA 0 1),oO 20 (lV 1 19),oO 21 (lN 20),oO 22 (mK (kI 0))]
def q107_4 : LReg := rG [oO 23 (bT .lss 22 21)]
def q107_5 : LReg := rG [oM 24 22,oO 25 (iX 1 20 22),oO 26 (lV 1 25),oM 3 24,oM 4 26]
def q107_6 : LReg := rG [oM 27 4,oO 28 (cA 115 [27]),oO 29 (.un .not (.t 28))]
def q107_7 : LReg := rG [oM 30 3,oO 31 (.build [.int .i64 0,.int .i64 0] [(0,1,(kI 12)),(1,1,(.t 30))]),oX (sT 2 2 31)]
def q107_8 : LReg := rG [oM 32 3,oO 33 (bK .gtr 32 0),oM 34 33,oT 35 34 (.mv (.t 4)),oT 36 34 (fA 0 1),oT 37 34 (lV 1 36),oT 38 34 (.mv (.t 3)),oT 39 34 (bK .sub 38 1),oT 40 34 (iX 1 37 39),oT 41 34 (lV 1 40),oT 42 34 (bT .leq 35 41),oO 43 (pK 34 42 (kB false))]
def q107_9 : LReg := rG [oM 44 3,oO 45 (.build [.int .i64 0,.int .i64 0] [(0,1,(kI 5)),(1,1,(.t 44))]),oX (sT 2 2 45)]
def q107_10 : LReg := rG [oO 46 (bK .add 22 1),oM 22 46]
def q107_11 : LReg := rG [oO 47 (fA 2 1),oO 48 (lV 1 47),oO 49 (cA 115 [48]),oO 50 (.un .not (.t 49))]
def q107_12 : LReg := rG [oO 51 (.build [.int .i64 0,.int .i64 0] [(0,1,(kI 12)),(1,1,(kI (-2)))]),oX (sT 2 2 51)]
def q107_13 : LReg := rG [oO 52 (fA 1 1),oO 53 (lV 1 52),oO 54 (lN 53),oO 55 (mK (kI 0))]
def q107_14 : LReg := rG [oO 56 (bT .lss 55 54)]
def q107_15 : LReg := rG [oM 57 55,oO 58 (iX 2 53 55),oO 59 (lA 2 58),oO 6 (.alloc 109 2 [.int .i64 0,.str []]),oM 5 57,oX (sT 2 6 59)]
def q107_16 : LReg := rG [oO 60 (lA 2 6),oO 61 (cA 145 [60]),oM 7 61]
def q107_17 : LReg := rG [oM 62 7,oO 63 (bK .neq 62 0)]
def q107_18 : LReg := rG [oM 64 7,oM 65 5,oO 66 (.bin .sub (kI (-3)) (.t 65)),oO 67 (.build [.int .i64 0,.int .i64 0] [(0,1,(.t 64)),(1,1,(.t 66))]),oX (sT 2 2 67)]
def q107_19 : LReg := rG [oO 68 (bK .add 55 1),oM 55 68]
def q107_20 : LReg := rG [oO 69 (.build [.int .i64 0,.int .i64 0] []),oX (sT 2 2 69)]
def Tryz.l_sandbox_Validate : LCode := (.seq (.reg q107_0) (.seq (.seq (.reg q107_1) (.cond (.t 17) (.seq (.reg q107_2) .ret) .skip)) (.seq (.seq (.reg q107_3) (.block 0 (.loop (.seq (.reg q107_4) (.seq (.cond (.t 23) .skip (.exit 0)) (.seq (.block 1 (.seq (.reg q107_5) (.seq (.seq (.reg q107_6) (.cond (.t 29) (.seq (.reg q107_7) .ret) .skip)) (.seq (.reg q107_8) (.cond (.t 43) (.seq (.reg q107_9) .ret) .skip))))) (.reg q107_10))))))) (.seq (.seq (.reg q107_11) (.cond (.t 50) (.seq (.reg q107_12) .ret) .skip)) (.seq (.seq (.reg q107_13) (.block 2 (.loop (.seq (.reg q107_14) (.seq (.cond (.t 56) .skip (.exit 2)) (.seq (.block 3 (.seq (.reg q107_15) (.seq (.reg q107_16) (.seq (.reg q107_17) (.cond (.t 63) (.seq (.reg q107_18) .ret) .skip))))) (.reg q107_19))))))) (.seq (.reg q107_20) .ret))))))
theorem Tryz.c_sandbox_Validate : fnComp Tryz.prog 107 = some (70, Tryz.l_sandbox_Validate,[.cell 2 2 true]) := by kernel_rfl
def q54_0 : LReg := rG [oO 2 (.alloc 31 2 [.int .i64 0,.int .i64 0])]
def q54_1 : LReg := rG [oM 6 0,oO 7 (lN 6),oO 8 (bK .gtr 7 8)]
def q54_2 : LReg := rG [oO 9 (.build [.int .i64 0,.int .i64 0] [(0,1,(kI 2)),(1,1,(kI (-1)))]),oX (sT 2 2 9)]
def q54_3 : LReg := rG [oM 10 0,oO 11 (lN 10),oO 12 (mK (kI 0))]
def q54_4 : LReg := rG [oO 13 (bT .lss 12 11)]
def q54_5 : LReg := rG [oM 14 12,oO 15 (iX 3 10 12),oO 16 (lA 3 15),oO 4 (.alloc 53 3 [.nils,.nils,.str []]),oM 3 14,oX (sT 3 4 16)]
def q54_6 : LReg := rG [oO 17 (lA 3 4),oO 18 (cA 107 [17]),oO 5 (.alloc 31 2 [.int .i64 0,.int .i64 0]),oX (sT 2 5 18)]
def q54_7 : LReg := rG [oO 19 (lA 2 5),oO 20 (.build [.int .i64 0,.int .i64 0] []),oO 21 (.eqs true [0,0] (.t 19) (.t 20))]
def q54_8 : LReg := rG [oO 22 (fA 0 5),oO 23 (lV 1 22),oM 24 3,oO 25 (.build [.int .i64 0,.int .i64 0] [(0,1,(.t 23)),(1,1,(.t 24))]),oX (sT 2 2 25)]
def q54_9 : LReg := rG [oO 26 (bK .add 12 1),oM 12 26]
def q54_10 : LReg := rG [oO 27 (.build [.int .i64 0,.int .i64 0] []),oX (sT 2 2 27)]
def Tryz.l_release_checkActions : LCode := (.seq (.reg q54_0) (.seq (.seq (.reg q54_1) (.cond (.t 8) (.seq (.reg q54_2) .ret) .skip)) (.seq (.seq (.reg q54_3) (.block 0 (.loop (.seq (.reg q54_4) (.seq (.cond (.t 13) .skip (.exit 0)) (.seq (.block 1 (.seq (.reg q54_5) (.seq (.reg q54_6) (.seq (.reg q54_7) (.cond (.t 21) (.seq (.reg q54_8) .ret) .skip))))) (.reg q54_9))))))) (.seq (.reg q54_10) .ret))))
theorem Tryz.c_release_checkActions : fnComp Tryz.prog 54 = some (28, Tryz.l_release_checkActions,[.cell 2 2 true]) := by kernel_rfl
def q146_0 : LReg := rG [oO 4 (mK (kI 0))]
def q146_1 : LReg := rG [oM 6 0,oO 7 (lN 6),oO 8 (mK (kI 0))]
def q146_2 : LReg := rG [oO 9 (bT .lss 8 7)]
def q146_3 : LReg := rG [oM 10 8,oM 5 10]
def q146_4 : LReg := rG [oM 11 1,oM 12 0,oM 13 5,oO 14 (iX 1 12 13),oO 15 (lV 1 14),oO 16 (bT .eql 11 15)]
def q146_5 : LReg := rG [oM 17 5,oM 4 17]
def q146_6 : LReg := rG [oO 18 (bK .add 8 1),oM 8 18]
def q146_7 : LReg := rG [oO 4 (mK (kI (-1)))]
def Tryz.l_slices_Index_string : LCode := (.seq (.reg q146_0) (.seq (.seq (.reg q146_1) (.block 0 (.loop (.seq (.reg q146_2) (.seq (.cond (.t 9) .skip (.exit 0)) (.seq (.block 1 (.seq (.reg q146_3) (.seq (.reg q146_4) (.cond (.t 16) (.seq (.reg q146_5) .ret) .skip)))) (.reg q146_6))))))) (.seq (.reg q146_7) .ret)))
theorem Tryz.c_slices_Index_string : fnComp Tryz.prog 146 = some (19, Tryz.l_slices_Index_string,[.t 4]) := by kernel_rfl
def q109_0 : LReg := rG [oO 4 (mK (kB false))]
def q109_1 : LReg := rG [oM 5 0,oM 6 1,oO 7 (cA 146 [5,6]),oO 8 (bK .geq 7 0),oM 4 8]
def Tryz.l_slices_Contains_string : LCode := (.seq (.reg q109_0) (.seq (.reg q109_1) .ret))
theorem Tryz.c_slices_Contains_string : fnComp Tryz.prog 109 = some (9, Tryz.l_slices_Contains_string,[.t 4]) := by kernel_rfl
def q111_0 : LReg := rG [oO 2 (mK (.c (.nils)))]
def q111_1 : LReg := rG [oM 6 0,oO 7 (lN 6),oO 8 (bK .lss 7 2)]
def q111_2 : LReg := rG [oM 9 0,oM 2 9]
def q111_3 : LReg := rG [oO 3 (mK (kI 1))]
def q111_4 : LReg := rG [oM 10 3,oM 11 0,oO 12 (lN 11),oO 13 (bT .lss 10 12)]
def q111_5 : LReg := ⟨[oM 16 0,oM 17 3,oO 18 (iX 1 16 17),oO 19 (lV 1 18),oM 20 0,oM 21 3,oO 22 (bK .sub 21 1),oO 23 (iX 1 20 22),oO 24 (lV 1 23),oO 25 (bT .eql 19 24)],true,[(2,7),(3,7),(2,8),(3,8)]⟩
def q111_6 : LReg := rG [oM 26 0,oM 27 3,oO 28 (.slice 1 (.t 26) (some (.t 27)) none),oM 4 28]
def q111_7 : LReg := rG [oO 5 (mK (kI 1))]
def q111_8 : LReg := rG [oM 29 5,oM 30 4,oO 31 (lN 30),oO 32 (bT .lss 29 31)]
def q111_9 : LReg := ⟨[oM 35 4,oM 36 5,oO 37 (iX 1 35 36),oO 38 (lV 1 37),oM 39 4,oM 40 5,oO 41 (bK .sub 40 1),oO 42 (iX 1 39 41),oO 43 (lV 1 42),oO 44 (bT .neq 38 43)],true,[(2,7),(3,7),(2,8),(3,8)]⟩
def q111_10 : LReg := rG [oM 45 0,oM 46 3,oM 47 4,oM 48 5,oO 49 (iX 1 47 48),oO 50 (lV 1 49),oO 51 (iX 1 45 46),oX (sT 1 51 50)]
def q111_11 : LReg := rG [oM 52 3,oO 53 (bK .add 52 1),oM 3 53]
def q111_12 : LReg := rG [oM 33 5,oO 34 (bK .add 33 1),oM 5 34]
def q111_13 : LReg := rG [oM 54 0,oM 55 3,oO 56 (.slice 1 (.t 54) (some (.t 55)) none),oX (.clear 1 [.str []] (.t 56))]
def q111_14 : LReg := rG [oM 57 0,oM 58 3,oO 59 (.slice 1 (.t 57) none (some (.t 58))),oM 2 59]
def q111_15 : LReg := rG [oM 14 3,oO 15 (bK .add 14 1),oM 3 15]
def q111_16 : LReg := rG [oM 60 0,oM 2 60]
def Tryz.l_slices_Compact_string : LCode := (.seq (.reg q111_0) (.seq (.seq (.reg q111_1) (.cond (.t 8) (.seq (.reg q111_2) .ret) .skip)) (.seq (.seq (.reg q111_3) (.block 0 (.loop (.seq (.seq (.reg q111_4) (.cond (.t 13) .skip (.exit 0))) (.seq (.block 1 (.seq (.reg q111_5) (.cond (.t 25) (.seq (.reg q111_6) (.seq (.seq (.reg q111_7) (.block 2 (.loop (.seq (.seq (.reg q111_8) (.cond (.t 32) .skip (.exit 2))) (.seq (.block 3 (.seq (.reg q111_9) (.cond (.t 44) (.seq (.reg q111_10) (.reg q111_11)) .skip))) (.reg q111_12)))))) (.seq (.reg q111_13) (.seq (.reg q111_14) .ret)))) .skip))) (.reg q111_15)))))) (.seq (.reg q111_16) .ret))))
theorem Tryz.c_slices_Compact_string : fnComp Tryz.prog 111 = some (61, Tryz.l_slices_Compact_string,[.t 2]) := by kernel_rfl
def q56_0 : LReg := rG [oO 2 (mK (.c (.nils)))]
def q56_1 : LReg := rG [oO 3 (mK (.c (.nils))),oO 4 (mK (.c (.nils)))]
def q56_2 : LReg := rG [oM 9 0,oO 10 (lN 9),oO 11 (mK (kI 0))]
def q56_3 : LReg := rG [oO 12 (bT .lss 11 10)]
def q56_4 : LReg := rG [oO 13 (iX 3 9 11),oO 14 (lA 3 13),oO 6 (.alloc 53 3 [.nils,.nils,.str []]),oX (sT 3 6 14)]
def q56_5 : LReg := rG [oO 15 (fA 0 6),oO 16 (lV 1 15),oO 17 (lN 16),oO 18 (mK (kI 0))]
def q56_6 : LReg := rG [oO 19 (bT .lss 18 17)]
def q56_7 : LReg := rG [oO 20 (iX 1 16 18),oO 21 (lV 1 20),oM 8 21]
def q56_8 : LReg := rG [oM 22 4,oM 23 8,oO 24 (cA 109 [22,23]),oO 25 (.un .not (.t 24))]
def q56_9 : LReg := rG [oM 26 3,oM 27 8,oO 28 (.mkSlice 9 1 1 [.str []] [(0,(.t 27))]),oO 29 (.append 9 1 16 (.t 26) (.t 28)),oM 3 29]
def q56_10 : LReg := rG [oO 30 (bK .add 18 1),oM 18 30]
def q56_11 : LReg := rG [oM 31 4,oO 32 (fA 2 6),oO 33 (lV 1 32),oO 34 (.mkSlice 9 1 1 [.str []] [(0,(.t 33))]),oO 35 (.append 9 1 16 (.t 31) (.t 34)),oM 4 35]
def q56_12 : LReg := rG [oO 36 (bK .add 11 1),oM 11 36]
def q56_13 : LReg := rG [oM 37 3,oO 38 (cA 110 [37])]
def q56_14 : LReg := rG [oM 39 3,oO 40 (cA 111 [39]),oM 2 40]
def Tryz.l_release_sources : LCode := (.seq (.reg q56_0) (.seq (.reg q56_1) (.seq (.seq (.reg q56_2) (.block 0 (.loop (.seq (.reg q56_3) (.seq (.cond (.t 12) .skip (.exit 0)) (.seq (.block 1 (.seq (.reg q56_4) (.seq (.seq (.reg q56_5) (.block 2 (.loop (.seq (.reg q56_6) (.seq (.cond (.t 19) .skip (.exit 2)) (.seq (.block 3 (.seq (.reg q56_7) (.seq (.reg q56_8) (.cond (.t 25) (.reg q56_9) .skip)))) (.reg q56_10))))))) (.reg q56_11)))) (.reg q56_12))))))) (.seq (.reg q56_13) (.seq (.reg q56_14) .ret)))))
theorem Tryz.c_release_sources : fnComp Tryz.prog 56 = some (41, Tryz.l_release_sources,[.t 2]) := by kernel_rfl
def q63_0 : LReg := rG [oO 2 (.box 53 3 (.t 0)),oO 3 (.box 25 1 (.t 1)),oO 4 (.alloc 31 2 [.int .i64 0,.int .i64 0])]
def q63_1 : LReg := rG [oO 6 (lA 3 2),oO 7 (cA 107 [6]),oO 5 (.alloc 31 2 [.int .i64 0,.int .i64 0]),oX (sT 2 5 7)]
def q63_2 : LReg := rG [oO 8 (lA 2 5),oO 9 (.build [.int .i64 0,.int .i64 0] []),oO 10 (.eqs true [0,0] (.t 8) (.t 9))]
def q63_3 : LReg := rG [oO 11 (lA 2 5),oX (sT 2 4 11)]
def q63_4 : LReg := rG [oO 12 (lA 1 3),oO 13 (.call 55 [(.t 12),(kI (-20))]),oX (sT 2 4 13)]
def Tryz.l_sandbox_Arguments : LCode := (.seq (.reg q63_0) (.seq (.seq (.reg q63_1) (.seq (.reg q63_2) (.cond (.t 10) (.seq (.reg q63_3) .ret) .skip))) (.seq (.reg q63_4) .ret)))
theorem Tryz.c_sandbox_Arguments : fnComp Tryz.prog 63 = some (14, Tryz.l_sandbox_Arguments,[.cell 4 2 true]) := by kernel_rfl
theorem Tryz.b_sandbox_step_1 : bodied Tryz.prog 126 = true := by kernel_rfl
def q126_0 : LReg := rG [oO 3 (mK (.c (.nils))),oO 4 (mK (kI 0))]
def q126_1 : LReg := rG [oO 5 (lV 1 1),oO 6 (lN 5),oM 7 0,oO 8 (lN 7),oO 9 (bT .add 6 8),oO 10 (bK .gtr 9 120)]
def q126_2 : LReg := rG [oO 3 (mK (.c (.nils))),oO 4 (mK (kI 10))]
def q126_3 : LReg := rG [oO 11 (lV 1 1),oM 12 0,oO 13 (.append 9 1 16 (.t 11) (.t 12)),oM 3 13,oO 4 (mK (kI 0))]
def Tryz.l_sandbox_step_1 : LCode := (.seq (.reg q126_0) (.seq (.seq (.reg q126_1) (.cond (.t 10) (.seq (.reg q126_2) .ret) .skip)) (.seq (.reg q126_3) .ret)))
theorem Tryz.c_sandbox_step_1 : fnComp Tryz.prog 126 = some (14, Tryz.l_sandbox_step_1,[.t 3,.t 4]) := by kernel_rfl
def q127_0 : LReg := rG [oM 4 0,oO 5 (lN 4),oO 6 (bK .sub 5 1),oO 2 (mK (kI 0)),oM 3 6]
def q127_1 : LReg := rG [oM 7 2,oM 8 3,oO 9 (bT .lss 7 8)]
def q127_2 : LReg := ⟨[oM 14 0,oM 15 2,oM 16 0,oM 17 3,oM 18 0,oM 19 3,oO 20 (iX 1 18 19),oO 21 (lV 1 20),oM 22 0,oM 23 2,oO 24 (iX 1 22 23),oO 25 (lV 1 24),oO 26 (iX 1 14 15),oX (sT 1 26 21),oO 27 (iX 1 16 17),oX (sT 1 27 25)],true,[(6,10),(7,10),(6,11),(7,11)]⟩
def q127_3 : LReg := rG [oM 10 2,oO 11 (bK .add 10 1),oM 12 3,oO 13 (bK .sub 12 1),oM 2 11,oM 3 13]
def Tryz.l_slices_Reverse_string : LCode := (.seq (.reg q127_0) (.block 0 (.loop (.seq (.seq (.reg q127_1) (.cond (.t 9) .skip (.exit 0))) (.seq (.block 1 (.reg q127_2)) (.reg q127_3))))))
theorem Tryz.c_slices_Reverse_string : fnComp Tryz.prog 127 = some (28, Tryz.l_slices_Reverse_string,[]) := by kernel_rfl
def q128_0 : LReg := rG [oO 2 (mK (.c (.nils)))]
def q128_1 : LReg := rG [oO 3 (mK (.c (.nils)))]
def q128_2 : LReg := rG [oM 6 0,oO 7 (lN 6),oO 8 (mK (kI 0))]
def q128_3 : LReg := rG [oO 9 (bT .lss 8 7)]
def q128_4 : LReg := rG [oO 10 (iX 1 6 8),oO 11 (lV 1 10),oM 5 11]
def q128_5 : LReg := rG [oM 12 3,oM 13 5,oO 14 (cA 109 [12,13]),oO 15 (.un .not (.t 14))]
def q128_6 : LReg := rG [oM 16 3,oM 17 5,oO 18 (.mkSlice 9 1 1 [.str []] [(0,(.t 17))]),oO 19 (.append 9 1 16 (.t 16) (.t 18)),oM 3 19]
def q128_7 : LReg := rG [oO 20 (bK .add 8 1),oM 8 20]
def q128_8 : LReg := rG [oM 21 3,oM 2 21]
def Tryz.l_sandbox_unique : LCode := (.seq (.reg q128_0) (.seq (.reg q128_1) (.seq (.seq (.reg q128_2) (.block 0 (.loop (.seq (.reg q128_3) (.seq (.cond (.t 9) .skip (.exit 0)) (.seq (.block 1 (.seq (.reg q128_4) (.seq (.reg q128_5) (.cond (.t 15) (.reg q128_6) .skip)))) (.reg q128_7))))))) (.seq (.reg q128_8) .ret))))
theorem Tryz.c_sandbox_unique : fnComp Tryz.prog 128 = some (22, Tryz.l_sandbox_unique,[.t 2]) := by kernel_rfl
def q74_0 : LReg := rG [oO 4 (.box 53 3 (.t 0)),oO 5 (.box 109 2 (.t 1)),oO 6 (.box 25 1 (.t 2)),oO 7 (.box 34 1 (.t 3)),oO 8 (mK (.c (.nils))),oO 9 (mK (kI 0))]
def q74_1 : LReg := rG [oO 14 (fA 0 6),oO 15 (lV 1 14),oO 16 (fA 1 5),oO 17 (lV 1 16),oO 18 (cA 66 [15,17]),oM 13 18,oO 19 (eX 0 13),oO 20 (eX 1 13),oM 10 19,oM 11 20]
def q74_2 : LReg := rG [oO 21 (.mkfn 126 [] [(.t 7)]),oM 12 21]
def q74_3 : LReg := rG [oO 22 (fA 0 5),oO 23 (lV 1 22),oO 24 (bK .eql 23 1),oM 25 24,oF 26 25 (fA 0 5),oF 27 25 (lV 1 26),oF 28 25 (bK .eql 27 2),oO 29 (pL 25 (kB true) 28),oM 30 29,oT 31 30 (fA 0 4),oT 32 30 (lV 1 31),oT 33 30 (fA 1 5),oT 34 30 (lV 1 33),oT 35 30 (cA 109 [32,34]),oT 36 30 (.un .not (.t 35)),oO 37 (pK 30 36 (kB false))]
def q74_4 : LReg := rG [oO 8 (mK (.c (.nils))),oO 9 (mK (kI 13))]
def q74_5 : LReg := rG [oO 38 (fA 0 5),oO 39 (lV 1 38)]
def q74_6 : LReg := rG [oO 41 (bK .eql 39 1),oM 40 41]
def q74_7 : LReg := rG [oM 42 11,oO 43 (.un .not (.t 42))]
def q74_8 : LReg := rG [oO 8 (mK (.c (.nils))),oO 9 (mK (kI 6))]
def q74_9 : LReg := rG [oM 44 12,oO 45 (fA 0 6),oO 46 (lV 1 45),oM 47 10,oO 48 (iX 2 46 47),oO 49 (fA 1 48),oO 50 (lV 1 49),oO 51 (.callv (.t 44) [(.t 50)]),oO 52 (eX 0 51),oO 53 (eX 1 51),oM 8 52,oM 9 53]
def q74_10 : LReg := rG [oO 55 (bK .eql 39 2),oM 54 55]
def q74_11 : LReg := rG [oM 56 11]
def q74_12 : LReg := rG [oM 57 12,oO 58 (.mkSlice 9 1 1 [.str []] [(0,(.c (.str [121,101,115])))]),oO 59 (.callv (.t 57) [(.t 58)]),oO 60 (eX 0 59),oO 61 (eX 1 59),oM 8 60,oM 9 61]
def q74_13 : LReg := rG [oM 62 12,oO 63 (.mkSlice 9 1 1 [.str []] [(0,(.c (.str [110,111])))]),oO 64 (.callv (.t 62) [(.t 63)]),oO 65 (eX 0 64),oO 66 (eX 1 64),oM 8 65,oM 9 66]
def q74_14 : LReg := rG [oO 68 (bK .eql 39 3),oM 67 68]
def q74_15 : LReg := rG [oM 69 12,oO 70 (fA 1 5),oO 71 (lV 1 70),oO 72 (.mkSlice 9 1 1 [.str []] [(0,(.t 71))]),oO 73 (.callv (.t 69) [(.t 72)]),oO 74 (eX 0 73),oO 75 (eX 1 73),oM 8 74,oM 9 75]
def q74_16 : LReg := rG [oO 77 (bK .eql 39 4),oM 76 77]
def q74_17 : LReg := rG [oO 78 (lV 1 7),oO 79 (cA 127 [78])]
def q74_18 : LReg := rG [oO 80 (lV 1 7),oM 8 80,oO 9 (mK (kI 0))]
def q74_19 : LReg := rG [oO 81 (lV 1 7),oO 82 (cA 128 [81]),oM 8 82,oO 9 (mK (kI 0))]
def Tryz.l_sandbox_step : LCode := (.seq (.reg q74_0) (.seq (.reg q74_1) (.seq (.reg q74_2) (.seq (.seq (.reg q74_3) (.cond (.t 37) (.seq (.reg q74_4) .ret) .skip)) (.seq (.seq (.reg q74_5) (.block 0 (.seq (.reg q74_6) (.cond (.t 40) (.seq (.seq (.reg q74_7) (.cond (.t 43) (.seq (.reg q74_8) .ret) .skip)) (.seq (.reg q74_9) .ret)) (.seq (.reg q74_10) (.cond (.t 54) (.seq (.seq (.reg q74_11) (.cond (.t 56) (.seq (.reg q74_12) .ret) .skip)) (.seq (.reg q74_13) .ret)) (.seq (.reg q74_14) (.cond (.t 67) (.seq (.reg q74_15) .ret) (.seq (.reg q74_16) (.cond (.t 76) (.seq (.reg q74_17) (.seq (.reg q74_18) .ret)) .skip)))))))))) (.seq (.reg q74_19) .ret))))))
theorem Tryz.c_sandbox_step : fnComp Tryz.prog 74 = some (83, Tryz.l_sandbox_step,[.t 8,.t 9]) := by kernel_rfl
def q25_0 : LReg := rG [oO 2 (.box 53 3 (.t 0)),oO 3 (.box 25 1 (.t 1)),oO 4 (mK (.c (.nils))),oO 5 (.alloc 31 2 [.int .i64 0,.int .i64 0])]
def q25_1 : LReg := rG [oO 12 (lA 3 2),oO 13 (lA 1 3),oO 14 (cA 63 [12,13]),oO 6 (.alloc 31 2 [.int .i64 0,.int .i64 0]),oX (sT 2 6 14)]
def q25_2 : LReg := rG [oO 15 (lA 2 6),oO 16 (.build [.int .i64 0,.int .i64 0] []),oO 17 (.eqs true [0,0] (.t 15) (.t 16))]
def q25_3 : LReg := ⟨[oO 18 (lA 2 6),oO 4 (mK (.c (.nils))),oX (sT 2 5 18)],true,[]⟩
def q25_4 : LReg := rG [oO 7 (mK (.c (.nils)))]
def q25_5 : LReg := rG [oO 19 (fA 1 2),oO 20 (lV 1 19),oO 21 (lN 20),oO 22 (mK (kI 0))]
def q25_6 : LReg := rG [oO 23 (bT .lss 22 21)]
def q25_7 : LReg := rG [oM 24 22,oO 25 (iX 2 20 22),oO 26 (lA 2 25),oO 9 (.alloc 109 2 [.int .i64 0,.str []]),oM 8 24,oX (sT 2 9 26)]
def q25_8 : LReg := rG [oO 28 (lA 3 2),oO 29 (lA 2 9),oO 30 (lA 1 3),oM 31 7,oO 32 (cA 74 [28,29,30,31]),oM 27 32,oO 33 (eX 0 27),oO 34 (eX 1 27),oM 10 33,oM 11 34]
def q25_9 : LReg := rG [oM 35 11,oO 36 (bK .neq 35 0)]
def q25_10 : LReg := rG [oM 37 11,oM 38 8,oO 39 (.bin .sub (kI (-3)) (.t 38)),oO 40 (.build [.int .i64 0,.int .i64 0] [(0,1,(.t 37)),(1,1,(.t 39))]),oO 4 (mK (.c (.nils))),oX (sT 2 5 40)]
def q25_11 : LReg := rG [oM 41 10,oM 7 41]
def q25_12 : LReg := rG [oO 42 (bK .add 22 1),oM 22 42]
def q25_13 : LReg := rG [oM 43 7,oO 44 (.build [.int .i64 0,.int .i64 0] []),oM 4 43,oX (sT 2 5 44)]
def Tryz.l_sandbox_Run : LCode := (.seq (.reg q25_0) (.seq (.seq (.reg q25_1) (.seq (.reg q25_2) (.cond (.t 17) (.seq (.reg q25_3) .ret) .skip))) (.seq (.reg q25_4) (.seq (.seq (.reg q25_5) (.block 0 (.loop (.seq (.reg q25_6) (.seq (.cond (.t 23) .skip (.exit 0)) (.seq (.block 1 (.seq (.reg q25_7) (.seq (.reg q25_8) (.seq (.seq (.reg q25_9) (.cond (.t 36) (.seq (.reg q25_10) .ret) .skip)) (.reg q25_11))))) (.reg q25_12))))))) (.seq (.reg q25_13) .ret)))))
theorem Tryz.c_sandbox_Run : fnComp Tryz.prog 25 = some (45, Tryz.l_sandbox_Run,[.t 4,.cell 5 2 true]) := by kernel_rfl
def q71_0 : LReg := rG [oO 2 (mK (.c (.nils)))]
def q71_1 : LReg := rG [oM 3 0,oO 4 (.isnil false (.t 3))]
def q71_2 : LReg := rG [oO 2 (mK (.c (.nils)))]
def q71_3 : LReg := rG [oO 5 (.mkSlice 9 1 0 [.str []] []),oM 6 0,oO 7 (.append 9 1 16 (.t 5) (.t 6)),oM 2 7]
def Tryz.l_slices_Clone_string : LCode := (.seq (.reg q71_0) (.seq (.seq (.reg q71_1) (.cond (.t 4) (.seq (.reg q71_2) .ret) .skip)) (.seq (.reg q71_3) .ret)))
theorem Tryz.c_slices_Clone_string : fnComp Tryz.prog 71 = some (8, Tryz.l_slices_Clone_string,[.t 2]) := by kernel_rfl
def q97_0 : LReg := rG [oO 1 (.box 25 1 (.t 0)),oO 2 (.alloc 25 1 [.nils])]
def q97_1 : LReg := rG [oO 3 (.alloc 25 1 [.nils])]
def q97_2 : LReg := rG [oO 6 (fA 0 1),oO 7 (lV 1 6),oO 8 (lN 7),oO 9 (mK (kI 0))]
def q97_3 : LReg := rG [oO 10 (bT .lss 9 8)]
def q97_4 : LReg := rG [oO 11 (iX 2 7 9),oO 12 (lA 2 11),oO 5 (.alloc 37 2 [.str [],.nils]),oX (sT 2 5 12)]
def q97_5 : LReg := ⟨[oO 13 (fA 0 3),oO 14 (lV 1 13),oO 15 (fA 0 5),oO 16 (lV 1 15),oO 17 (fA 1 5),oO 18 (lV 1 17),oO 19 (cA 71 [18]),oO 20 (.build [.str [],.nils] [(0,1,(.t 16)),(1,1,(.t 19))]),oO 21 (.mkSlice 37 2 1 [.str [],.nils] [(0,(.t 20))]),oO 22 (.append 37 2 40 (.t 14) (.t 21)),oO 23 (fA 0 3),oX (sT 1 23 22)],true,[(0,2),(1,2),(0,3),(1,3),(0,4),(1,4),(2,4),(3,4),(0,5),(1,5),(2,5),(3,5),(0,6),(1,6),(2,6),(3,6),(0,8),(1,8)]⟩
def q97_6 : LReg := rG [oO 24 (bK .add 9 1),oM 9 24]
def q97_7 : LReg := rG [oO 25 (lA 1 3),oX (sT 1 2 25)]
def Tryz.l_treepatch_CopyTree : LCode := (.seq (.reg q97_0) (.seq (.reg q97_1) (.seq (.seq (.reg q97_2) (.block 0 (.loop (.seq (.reg q97_3) (.seq (.cond (.t 10) .skip (.exit 0)) (.seq (.block 1 (.seq (.reg q97_4) (.reg q97_5))) (.reg q97_6))))))) (.seq (.reg q97_7) .ret))))
theorem Tryz.c_treepatch_CopyTree : fnComp Tryz.prog 97 = some (26, Tryz.l_treepatch_CopyTree,[.cell 2 1 true]) := by kernel_rfl
def q113_0 : LReg := rG [oM 9 0,oO 10 (.nilCheck (.t 9)),oO 11 (fA 0 10),oO 12 (lV 1 11),oM 13 1,oO 14 (cA 66 [12,13]),oM 8 14,oO 15 (eX 0 8),oO 16 (eX 1 8),oM 6 15,oM 7 16]
def q113_1 : LReg := rG [oM 17 7,oO 18 (.un .not (.t 17))]
def q113_2 : LReg := rG [oM 19 0,oM 20 0,oO 21 (.nilCheck (.t 20)),oO 22 (fA 0 21),oO 23 (lV 1 22),oM 24 6,oM 25 1,oO 26 (.build [.str [],.nils] [(0,1,(.t 25))]),oO 27 (.mkSlice 37 2 1 [.str [],.nils] [(0,(.t 26))]),oO 28 (cA 150 [23,24,27]),oO 29 (.nilCheck (.t 19)),oO 30 (fA 0 29),oX (sT 1 30 28)]
def q113_3 : LReg := ⟨[oM 31 0,oO 32 (.nilCheck (.t 31)),oO 33 (fA 0 32),oO 34 (lV 1 33),oM 35 6,oM 36 2,oO 37 (cA 71 [36]),oO 38 (iX 2 34 35),oO 39 (fA 1 38),oX (sT 1 39 37)],true,[(1,6),(2,6),(3,6)]⟩
def Tryz.l_treepatch_Put : LCode := (.seq (.reg q113_0) (.seq (.seq (.reg q113_1) (.cond (.t 18) (.reg q113_2) .skip)) (.reg q113_3)))
theorem Tryz.c_treepatch_Put : fnComp Tryz.prog 113 = some (40, Tryz.l_treepatch_Put,[]) := by kernel_rfl
def q57_0 : LReg := rG [oO 3 (.box 25 1 (.t 1)),oO 4 (.alloc 25 1 [.nils]),oO 5 (.alloc 31 2 [.int .i64 0,.int .i64 0])]
def q57_1 : LReg := rG [oO 12 (lA 1 3),oO 13 (cA 97 [12]),oO 6 (.alloc 25 1 [.nils]),oX (sT 1 6 13)]
def q57_2 : LReg := rG [oO 7 (.alloc 25 1 [.nils])]
def q57_3 : LReg := rG [oM 14 0,oO 15 (lN 14),oO 16 (mK (kI 0))]
def q57_4 : LReg := rG [oO 17 (bT .lss 16 15)]
def q57_5 : LReg := rG [oM 18 16,oO 19 (iX 3 14 16),oO 20 (lA 3 19),oO 9 (.alloc 53 3 [.nils,.nils,.str []]),oM 8 18,oX (sT 3 9 20)]
def q57_6 : LReg := rG [oO 21 (fA 0 6),oO 22 (lV 1 21),oO 23 (fA 2 9),oO 24 (lV 1 23),oO 25 (.call 112 [(.t 22),(.t 24),(kI (-1))])]
def q57_7 : LReg := rG [oO 26 (.build [.nils] []),oM 27 8,oO 28 (.build [.int .i64 0,.int .i64 0] [(0,1,(kI 7)),(1,1,(.t 27))]),oX (sT 1 4 26),oX (sT 2 5 28)]
def q57_8 : LReg := rG [oO 29 (fA 0 6),oO 30 (lV 1 29),oO 31 (lN 30),oO 32 (bK .geq 31 24)]
def q57_9 : LReg := rG [oO 33 (.build [.nils] []),oM 34 8,oO 35 (.build [.int .i64 0,.int .i64 0] [(0,1,(kI 10)),(1,1,(.t 34))]),oX (sT 1 4 33),oX (sT 2 5 35)]
def q57_10 : LReg := rG [oO 37 (lA 3 9),oO 38 (lA 1 6),oO 39 (cA 25 [37,38]),oM 36 39,oO 40 (eX 0 36),oO 41 (eX 1 36),oO 11 (.alloc 31 2 [.int .i64 0,.int .i64 0]),oM 10 40,oX (sT 2 11 41)]
def q57_11 : LReg := rG [oO 42 (lA 2 11),oO 43 (.build [.int .i64 0,.int .i64 0] []),oO 44 (.eqs true [0,0] (.t 42) (.t 43))]
def q57_12 : LReg := ⟨[oO 45 (.build [.nils] []),oO 46 (fA 0 11),oO 47 (lV 1 46),oM 48 8,oO 49 (.build [.int .i64 0,.int .i64 0] [(0,1,(.t 47)),(1,1,(.t 48))]),oX (sT 1 4 45),oX (sT 2 5 49)],true,[(1,5),(2,5)]⟩
def q57_13 : LReg := rG [oO 50 (fA 2 9),oO 51 (lV 1 50),oM 52 10,oO 53 (cA 113 [6,51,52])]
def q57_14 : LReg := rG [oO 54 (fA 2 9),oO 55 (lV 1 54),oM 56 10,oO 57 (cA 113 [7,55,56])]
def q57_15 : LReg := rG [oO 58 (bK .add 16 1),oM 16 58]
def q57_16 : LReg := rG [oO 59 (lA 1 7),oO 60 (.build [.int .i64 0,.int .i64 0] []),oX (sT 1 4 59),oX (sT 2 5 60)]
def Tryz.l_release_execute : LCode := (.seq (.reg q57_0) (.seq (.reg q57_1) (.seq (.reg q57_2) (.seq (.seq (.reg q57_3) (.block 0 (.loop (.seq (.reg q57_4) (.seq (.cond (.t 17) .skip (.exit 0)) (.seq (.block 1 (.seq (.reg q57_5) (.seq (.seq (.reg q57_6) (.cond (.t 25) (.seq (.reg q57_7) .ret) .skip)) (.seq (.seq (.reg q57_8) (.cond (.t 32) (.seq (.reg q57_9) .ret) .skip)) (.seq (.reg q57_10) (.seq (.seq (.reg q57_11) (.cond (.t 44) (.seq (.reg q57_12) .ret) .skip)) (.seq (.reg q57_13) (.reg q57_14)))))))) (.reg q57_15))))))) (.seq (.reg q57_16) .ret)))))
theorem Tryz.c_release_execute : fnComp Tryz.prog 57 = some (61, Tryz.l_release_execute,[.cell 4 1 true,.cell 5 2 true]) := by kernel_rfl
def q114_0 : LReg := rG [oO 2 (mK (.c (.nils)))]
def q114_1 : LReg := rG [oM 3 0,oO 4 (.isnil false (.t 3))]
def q114_2 : LReg := rG [oO 2 (mK (.c (.nils)))]
def q114_3 : LReg := rG [oO 5 (.mkSlice 109 2 0 [.int .i64 0,.str []] []),oM 6 0,oO 7 (.append 109 2 24 (.t 5) (.t 6)),oM 2 7]
def Tryz.l_slices_Clone_api_SandboxOp_api_SandboxOp : LCode := (.seq (.reg q114_0) (.seq (.seq (.reg q114_1) (.cond (.t 4) (.seq (.reg q114_2) .ret) .skip)) (.seq (.reg q114_3) .ret)))
theorem Tryz.c_slices_Clone_api_SandboxOp_api_SandboxOp : fnComp Tryz.prog 114 = some (8, Tryz.l_slices_Clone_api_SandboxOp_api_SandboxOp,[.t 2]) := by kernel_rfl
def q58_0 : LReg := rG [oO 2 (mK (.c (.nils)))]
def q58_1 : LReg := rG [oO 3 (mK (.c (.nils)))]
def q58_2 : LReg := rG [oM 6 0,oO 7 (lN 6),oO 8 (mK (kI 0))]
def q58_3 : LReg := rG [oO 9 (bT .lss 8 7)]
def q58_4 : LReg := rG [oO 10 (iX 3 6 8),oO 11 (lA 3 10),oO 5 (.alloc 53 3 [.nils,.nils,.str []]),oX (sT 3 5 11)]
def q58_5 : LReg := ⟨[oM 12 3,oO 13 (fA 0 5),oO 14 (lV 1 13),oO 15 (cA 71 [14]),oO 16 (fA 1 5),oO 17 (lV 1 16),oO 18 (cA 114 [17]),oO 19 (fA 2 5),oO 20 (lV 1 19),oO 21 (.build [.nils,.nils,.str []] [(0,1,(.t 15)),(1,1,(.t 18)),(2,1,(.t 20))]),oO 22 (.mkSlice 53 3 1 [.nils,.nils,.str []] [(0,(.t 21))]),oO 23 (.append 53 3 64 (.t 12) (.t 22)),oM 3 23],true,[(1,4),(2,4),(3,4),(1,5),(2,5),(3,5),(1,7),(2,7),(3,7),(4,7),(5,7),(6,7),(1,8),(2,8),(3,8),(4,8),(5,8),(6,8)]⟩
def q58_6 : LReg := rG [oO 24 (bK .add 8 1),oM 8 24]
def q58_7 : LReg := rG [oM 25 3,oM 2 25]
def Tryz.l_release_clone : LCode := (.seq (.reg q58_0) (.seq (.reg q58_1) (.seq (.seq (.reg q58_2) (.block 0 (.loop (.seq (.reg q58_3) (.seq (.cond (.t 9) .skip (.exit 0)) (.seq (.block 1 (.seq (.reg q58_4) (.reg q58_5))) (.reg q58_6))))))) (.seq (.reg q58_7) .ret))))
theorem Tryz.c_release_clone : fnComp Tryz.prog 58 = some (26, Tryz.l_release_clone,[.t 2]) := by kernel_rfl
def q14_0 : LReg := rG [oO 3 (.box 25 1 (.t 1)),oO 4 (.alloc 29 3 [.nils,.nils,.nils]),oO 5 (.alloc 31 2 [.int .i64 0,.int .i64 0])]
def q14_1 : LReg := rG [oM 13 0,oO 14 (cA 54 [13]),oO 6 (.alloc 31 2 [.int .i64 0,.int .i64 0]),oX (sT 2 6 14)]
def q14_2 : LReg := rG [oO 15 (lA 2 6),oO 16 (.build [.int .i64 0,.int .i64 0] []),oO 17 (.eqs true [0,0] (.t 15) (.t 16))]
def q14_3 : LReg := ⟨[oO 18 (.build [.nils,.nils,.nils] []),oO 19 (lA 2 6),oX (sT 3 4 18),oX (sT 2 5 19)],true,[(1,2)]⟩
def q14_4 : LReg := rG [oO 20 (lA 1 3),oO 21 (.call 55 [(.t 20),(kI (-2))]),oO 7 (.alloc 31 2 [.int .i64 0,.int .i64 0]),oX (sT 2 7 21)]
def q14_5 : LReg := rG [oO 22 (lA 2 7),oO 23 (.build [.int .i64 0,.int .i64 0] []),oO 24 (.eqs true [0,0] (.t 22) (.t 23))]
def q14_6 : LReg := ⟨[oO 25 (.build [.nils,.nils,.nils] []),oO 26 (lA 2 7),oX (sT 3 4 25),oX (sT 2 5 26)],true,[(1,2)]⟩
def q14_7 : LReg := rG [oM 27 0,oO 28 (cA 56 [27]),oM 8 28]
def q14_8 : LReg := rG [oM 29 8,oO 30 (lN 29),oO 31 (bK .gtr 30 24)]
def q14_9 : LReg := rG [oO 32 (.build [.nils,.nils,.nils] []),oO 33 (.build [.int .i64 0,.int .i64 0] [(0,1,(kI 10)),(1,1,(kI (-3)))]),oX (sT 3 4 32),oX (sT 2 5 33)]
def q14_10 : LReg := rG [oM 35 0,oO 36 (lA 1 3),oO 37 (cA 57 [35,36]),oM 34 37,oO 38 (eX 0 34),oO 39 (eX 1 34),oO 9 (.alloc 25 1 [.nils]),oO 10 (.alloc 31 2 [.int .i64 0,.int .i64 0]),oX (sT 1 9 38),oX (sT 2 10 39)]
def q14_11 : LReg := rG [oO 40 (lA 2 10),oO 41 (.build [.int .i64 0,.int .i64 0] []),oO 42 (.eqs true [0,0] (.t 40) (.t 41))]
def q14_12 : LReg := ⟨[oO 43 (.build [.nils,.nils,.nils] []),oO 44 (lA 2 10),oX (sT 3 4 43),oX (sT 2 5 44)],true,[(1,2)]⟩
def q14_13 : LReg := rG [oM 46 8,oO 47 (lA 1 3),oO 48 (cA 16 [46,47]),oM 45 48,oO 49 (eX 0 45),oO 50 (eX 1 45),oO 12 (.alloc 31 2 [.int .i64 0,.int .i64 0]),oM 11 49,oX (sT 2 12 50)]
def q14_14 : LReg := ⟨[oM 51 0,oO 52 (cA 58 [51]),oM 53 11,oO 54 (lA 1 9),oO 55 (.build [.nils,.nils,.nils] [(0,1,(.t 52)),(1,1,(.t 53)),(2,1,(.t 54))]),oO 56 (.build [.int .i64 0,.int .i64 0] []),oX (sT 3 4 55),oX (sT 2 5 56)],true,[(1,3)]⟩
def Tryz.l_release_Make : LCode := (.seq (.reg q14_0) (.seq (.seq (.reg q14_1) (.seq (.reg q14_2) (.cond (.t 17) (.seq (.reg q14_3) .ret) .skip))) (.seq (.seq (.reg q14_4) (.seq (.reg q14_5) (.cond (.t 24) (.seq (.reg q14_6) .ret) .skip))) (.seq (.reg q14_7) (.seq (.seq (.reg q14_8) (.cond (.t 31) (.seq (.reg q14_9) .ret) .skip)) (.seq (.reg q14_10) (.seq (.seq (.reg q14_11) (.cond (.t 42) (.seq (.reg q14_12) .ret) .skip)) (.seq (.reg q14_13) (.seq (.reg q14_14) .ret)))))))))
theorem Tryz.c_release_Make : fnComp Tryz.prog 14 = some (57, Tryz.l_release_Make,[.cell 4 3 true,.cell 5 2 true]) := by kernel_rfl
def q69_0 : LReg := rG [oO 2 (mK (kB false))]
def q69_1 : LReg := rG [oM 3 0,oO 4 (bK .geq 3 0),oM 5 4,oT 6 5 (.mv (.t 0)),oT 7 5 (bK .lss 6 2305843009213693951),oO 8 (pK 5 7 (kB false)),oM 2 8]
def Tryz.l_signing_IsDigest : LCode := (.seq (.reg q69_0) (.seq (.reg q69_1) .ret))
theorem Tryz.c_signing_IsDigest : fnComp Tryz.prog 69 = some (9, Tryz.l_signing_IsDigest,[.t 2]) := by kernel_rfl
theorem Tryz.b_bom_Validate_1 : bodied Tryz.prog 116 = true := by kernel_rfl
def q116_0 : LReg := rG [oO 3 (mK (.c (.str [])))]
def q116_1 : LReg := rG [oO 4 (lV 1 1),oM 5 0,oO 6 (iX 2 4 5),oO 7 (fA 0 6),oO 8 (lV 1 7),oM 3 8]
def Tryz.l_bom_Validate_1 : LCode := (.seq (.reg q116_0) (.seq (.reg q116_1) .ret))
theorem Tryz.c_bom_Validate_1 : fnComp Tryz.prog 116 = some (9, Tryz.l_bom_Validate_1,[.t 3]) := by kernel_rfl
def q62_0 : LReg := rG [oO 1 (.box 27 1 (.t 0)),oO 2 (.alloc 31 2 [.int .i64 0,.int .i64 0])]
def q62_1 : LReg := rG [oO 6 (lV 1 1),oO 7 (lN 6),oO 8 (.mkfn 116 [] [(.t 1)]),oO 9 (cA 59 [7,8]),oO 3 (.alloc 31 2 [.int .i64 0,.int .i64 0]),oX (sT 2 3 9)]
def q62_2 : LReg := rG [oO 10 (lA 2 3),oO 11 (.build [.int .i64 0,.int .i64 0] []),oO 12 (.eqs true [0,0] (.t 10) (.t 11))]
def q62_3 : LReg := rG [oO 13 (lA 2 3),oX (sT 2 2 13)]
def q62_4 : LReg := rG [oO 14 (lV 1 1),oO 15 (lN 14),oO 16 (mK (kI 0))]
def q62_5 : LReg := rG [oO 17 (bT .lss 16 15)]
def q62_6 : LReg := rG [oM 18 16,oO 19 (iX 2 14 16),oO 20 (lA 2 19),oO 5 (.alloc 46 2 [.str [],.int .i64 0]),oM 4 18,oX (sT 2 5 20)]
def q62_7 : LReg := rG [oO 21 (fA 1 5),oO 22 (lV 1 21),oO 23 (bK .neq 22 (-1)),oM 24 23,oT 25 24 (fA 1 5),oT 26 24 (lV 1 25),oT 27 24 (cA 69 [26]),oT 28 24 (.un .not (.t 27)),oO 29 (pK 24 28 (kB false))]
def q62_8 : LReg := rG [oM 30 4,oO 31 (.build [.int .i64 0,.int .i64 0] [(0,1,(kI 3)),(1,1,(.t 30))]),oX (sT 2 2 31)]
def q62_9 : LReg := rG [oO 32 (bK .add 16 1),oM 16 32]
def q62_10 : LReg := rG [oO 33 (.build [.int .i64 0,.int .i64 0] []),oX (sT 2 2 33)]
def Tryz.l_bom_Validate : LCode := (.seq (.reg q62_0) (.seq (.seq (.reg q62_1) (.seq (.reg q62_2) (.cond (.t 12) (.seq (.reg q62_3) .ret) .skip))) (.seq (.seq (.reg q62_4) (.block 0 (.loop (.seq (.reg q62_5) (.seq (.cond (.t 17) .skip (.exit 0)) (.seq (.block 1 (.seq (.reg q62_6) (.seq (.reg q62_7) (.cond (.t 29) (.seq (.reg q62_8) .ret) .skip)))) (.reg q62_9))))))) (.seq (.reg q62_10) .ret))))
theorem Tryz.c_bom_Validate : fnComp Tryz.prog 62 = some (34, Tryz.l_bom_Validate,[.cell 2 2 true]) := by kernel_rfl
def q43_0 : LReg := rG [oO 1 (.box 29 3 (.t 0)),oO 2 (.alloc 31 2 [.int .i64 0,.int .i64 0])]
def q43_1 : LReg := rG [oO 5 (fA 0 1),oO 6 (lV 1 5),oO 7 (cA 54 [6]),oO 3 (.alloc 31 2 [.int .i64 0,.int .i64 0]),oX (sT 2 3 7)]
def q43_2 : LReg := rG [oO 8 (lA 2 3),oO 9 (.build [.int .i64 0,.int .i64 0] []),oO 10 (.eqs true [0,0] (.t 8) (.t 9))]
def q43_3 : LReg := rG [oO 11 (lA 2 3),oX (sT 2 2 11)]
def q43_4 : LReg := rG [oO 12 (fA 1 1),oO 13 (lV 1 12),oO 14 (cA 62 [13]),oO 4 (.alloc 31 2 [.int .i64 0,.int .i64 0]),oX (sT 2 4 14)]
def q43_5 : LReg := rG [oO 15 (lA 2 4),oO 16 (.build [.int .i64 0,.int .i64 0] []),oO 17 (.eqs true [0,0] (.t 15) (.t 16))]
def q43_6 : LReg := rG [oO 18 (fA 0 4),oO 19 (lV 1 18),oO 20 (.build [.int .i64 0,.int .i64 0] [(0,1,(.t 19)),(1,1,(kI (-2)))]),oX (sT 2 2 20)]
def q43_7 : LReg := rG [oO 21 (fA 2 1),oO 22 (lA 1 21),oO 23 (.call 55 [(.t 22),(kI (-3))]),oX (sT 2 2 23)]
def Tryz.l_release_Validate : LCode := (.seq (.reg q43_0) (.seq (.seq (.reg q43_1) (.seq (.reg q43_2) (.cond (.t 10) (.seq (.reg q43_3) .ret) .skip))) (.seq (.seq (.reg q43_4) (.seq (.reg q43_5) (.cond (.t 17) (.seq (.reg q43_6) .ret) .skip))) (.seq (.reg q43_7) .ret))))
theorem Tryz.c_release_Validate : fnComp Tryz.prog 43 = some (24, Tryz.l_release_Validate,[.cell 2 2 true]) := by kernel_rfl
def q17_0 : LReg := rG [oO 3 (.box 25 1 (.t 1)),oO 4 (mK (.c (.nils))),oO 5 (.alloc 31 2 [.int .i64 0,.int .i64 0])]
def q17_1 : LReg := rG [oM 11 0,oO 12 (cA 62 [11]),oO 6 (.alloc 31 2 [.int .i64 0,.int .i64 0]),oX (sT 2 6 12)]
def q17_2 : LReg := rG [oO 13 (lA 2 6),oO 14 (.build [.int .i64 0,.int .i64 0] []),oO 15 (.eqs true [0,0] (.t 13) (.t 14))]
def q17_3 : LReg := ⟨[oO 16 (lA 2 6),oO 4 (mK (.c (.nils))),oX (sT 2 5 16)],true,[]⟩
def q17_4 : LReg := rG [oO 17 (lA 1 3),oO 18 (.call 55 [(.t 17),(kI (-2))]),oO 7 (.alloc 31 2 [.int .i64 0,.int .i64 0]),oX (sT 2 7 18)]
def q17_5 : LReg := rG [oO 19 (lA 2 7),oO 20 (.build [.int .i64 0,.int .i64 0] []),oO 21 (.eqs true [0,0] (.t 19) (.t 20))]
def q17_6 : LReg := ⟨[oO 22 (lA 2 7),oO 4 (mK (.c (.nils))),oX (sT 2 5 22)],true,[]⟩
def q17_7 : LReg := rG [oO 8 (mK (.c (.nils)))]
def q17_8 : LReg := rG [oM 23 0,oO 24 (lN 23),oO 25 (mK (kI 0))]
def q17_9 : LReg := rG [oO 26 (bT .lss 25 24)]
def q17_10 : LReg := rG [oM 27 25,oO 28 (iX 2 23 25),oO 29 (lA 2 28),oO 10 (.alloc 46 2 [.str [],.int .i64 0]),oM 9 27,oX (sT 2 10 29)]
def q17_11 : LReg := ⟨[oO 30 (fA 1 10),oO 31 (lV 1 30),oO 32 (lA 1 3),oO 33 (fA 0 10),oO 34 (lV 1 33),oO 35 (cA 61 [32,34]),oO 36 (bT .neq 31 35)],true,[(0,2),(1,2),(0,3),(1,3),(2,3),(0,4),(1,4),(2,4),(0,5),(1,5)]⟩
def q17_12 : LReg := rG [oM 37 8,oM 38 9,oO 39 (.mkSlice 3 1 1 [.int .i64 0] [(0,(.t 38))]),oO 40 (.append 3 1 8 (.t 37) (.t 39)),oM 8 40]
def q17_13 : LReg := rG [oO 41 (bK .add 25 1),oM 25 41]
def q17_14 : LReg := rG [oM 42 8,oO 43 (.build [.int .i64 0,.int .i64 0] []),oM 4 42,oX (sT 2 5 43)]
def Tryz.l_bom_Check : LCode := (.seq (.reg q17_0) (.seq (.seq (.reg q17_1) (.seq (.reg q17_2) (.cond (.t 15) (.seq (.reg q17_3) .ret) .skip))) (.seq (.seq (.reg q17_4) (.seq (.reg q17_5) (.cond (.t 21) (.seq (.reg q17_6) .ret) .skip))) (.seq (.reg q17_7) (.seq (.seq (.reg q17_8) (.block 0 (.loop (.seq (.reg q17_9) (.seq (.cond (.t 26) .skip (.exit 0)) (.seq (.block 1 (.seq (.reg q17_10) (.seq (.reg q17_11) (.cond (.t 36) (.reg q17_12) .skip)))) (.reg q17_13))))))) (.seq (.reg q17_14) .ret))))))
theorem Tryz.c_bom_Check : fnComp Tryz.prog 17 = some (44, Tryz.l_bom_Check,[.t 4,.cell 5 2 true]) := by kernel_rfl
def q138_0 : LReg := rG [oO 4 (mK (kI 0))]
def q138_1 : LReg := rG [oM 6 0,oO 7 (lN 6),oO 8 (mK (kI 0))]
def q138_2 : LReg := rG [oO 9 (bT .lss 8 7)]
def q138_3 : LReg := rG [oM 10 8,oM 5 10]
def q138_4 : LReg := rG [oM 11 1,oM 12 0,oM 13 5,oO 14 (iX 2 12 13),oO 15 (lA 2 14),oO 16 (.callv (.t 11) [(.t 15)])]
def q138_5 : LReg := rG [oM 17 5,oM 4 17]
def q138_6 : LReg := rG [oO 18 (bK .add 8 1),oM 8 18]
def q138_7 : LReg := rG [oO 4 (mK (kI (-1)))]
def Tryz.l_slices_IndexFunc_api_File_api_File : LCode := (.seq (.reg q138_0) (.seq (.seq (.reg q138_1) (.block 0 (.loop (.seq (.reg q138_2) (.seq (.cond (.t 9) .skip (.exit 0)) (.seq (.block 1 (.seq (.reg q138_3) (.seq (.reg q138_4) (.cond (.t 16) (.seq (.reg q138_5) .ret) .skip)))) (.reg q138_6))))))) (.seq (.reg q138_7) .ret)))
theorem Tryz.c_slices_IndexFunc_api_File_api_File : fnComp Tryz.prog 138 = some (19, Tryz.l_slices_IndexFunc_api_File_api_File,[.t 4]) := by kernel_rfl
def q98_0 : LReg := rG [oO 4 (mK (.c (.nils)))]
def q98_1 : LReg := rG [oM 8 0,oM 9 1,oO 10 (cA 138 [8,9]),oM 5 10]
def q98_2 : LReg := rG [oM 11 5,oO 12 (bK .eql 11 (-1))]
def q98_3 : LReg := rG [oM 13 0,oM 4 13]
def q98_4 : LReg := rG [oM 14 5,oO 15 (bK .add 14 1),oM 6 15]
def q98_5 : LReg := rG [oM 16 6,oM 17 0,oO 18 (lN 17),oO 19 (bT .lss 16 18)]
def q98_6 : LReg := rG [oM 22 0,oM 23 6,oO 24 (iX 2 22 23),oO 25 (lA 2 24),oO 7 (.alloc 37 2 [.str [],.nils]),oX (sT 2 7 25)]
def q98_7 : LReg := rG [oM 26 1,oO 27 (lA 2 7),oO 28 (.callv (.t 26) [(.t 27)]),oO 29 (.un .not (.t 28))]
def q98_8 : LReg := rG [oM 30 0,oM 31 5,oO 32 (lA 2 7),oO 33 (iX 2 30 31),oX (sT 2 33 32)]
def q98_9 : LReg := rG [oM 34 5,oO 35 (bK .add 34 1),oM 5 35]
def q98_10 : LReg := rG [oM 20 6,oO 21 (bK .add 20 1),oM 6 21]
def q98_11 : LReg := rG [oM 36 0,oM 37 5,oO 38 (.slice 2 (.t 36) (some (.t 37)) none),oX (.clear 2 [.str [],.nils] (.t 38))]
def q98_12 : LReg := rG [oM 39 0,oM 40 5,oO 41 (.slice 2 (.t 39) none (some (.t 40))),oM 4 41]
def Tryz.l_slices_DeleteFunc_api_File_api_File : LCode := (.seq (.reg q98_0) (.seq (.reg q98_1) (.seq (.seq (.reg q98_2) (.cond (.t 12) (.seq (.reg q98_3) .ret) .skip)) (.seq (.seq (.reg q98_4) (.block 0 (.loop (.seq (.seq (.reg q98_5) (.cond (.t 19) .skip (.exit 0))) (.seq (.block 1 (.seq (.reg q98_6) (.seq (.reg q98_7) (.cond (.t 29) (.seq (.reg q98_8) (.reg q98_9)) .skip)))) (.reg q98_10)))))) (.seq (.reg q98_11) (.seq (.reg q98_12) .ret))))))
theorem Tryz.c_slices_DeleteFunc_api_File_api_File : fnComp Tryz.prog 98 = some (42, Tryz.l_slices_DeleteFunc_api_File_api_File,[.t 4]) := by kernel_rfl
def q139_0 : LReg := rG [oO 4 (mK (kI 0))]
def q139_1 : LReg := rG [oM 6 0,oO 7 (lN 6),oO 8 (mK (kI 0))]
def q139_2 : LReg := rG [oO 9 (bT .lss 8 7)]
def q139_3 : LReg := rG [oM 10 8,oM 5 10]
def q139_4 : LReg := rG [oM 11 1,oM 12 0,oM 13 5,oO 14 (iX 2 12 13),oO 15 (lA 2 14),oO 16 (.callv (.t 11) [(.t 15)])]
def q139_5 : LReg := rG [oM 17 5,oM 4 17]
def q139_6 : LReg := rG [oO 18 (bK .add 8 1),oM 8 18]
def q139_7 : LReg := rG [oO 4 (mK (kI (-1)))]
def Tryz.l_slices_IndexFunc_api_BomEntry_api_BomEntry : LCode := (.seq (.reg q139_0) (.seq (.seq (.reg q139_1) (.block 0 (.loop (.seq (.reg q139_2) (.seq (.cond (.t 9) .skip (.exit 0)) (.seq (.block 1 (.seq (.reg q139_3) (.seq (.reg q139_4) (.cond (.t 16) (.seq (.reg q139_5) .ret) .skip)))) (.reg q139_6))))))) (.seq (.reg q139_7) .ret)))
theorem Tryz.c_slices_IndexFunc_api_BomEntry_api_BomEntry : fnComp Tryz.prog 139 = some (19, Tryz.l_slices_IndexFunc_api_BomEntry_api_BomEntry,[.t 4]) := by kernel_rfl
def q100_0 : LReg := rG [oO 4 (mK (kB false))]
def q100_1 : LReg := rG [oM 5 0,oM 6 1,oO 7 (cA 139 [5,6]),oO 8 (bK .geq 7 0),oM 4 8]
def Tryz.l_slices_ContainsFunc_api_BomEntry_api_BomEntry : LCode := (.seq (.reg q100_0) (.seq (.reg q100_1) .ret))
theorem Tryz.c_slices_ContainsFunc_api_BomEntry_api_BomEntry : fnComp Tryz.prog 100 = some (9, Tryz.l_slices_ContainsFunc_api_BomEntry_api_BomEntry,[.t 4]) := by kernel_rfl
theorem Tryz.b_release_Rebuild_1_1 : bodied Tryz.prog 101 = true := by kernel_rfl
def q101_0 : LReg := rG [oO 2 (.box 46 2 (.t 0)),oO 3 (mK (kB false))]
def q101_1 : LReg := rG [oO 4 (fA 0 2),oO 5 (lV 1 4),oO 6 (fA 0 1),oO 7 (lV 1 6),oO 8 (bT .eql 5 7),oM 3 8]
def Tryz.l_release_Rebuild_1_1 : LCode := (.seq (.reg q101_0) (.seq (.reg q101_1) .ret))
theorem Tryz.c_release_Rebuild_1_1 : fnComp Tryz.prog 101 = some (9, Tryz.l_release_Rebuild_1_1,[.t 3]) := by kernel_rfl
theorem Tryz.b_release_Rebuild_1 : bodied Tryz.prog 99 = true := by kernel_rfl
def q99_0 : LReg := rG [oO 2 (.box 37 2 (.t 0)),oO 3 (mK (kB false))]
def q99_1 : LReg := rG [oO 4 (fA 1 1),oO 5 (lV 1 4),oO 6 (.mkfn 101 [] [(.t 2)]),oO 7 (cA 100 [5,6]),oO 8 (.un .not (.t 7)),oM 3 8]
def Tryz.l_release_Rebuild_1 : LCode := (.seq (.reg q99_0) (.seq (.reg q99_1) .ret))
theorem Tryz.c_release_Rebuild_1 : fnComp Tryz.prog 99 = some (9, Tryz.l_release_Rebuild_1,[.t 3]) := by kernel_rfl
def q46_0 : LReg := rG [oO 2 (.box 29 3 (.t 0)),oO 3 (.box 25 1 (.t 1)),oO 4 (.alloc 25 1 [.nils]),oO 5 (.alloc 31 2 [.int .i64 0,.int .i64 0])]
def q46_1 : LReg := rG [oO 11 (lA 3 2),oO 12 (cA 43 [11]),oO 6 (.alloc 31 2 [.int .i64 0,.int .i64 0]),oX (sT 2 6 12)]
def q46_2 : LReg := rG [oO 13 (lA 2 6),oO 14 (.build [.int .i64 0,.int .i64 0] []),oO 15 (.eqs true [0,0] (.t 13) (.t 14))]
def q46_3 : LReg := ⟨[oO 16 (.build [.nils] []),oO 17 (lA 2 6),oX (sT 1 4 16),oX (sT 2 5 17)],true,[(1,2)]⟩
def q46_4 : LReg := rG [oO 18 (lA 1 3),oO 19 (.call 55 [(.t 18),(kI (-4))]),oO 7 (.alloc 31 2 [.int .i64 0,.int .i64 0]),oX (sT 2 7 19)]
def q46_5 : LReg := rG [oO 20 (lA 2 7),oO 21 (.build [.int .i64 0,.int .i64 0] []),oO 22 (.eqs true [0,0] (.t 20) (.t 21))]
def q46_6 : LReg := ⟨[oO 23 (.build [.nils] []),oO 24 (lA 2 7),oX (sT 1 4 23),oX (sT 2 5 24)],true,[(1,2)]⟩
def q46_7 : LReg := rG [oO 26 (fA 1 2),oO 27 (lV 1 26),oO 28 (lA 1 3),oO 29 (cA 17 [27,28]),oM 25 29,oO 30 (eX 0 25),oO 31 (eX 1 25),oO 9 (.alloc 31 2 [.int .i64 0,.int .i64 0]),oM 8 30,oX (sT 2 9 31)]
def q46_8 : LReg := rG [oM 32 8,oO 33 (lN 32),oO 34 (bK .gtr 33 0)]
def q46_9 : LReg := ⟨[oO 35 (.build [.nils] []),oM 36 8,oO 37 (.idx 1 (.t 36) (kI 0)),oO 38 (lV 1 37),oO 39 (.build [.int .i64 0,.int .i64 0] [(0,1,(kI 18)),(1,1,(.t 38))]),oX (sT 1 4 35),oX (sT 2 5 39)],true,[(2,5),(3,5)]⟩
def q46_10 : LReg := rG [oO 40 (lA 1 3),oO 41 (cA 97 [40]),oO 10 (.alloc 25 1 [.nils]),oX (sT 1 10 41)]
def q46_11 : LReg := rG [oO 42 (fA 0 10),oO 43 (lV 1 42),oO 44 (.mkfn 99 [] [(.t 2)]),oO 45 (cA 98 [43,44]),oO 46 (fA 0 10),oX (sT 1 46 45)]
def q46_12 : LReg := rG [oO 47 (fA 0 2),oO 48 (lV 1 47),oO 49 (lA 1 10),oO 50 (cA 57 [48,49]),oO 51 (eX 0 50),oO 52 (eX 1 50),oX (sT 1 4 51),oX (sT 2 5 52)]
def Tryz.l_release_Rebuild : LCode := (.seq (.reg q46_0) (.seq (.seq (.reg q46_1) (.seq (.reg q46_2) (.cond (.t 15) (.seq (.reg q46_3) .ret) .skip))) (.seq (.seq (.reg q46_4) (.seq (.reg q46_5) (.cond (.t 22) (.seq (.reg q46_6) .ret) .skip))) (.seq (.seq (.reg q46_7) (.seq (.reg q46_8) (.cond (.t 34) (.seq (.reg q46_9) .ret) .skip))) (.seq (.reg q46_10) (.seq (.reg q46_11) (.seq (.reg q46_12) .ret)))))))
theorem Tryz.c_release_Rebuild : fnComp Tryz.prog 46 = some (53, Tryz.l_release_Rebuild,[.cell 4 1 true,.cell 5 2 true]) := by kernel_rfl
def q140_0 : LReg := rG [oO 6 (mK (kB false))]
def q140_1 : LReg := rG [oM 10 0,oO 11 (lN 10),oM 12 1,oO 13 (lN 12),oO 14 (bT .neq 11 13)]
def q140_2 : LReg := rG [oO 6 (mK (kB false))]
def q140_3 : LReg := rG [oM 15 0,oO 16 (lN 15),oO 17 (mK (kI 0))]
def q140_4 : LReg := rG [oO 18 (bT .lss 17 16)]
def q140_5 : LReg := rG [oM 19 17,oO 20 (iX 2 15 17),oO 21 (lA 2 20),oO 8 (.alloc 37 2 [.str [],.nils]),oM 7 19,oX (sT 2 8 21)]
def q140_6 : LReg := rG [oM 22 1,oM 23 7,oO 24 (iX 2 22 23),oO 25 (lA 2 24),oO 9 (.alloc 37 2 [.str [],.nils]),oX (sT 2 9 25)]
def q140_7 : LReg := rG [oM 26 2,oO 27 (lA 2 8),oO 28 (lA 2 9),oO 29 (.callv (.t 26) [(.t 27),(.t 28)]),oO 30 (.un .not (.t 29))]
def q140_8 : LReg := rG [oO 6 (mK (kB false))]
def q140_9 : LReg := rG [oO 31 (bK .add 17 1),oM 17 31]
def q140_10 : LReg := rG [oO 6 (mK (kB true))]
def Tryz.l_slices_EqualFunc_api_File_api_File_api_File_api_File : LCode := (.seq (.reg q140_0) (.seq (.seq (.reg q140_1) (.cond (.t 14) (.seq (.reg q140_2) .ret) .skip)) (.seq (.seq (.reg q140_3) (.block 0 (.loop (.seq (.reg q140_4) (.seq (.cond (.t 18) .skip (.exit 0)) (.seq (.block 1 (.seq (.reg q140_5) (.seq (.reg q140_6) (.seq (.reg q140_7) (.cond (.t 30) (.seq (.reg q140_8) .ret) .skip))))) (.reg q140_9))))))) (.seq (.reg q140_10) .ret))))
theorem Tryz.c_slices_EqualFunc_api_File_api_File_api_File_api_File : fnComp Tryz.prog 140 = some (32, Tryz.l_slices_EqualFunc_api_File_api_File_api_File_api_File,[.t 6]) := by kernel_rfl
def q142_0 : LReg := rG [oO 4 (mK (kB false))]
def q142_1 : LReg := rG [oM 6 0,oO 7 (lN 6),oM 8 1,oO 9 (lN 8),oO 10 (bT .neq 7 9)]
def q142_2 : LReg := rG [oO 4 (mK (kB false))]
def q142_3 : LReg := rG [oM 11 0,oO 12 (lN 11),oO 13 (mK (kI 0))]
def q142_4 : LReg := rG [oO 14 (bT .lss 13 12)]
def q142_5 : LReg := rG [oM 15 13,oM 5 15]
def q142_6 : LReg := ⟨[oM 16 0,oM 17 5,oO 18 (iX 1 16 17),oO 19 (lV 1 18),oM 20 1,oM 21 5,oO 22 (iX 1 20 21),oO 23 (lV 1 22),oO 24 (bT .neq 19 23)],true,[(2,6),(3,6),(2,7),(3,7)]⟩
def q142_7 : LReg := rG [oO 4 (mK (kB false))]
def q142_8 : LReg := rG [oO 25 (bK .add 13 1),oM 13 25]
def q142_9 : LReg := rG [oO 4 (mK (kB true))]
def Tryz.l_slices_Equal_string : LCode := (.seq (.reg q142_0) (.seq (.seq (.reg q142_1) (.cond (.t 10) (.seq (.reg q142_2) .ret) .skip)) (.seq (.seq (.reg q142_3) (.block 0 (.loop (.seq (.reg q142_4) (.seq (.cond (.t 14) .skip (.exit 0)) (.seq (.block 1 (.seq (.reg q142_5) (.seq (.reg q142_6) (.cond (.t 24) (.seq (.reg q142_7) .ret) .skip)))) (.reg q142_8))))))) (.seq (.reg q142_9) .ret))))
theorem Tryz.c_slices_Equal_string : fnComp Tryz.prog 142 = some (26, Tryz.l_slices_Equal_string,[.t 4]) := by kernel_rfl
theorem Tryz.b_treepatch_Same_1 : bodied Tryz.prog 141 = true := by kernel_rfl
def q141_0 : LReg := rG [oO 2 (.box 37 2 (.t 0)),oO 3 (.box 37 2 (.t 1)),oO 4 (mK (kB false))]
def q141_1 : LReg := rG [oO 5 (fA 0 2),oO 6 (lV 1 5),oO 7 (fA 0 3),oO 8 (lV 1 7),oO 9 (bT .eql 6 8),oM 10 9,oT 11 10 (fA 1 2),oT 12 10 (lV 1 11),oT 13 10 (fA 1 3),oT 14 10 (lV 1 13),oT 15 10 (cA 142 [12,14]),oO 16 (pK 10 15 (kB false)),oM 4 16]
def Tryz.l_treepatch_Same_1 : LCode := (.seq (.reg q141_0) (.seq (.reg q141_1) .ret))
theorem Tryz.c_treepatch_Same_1 : fnComp Tryz.prog 141 = some (17, Tryz.l_treepatch_Same_1,[.t 4]) := by kernel_rfl
def q102_0 : LReg := rG [oO 2 (.box 25 1 (.t 0)),oO 3 (.box 25 1 (.t 1)),oO 4 (mK (kB false))]
def q102_1 : LReg := rG [oO 5 (fA 0 2),oO 6 (lV 1 5),oO 7 (fA 0 3),oO 8 (lV 1 7),oO 9 (.call 140 [(.t 6),(.t 8),(.c (.fn 141 [] []))]),oM 4 9]
def Tryz.l_treepatch_Same : LCode := (.seq (.reg q102_0) (.seq (.reg q102_1) .ret))
theorem Tryz.c_treepatch_Same : fnComp Tryz.prog 102 = some (10, Tryz.l_treepatch_Same,[.t 4]) := by kernel_rfl
def q47_0 : LReg := rG [oO 2 (.box 29 3 (.t 0)),oO 3 (.box 25 1 (.t 1)),oO 4 (mK (kB false)),oO 5 (.alloc 31 2 [.int .i64 0,.int .i64 0])]
def q47_1 : LReg := rG [oO 9 (lA 3 2),oO 10 (lA 1 3),oO 11 (cA 46 [9,10]),oM 8 11,oO 12 (eX 0 8),oO 13 (eX 1 8),oO 6 (.alloc 25 1 [.nils]),oO 7 (.alloc 31 2 [.int .i64 0,.int .i64 0]),oX (sT 1 6 12),oX (sT 2 7 13)]
def q47_2 : LReg := ⟨[oO 14 (lA 2 7),oO 15 (.build [.int .i64 0,.int .i64 0] []),oO 16 (.eqs false [0,0] (.t 14) (.t 15)),oM 17 16,oT 18 17 (lA 1 6),oT 19 17 (fA 2 2),oT 20 17 (lA 1 19),oT 21 17 (cA 102 [18,20]),oO 22 (pK 17 21 (kB false)),oO 23 (lA 2 7),oM 4 22,oX (sT 2 5 23)],true,[(4,5),(4,6),(0,9),(4,9),(5,9),(6,9),(7,9)]⟩
def Tryz.l_release_Verify : LCode := (.seq (.reg q47_0) (.seq (.reg q47_1) (.seq (.reg q47_2) .ret)))
theorem Tryz.c_release_Verify : fnComp Tryz.prog 47 = some (24, Tryz.l_release_Verify,[.t 4,.cell 5 2 true]) := by kernel_rfl
def q24_0 : LReg := rG [oO 4 (mK (kB false))]
def q24_1 : LReg := rG [oM 6 0,oO 7 (lN 6),oM 8 1,oO 9 (lN 8),oO 10 (bT .neq 7 9)]
def q24_2 : LReg := rG [oO 4 (mK (kB false))]
def q24_3 : LReg := rG [oO 5 (mK (kI 0))]
def q24_4 : LReg := rG [oM 11 5,oM 12 0,oO 13 (lN 12),oO 14 (bT .lss 11 13)]
def q24_5 : LReg := ⟨[oM 17 0,oM 18 5,oO 19 (iX 1 17 18),oO 20 (lV 1 19),oM 21 1,oM 22 5,oO 23 (iX 1 21 22),oO 24 (lV 1 23),oO 25 (bT .neq 20 24)],true,[(2,6),(3,6),(2,7),(3,7)]⟩
def q24_6 : LReg := rG [oO 4 (mK (kB false))]
def q24_7 : LReg := rG [oM 15 5,oO 16 (bK .add 15 1),oM 5 16]
def q24_8 : LReg := rG [oO 4 (mK (kB true))]
def Tryz.l_ref6_Strings : LCode := (.seq (.reg q24_0) (.seq (.seq (.reg q24_1) (.cond (.t 10) (.seq (.reg q24_2) .ret) .skip)) (.seq (.seq (.reg q24_3) (.block 0 (.loop (.seq (.seq (.reg q24_4) (.cond (.t 14) .skip (.exit 0))) (.seq (.block 1 (.seq (.reg q24_5) (.cond (.t 25) (.seq (.reg q24_6) .ret) .skip))) (.reg q24_7)))))) (.seq (.reg q24_8) .ret))))
theorem Tryz.c_ref6_Strings : fnComp Tryz.prog 24 = some (26, Tryz.l_ref6_Strings,[.t 4]) := by kernel_rfl
def q48_0 : LReg := rG [oO 2 (.box 25 1 (.t 0)),oO 3 (.box 25 1 (.t 1)),oO 4 (mK (kB false))]
def q48_1 : LReg := rG [oO 6 (fA 0 2),oO 7 (lV 1 6),oO 8 (lN 7),oO 9 (fA 0 3),oO 10 (lV 1 9),oO 11 (lN 10),oO 12 (bT .neq 8 11)]
def q48_2 : LReg := rG [oO 4 (mK (kB false))]
def q48_3 : LReg := rG [oO 5 (mK (kI 0))]
def q48_4 : LReg := rG [oM 13 5,oO 14 (fA 0 2),oO 15 (lV 1 14),oO 16 (lN 15),oO 17 (bT .lss 13 16)]
def q48_5 : LReg := ⟨[oO 20 (fA 0 2),oO 21 (lV 1 20),oM 22 5,oO 23 (iX 2 21 22),oO 24 (fA 0 23),oO 25 (lV 1 24),oO 26 (fA 0 3),oO 27 (lV 1 26),oM 28 5,oO 29 (iX 2 27 28),oO 30 (fA 0 29),oO 31 (lV 1 30),oO 32 (bT .neq 25 31),oM 33 32,oF 34 33 (fA 0 2),oF 35 33 (lV 1 34),oF 36 33 (.mv (.t 5)),oF 37 33 (iX 2 35 36),oF 38 33 (fA 1 37),oF 39 33 (lV 1 38),oF 40 33 (fA 0 3),oF 41 33 (lV 1 40),oF 42 33 (.mv (.t 5)),oF 43 33 (iX 2 41 42),oF 44 33 (fA 1 43),oF 45 33 (lV 1 44),oF 46 33 (cA 24 [39,45]),oF 47 33 (.un .not (.t 46)),oO 48 (pL 33 (kB true) 47)],true,[(0,6),(1,6),(3,6),(4,6),(5,6),(0,7),(1,7),(3,7),(4,7),(5,7),(0,9),(1,9),(3,9),(4,9),(5,9),(0,10),(1,10),(3,10),(4,10),(5,10),(0,11),(1,11),(3,11),(4,11),(5,11),(14,20),(15,20),(17,20),(18,20),(19,20),(14,21),(15,21),(17,21),(18,21),(19,21),(14,23),(15,23),(17,23),(18,23),(19,23),(14,24),(15,24),(17,24),(18,24),(19,24),(14,25),(15,25),(17,25),(18,25),(19,25)]⟩
def q48_6 : LReg := rG [oO 4 (mK (kB false))]
def q48_7 : LReg := rG [oM 18 5,oO 19 (bK .add 18 1),oM 5 19]
def q48_8 : LReg := rG [oO 4 (mK (kB true))]
def Tryz.l_ref6_Trees : LCode := (.seq (.reg q48_0) (.seq (.seq (.reg q48_1) (.cond (.t 12) (.seq (.reg q48_2) .ret) .skip)) (.seq (.seq (.reg q48_3) (.block 0 (.loop (.seq (.seq (.reg q48_4) (.cond (.t 17) .skip (.exit 0))) (.seq (.block 1 (.seq (.reg q48_5) (.cond (.t 48) (.seq (.reg q48_6) .ret) .skip))) (.reg q48_7)))))) (.seq (.reg q48_8) .ret))))
theorem Tryz.c_ref6_Trees : fnComp Tryz.prog 48 = some (49, Tryz.l_ref6_Trees,[.t 4]) := by kernel_rfl
def q77_0 : LReg := rG [oO 0 (.alloc 53 3 [.nils,.nils,.str []])]
def q77_1 : LReg := rG [oO 1 (.mkSlice 9 1 1 [.str []] [(0,(.c (.str [97])))]),oO 2 (.build [.int .i64 0,.str []] [(0,1,(kI 1)),(1,1,(.c (.str [97])))]),oO 3 (.build [.int .i64 0,.str []] [(0,1,(kI 3)),(1,1,(.c (.str [122])))]),oO 4 (.build [.int .i64 0,.str []] [(0,1,(kI 4))]),oO 5 (.mkSlice 109 2 3 [.int .i64 0,.str []] [(0,(.t 2)),(1,(.t 3)),(2,(.t 4))]),oO 6 (.build [.nils,.nils,.str []] [(0,1,(.t 1)),(1,1,(.t 5)),(2,1,(.c (.str [98])))]),oX (sT 3 0 6)]
def Tryz.l_law6_action : LCode := (.seq (.reg q77_0) (.seq (.reg q77_1) .ret))
theorem Tryz.c_law6_action : fnComp Tryz.prog 77 = some (7, Tryz.l_law6_action,[.cell 0 3 true]) := by kernel_rfl
def q78_0 : LReg := rG [oO 0 (.alloc 25 1 [.nils])]
def q78_1 : LReg := rG [oO 1 (.mkSlice 9 1 2 [.str []] [(0,(.c (.str [120]))),(1,(.c (.str [121])))]),oO 2 (.build [.str [],.nils] [(0,1,(.c (.str [97]))),(1,1,(.t 1))]),oO 3 (.mkSlice 37 2 1 [.str [],.nils] [(0,(.t 2))]),oO 4 (.build [.nils] [(0,1,(.t 3))]),oX (sT 1 0 4)]
def Tryz.l_law6_files : LCode := (.seq (.reg q78_0) (.seq (.reg q78_1) .ret))
theorem Tryz.c_law6_files : fnComp Tryz.prog 78 = some (5, Tryz.l_law6_files,[.cell 0 1 true]) := by kernel_rfl
def q79_0 : LReg := rG [oO 4 (.alloc 31 2 [.int .i64 0,.int .i64 0])]
def q79_1 : LReg := rG [oM 5 0,oM 6 1,oO 7 (.build [.int .i64 0,.int .i64 0] [(0,1,(.t 5)),(1,1,(.t 6))]),oX (sT 2 4 7)]
def Tryz.l_law6_fault : LCode := (.seq (.reg q79_0) (.seq (.reg q79_1) .ret))
theorem Tryz.c_law6_fault : fnComp Tryz.prog 79 = some (8, Tryz.l_law6_fault,[.cell 4 2 true]) := by kernel_rfl
def q37_0 : LReg := rG [oO 0 (mK (kB false))]
def q37_1 : LReg := rG [oO 11 (cA 77 []),oO 12 (.mkSlice 53 3 1 [.nils,.nils,.str []] [(0,(.t 11))]),oO 13 (cA 78 []),oO 14 (cA 14 [12,13]),oM 10 14,oO 15 (eX 0 10),oO 16 (eX 1 10),oO 1 (.alloc 29 3 [.nils,.nils,.nils]),oO 2 (.alloc 31 2 [.int .i64 0,.int .i64 0]),oX (sT 3 1 15),oX (sT 2 2 16)]
def q37_2 : LReg := ⟨[oO 18 (lA 3 1),oO 19 (cA 78 []),oO 20 (cA 46 [18,19]),oM 17 20,oO 21 (eX 0 17),oO 22 (eX 1 17),oO 3 (.alloc 25 1 [.nils]),oO 4 (.alloc 31 2 [.int .i64 0,.int .i64 0]),oX (sT 1 3 21),oX (sT 2 4 22)],true,[(0,1),(0,6),(1,6),(2,6),(0,7),(1,7),(2,7),(6,7)]⟩
def q37_3 : LReg := ⟨[oO 24 (lA 3 1),oO 25 (cA 78 []),oO 26 (cA 47 [24,25]),oM 23 26,oO 27 (eX 0 23),oO 28 (eX 1 23),oO 6 (.alloc 31 2 [.int .i64 0,.int .i64 0]),oM 5 27,oX (sT 2 6 28)],true,[(0,1),(0,6),(1,6),(2,6)]⟩
def q37_4 : LReg := rG [oO 30 (lA 3 1),oO 31 (.build [.nils] []),oO 32 (cA 46 [30,31]),oM 29 32,oO 33 (eX 0 29),oO 34 (eX 1 29),oO 7 (.alloc 25 1 [.nils]),oO 8 (.alloc 31 2 [.int .i64 0,.int .i64 0]),oX (sT 1 7 33),oX (sT 2 8 34)]
def q37_5 : LReg := rG [oO 35 (.mkSlice 9 1 3 [.str []] [(0,(.c (.str [122]))),(1,(.c (.str [121]))),(2,(.c (.str [120])))]),oO 36 (.build [.str [],.nils] [(0,1,(.c (.str [98]))),(1,1,(.t 35))]),oO 37 (.mkSlice 37 2 1 [.str [],.nils] [(0,(.t 36))]),oO 38 (.build [.nils] [(0,1,(.t 37))]),oO 9 (.alloc 25 1 [.nils]),oX (sT 1 9 38)]
def q37_6 : LReg := ⟨[oO 39 (fA 0 2),oO 40 (lV 1 39),oO 41 (bK .eql 40 0),oM 42 41,oT 43 42 (fA 0 4),oT 44 42 (lV 1 43),oT 45 42 (bK .eql 44 0),oO 46 (pK 42 45 (kB false)),oM 47 46,oT 48 47 (fA 0 6),oT 49 47 (lV 1 48),oT 50 47 (bK .eql 49 0),oO 51 (pK 47 50 (kB false)),oM 52 51,oT 53 52 (.mv (.t 5)),oO 54 (pK 52 53 (kB false)),oM 55 54,oT 56 55 (lA 2 8),oT 57 55 (.call 79 [(kI 18),(kI 0)]),oT 58 55 (.eqs false [0,0] (.t 56) (.t 57)),oO 59 (pK 55 58 (kB false)),oM 60 59,oT 61 60 (fA 2 1),oT 62 60 (lA 1 61),oT 63 60 (lA 1 9),oT 64 60 (cA 48 [62,63]),oO 65 (pK 60 64 (kB false)),oM 66 65,oT 67 66 (lA 1 3),oT 68 66 (lA 1 9),oT 69 66 (cA 48 [67,68]),oO 70 (pK 66 69 (kB false)),oM 71 70,oT 72 71 (lA 3 1),oT 73 71 (cA 43 [72]),oT 74 71 (.build [.int .i64 0,.int .i64 0] []),oT 75 71 (.eqs false [0,0] (.t 73) (.t 74)),oO 76 (pK 71 75 (kB false)),oM 0 76],true,[(17,18),(22,24),(23,24),(28,29)]⟩
def Tryz.l_law6_releases : LCode := (.seq (.reg q37_0) (.seq (.reg q37_1) (.seq (.reg q37_2) (.seq (.reg q37_3) (.seq (.reg q37_4) (.seq (.reg q37_5) (.seq (.reg q37_6) .ret)))))))
theorem Tryz.c_law6_releases : fnComp Tryz.prog 37 = some (77, Tryz.l_law6_releases,[.t 0]) := by kernel_rfl
def q80_0 : LReg := rG [oO 4 (.alloc 31 2 [.int .i64 0,.int .i64 0])]
def q80_1 : LReg := rG [oM 5 0,oM 6 1,oO 7 (.build [.int .i64 0,.int .i64 0] [(0,1,(.t 5)),(1,1,(.t 6))]),oX (sT 2 4 7)]
def Tryz.l_ref6_fault : LCode := (.seq (.reg q80_0) (.seq (.reg q80_1) .ret))
theorem Tryz.c_ref6_fault : fnComp Tryz.prog 80 = some (8, Tryz.l_ref6_fault,[.cell 4 2 true]) := by kernel_rfl
def q103_0 : LReg := rG [oO 4 (.alloc 31 2 [.int .i64 0,.int .i64 0])]
def q103_1 : LReg := rG [oM 5 0,oM 6 1,oO 7 (.build [.int .i64 0,.int .i64 0] [(0,1,(.t 5)),(1,1,(.t 6))]),oX (sT 2 4 7)]
def Tryz.l_ref1_At : LCode := (.seq (.reg q103_0) (.seq (.reg q103_1) .ret))
theorem Tryz.c_ref1_At : fnComp Tryz.prog 103 = some (8, Tryz.l_ref1_At,[.cell 4 2 true]) := by kernel_rfl
def q143_0 : LReg := rG [oO 2 (mK (kB false))]
def q143_1 : LReg := rG [oM 3 0,oO 4 (.bin .geq (.t 3) (.c (.int .u8 97))),oM 5 4,oT 6 5 (.mv (.t 0)),oT 7 5 (.bin .leq (.t 6) (.c (.int .u8 122))),oO 8 (pK 5 7 (kB false)),oM 9 8,oF 10 9 (.mv (.t 0)),oF 11 9 (.bin .geq (.t 10) (.c (.int .u8 65))),oF 12 9 (.mv (.t 11)),oT 13 12 (.mv (.t 0)),oT 14 12 (.bin .leq (.t 13) (.c (.int .u8 90))),oF 15 9 (pK 12 14 (kB false)),oO 16 (pL 9 (kB true) 15),oM 17 16,oF 18 17 (.mv (.t 0)),oF 19 17 (.bin .geq (.t 18) (.c (.int .u8 48))),oF 20 17 (.mv (.t 19)),oT 21 20 (.mv (.t 0)),oT 22 20 (.bin .leq (.t 21) (.c (.int .u8 57))),oF 23 17 (pK 20 22 (kB false)),oO 24 (pL 17 (kB true) 23),oM 25 24,oF 26 25 (.mv (.t 0)),oF 27 25 (.bin .eql (.t 26) (.c (.int .u8 46))),oO 28 (pL 25 (kB true) 27),oM 29 28,oF 30 29 (.mv (.t 0)),oF 31 29 (.bin .eql (.t 30) (.c (.int .u8 95))),oO 32 (pL 29 (kB true) 31),oM 33 32,oF 34 33 (.mv (.t 0)),oF 35 33 (.bin .eql (.t 34) (.c (.int .u8 45))),oO 36 (pL 33 (kB true) 35),oM 2 36]
def Tryz.l_ref2_pathByte : LCode := (.seq (.reg q143_0) (.seq (.reg q143_1) .ret))
theorem Tryz.c_ref2_pathByte : fnComp Tryz.prog 143 = some (37, Tryz.l_ref2_pathByte,[.t 2]) := by kernel_rfl
def q104_0 : LReg := rG [oO 2 (mK (kB false))]
def q104_1 : LReg := rG [oM 6 0,oO 7 (sN 6),oO 8 (bK .gtr 7 60)]
def q104_2 : LReg := rG [oO 2 (mK (kB false))]
def q104_3 : LReg := rG [oM 9 0,oO 10 (sN 9),oM 3 10]
def q104_4 : LReg := rG [oM 11 0,oO 12 (sN 11),oO 13 (bK .sub 12 1),oM 4 13]
def q104_5 : LReg := rG [oM 14 4,oO 15 (bK .geq 14 (-1))]
def q104_6 : LReg := rG [oM 18 4,oO 19 (bK .geq 18 0),oM 20 19,oT 21 20 (.mv (.t 0)),oT 22 20 (.mv (.t 4)),oT 23 20 (.sidx (.t 21) (.t 22)),oT 24 20 (.bin .neq (.t 23) (.c (.int .u8 47))),oO 25 (pK 20 24 (kB false))]
def q104_7 : LReg := rG [oM 26 0,oM 27 4,oO 28 (.sidx (.t 26) (.t 27)),oO 29 (cA 143 [28]),oO 30 (.un .not (.t 29))]
def q104_8 : LReg := rG [oO 2 (mK (kB false))]
def q104_9 : LReg := rG [oM 31 0,oM 32 4,oO 33 (bK .add 32 1),oM 34 3,oO 35 (.sslice (.t 31) (some (.t 33)) (some (.t 34))),oM 5 35]
def q104_10 : LReg := rG [oM 36 5,oO 37 (.bin .eql (.t 36) (.c (.str []))),oM 38 37,oF 39 38 (.mv (.t 5)),oF 40 38 (.bin .eql (.t 39) (.c (.str [46]))),oO 41 (pL 38 (kB true) 40),oM 42 41,oF 43 42 (.mv (.t 5)),oF 44 42 (.bin .eql (.t 43) (.c (.str [46,46]))),oO 45 (pL 42 (kB true) 44)]
def q104_11 : LReg := rG [oO 2 (mK (kB false))]
def q104_12 : LReg := rG [oM 46 4,oM 3 46]
def q104_13 : LReg := rG [oM 16 4,oO 17 (bK .sub 16 1),oM 4 17]
def q104_14 : LReg := rG [oO 2 (mK (kB true))]
def Tryz.l_ref2_PathValid : LCode := (.seq (.reg q104_0) (.seq (.seq (.reg q104_1) (.cond (.t 8) (.seq (.reg q104_2) .ret) .skip)) (.seq (.reg q104_3) (.seq (.seq (.reg q104_4) (.block 0 (.loop (.seq (.seq (.reg q104_5) (.cond (.t 15) .skip (.exit 0))) (.seq (.block 1 (.seq (.seq (.reg q104_6) (.cond (.t 25) (.seq (.seq (.reg q104_7) (.cond (.t 30) (.seq (.reg q104_8) .ret) .skip)) (.exit 1)) .skip)) (.seq (.reg q104_9) (.seq (.seq (.reg q104_10) (.cond (.t 45) (.seq (.reg q104_11) .ret) .skip)) (.reg q104_12))))) (.reg q104_13)))))) (.seq (.reg q104_14) .ret)))))
theorem Tryz.c_ref2_PathValid : fnComp Tryz.prog 104 = some (47, Tryz.l_ref2_PathValid,[.t 2]) := by kernel_rfl
def q105_0 : LReg := rG [oO 4 (mK (kB false))]
def q105_1 : LReg := rG [oM 5 0,oO 6 (sN 5),oM 7 1,oO 8 (sN 7),oO 9 (bT .gtr 6 8)]
def q105_2 : LReg := rG [oM 10 1,oM 11 0,oO 12 (cA 105 [10,11]),oM 4 12]
def q105_3 : LReg := rG [oM 13 1,oM 14 0,oO 15 (sN 14),oO 16 (.sslice (.t 13) none (some (.t 15))),oM 17 0,oO 18 (bT .eql 16 17),oM 19 18,oT 20 19 (.mv (.t 0)),oT 21 19 (sN 20),oT 22 19 (.mv (.t 1)),oT 23 19 (sN 22),oT 24 19 (bT .eql 21 23),oT 25 19 (.mv (.t 24)),oF 26 25 (.mv (.t 1)),oF 27 25 (.mv (.t 0)),oF 28 25 (sN 27),oF 29 25 (.sidx (.t 26) (.t 28)),oF 30 25 (.bin .eql (.t 29) (.c (.int .u8 47))),oT 31 19 (pL 25 (kB true) 30),oO 32 (pK 19 31 (kB false)),oM 4 32]
def Tryz.l_ref2_Related : LCode := (.seq (.reg q105_0) (.seq (.seq (.reg q105_1) (.cond (.t 9) (.seq (.reg q105_2) .ret) .skip)) (.seq (.reg q105_3) .ret)))
theorem Tryz.c_ref2_Related : fnComp Tryz.prog 105 = some (33, Tryz.l_ref2_Related,[.t 4]) := by kernel_rfl
def q144_0 : LReg := rG [oO 2 (.alloc 31 2 [.int .i64 0,.int .i64 0])]
def q144_1 : LReg := rG [oM 5 0,oO 6 (lN 5),oO 7 (bK .gtr 6 120)]
def q144_2 : LReg := rG [oO 8 (.call 103 [(kI 2),(kI (-1))]),oX (sT 2 2 8)]
def q144_3 : LReg := rG [oO 3 (mK (kI 0))]
def q144_4 : LReg := rG [oM 9 3,oM 10 0,oO 11 (lN 10),oO 12 (bT .lss 9 11)]
def q144_5 : LReg := rG [oM 15 0,oM 16 3,oO 17 (iX 1 15 16),oO 18 (lV 1 17),oO 19 (sN 18),oO 20 (bK .gtr 19 80)]
def q144_6 : LReg := rG [oM 21 3,oO 22 (.call 103 [(kI 2),(.t 21)]),oX (sT 2 2 22)]
def q144_7 : LReg := rG [oO 4 (mK (kI 0))]
def q144_8 : LReg := rG [oM 23 4,oM 24 0,oM 25 3,oO 26 (iX 1 24 25),oO 27 (lV 1 26),oO 28 (sN 27),oO 29 (bT .lss 23 28)]
def q144_9 : LReg := rG [oM 32 0,oM 33 3,oO 34 (iX 1 32 33),oO 35 (lV 1 34),oM 36 4,oO 37 (.sidx (.t 35) (.t 36)),oO 38 (.bin .eql (.t 37) (.c (.int .u8 10)))]
def q144_10 : LReg := rG [oM 39 3,oO 40 (.call 103 [(kI 5),(.t 39)]),oX (sT 2 2 40)]
def q144_11 : LReg := rG [oM 30 4,oO 31 (bK .add 30 1),oM 4 31]
def q144_12 : LReg := rG [oM 13 3,oO 14 (bK .add 13 1),oM 3 14]
def q144_13 : LReg := rG [oO 41 (.build [.int .i64 0,.int .i64 0] []),oX (sT 2 2 41)]
def Tryz.l_ref1_LinesFault : LCode := (.seq (.reg q144_0) (.seq (.seq (.reg q144_1) (.cond (.t 7) (.seq (.reg q144_2) .ret) .skip)) (.seq (.seq (.reg q144_3) (.block 0 (.loop (.seq (.seq (.reg q144_4) (.cond (.t 12) .skip (.exit 0))) (.seq (.block 1 (.seq (.seq (.reg q144_5) (.cond (.t 20) (.seq (.reg q144_6) .ret) .skip)) (.seq (.reg q144_7) (.block 2 (.loop (.seq (.seq (.reg q144_8) (.cond (.t 29) .skip (.exit 2))) (.seq (.block 3 (.seq (.reg q144_9) (.cond (.t 38) (.seq (.reg q144_10) .ret) .skip))) (.reg q144_11)))))))) (.reg q144_12)))))) (.seq (.reg q144_13) .ret))))
theorem Tryz.c_ref1_LinesFault : fnComp Tryz.prog 144 = some (42, Tryz.l_ref1_LinesFault,[.cell 2 2 true]) := by kernel_rfl
def q106_0 : LReg := rG [oO 2 (mK (kI 0))]
def q106_1 : LReg := rG [oM 3 0,oO 4 (cA 144 [3]),oO 5 (.field 0 1 false (.t 4)),oM 2 5]
def Tryz.l_ref1_LinesCode : LCode := (.seq (.reg q106_0) (.seq (.reg q106_1) .ret))
theorem Tryz.c_ref1_LinesCode : fnComp Tryz.prog 106 = some (6, Tryz.l_ref1_LinesCode,[.t 2]) := by kernel_rfl
def q50_0 : LReg := rG [oO 1 (.box 25 1 (.t 0)),oO 2 (.alloc 31 2 [.int .i64 0,.int .i64 0])]
def q50_1 : LReg := rG [oO 7 (fA 0 1),oO 8 (lV 1 7),oO 9 (lN 8),oO 10 (bK .gtr 9 24)]
def q50_2 : LReg := rG [oO 11 (.call 103 [(kI 2),(kI (-1))]),oX (sT 2 2 11)]
def q50_3 : LReg := rG [oO 3 (mK (kI 0))]
def q50_4 : LReg := rG [oM 12 3,oO 13 (fA 0 1),oO 14 (lV 1 13),oO 15 (lN 14),oO 16 (bT .lss 12 15)]
def q50_5 : LReg := rG [oO 19 (fA 0 1),oO 20 (lV 1 19),oM 21 3,oO 22 (iX 2 20 21),oO 23 (lA 2 22),oO 4 (.alloc 37 2 [.str [],.nils]),oX (sT 2 4 23)]
def q50_6 : LReg := rG [oO 24 (fA 0 4),oO 25 (lV 1 24),oO 26 (cA 104 [25]),oO 27 (.un .not (.t 26))]
def q50_7 : LReg := rG [oM 28 3,oO 29 (.call 103 [(kI 12),(.t 28)]),oX (sT 2 2 29)]
def q50_8 : LReg := ⟨[oM 30 3,oO 31 (bK .gtr 30 0),oM 32 31,oT 33 32 (fA 0 4),oT 34 32 (lV 1 33),oT 35 32 (fA 0 1),oT 36 32 (lV 1 35),oT 37 32 (.mv (.t 3)),oT 38 32 (bK .sub 37 1),oT 39 32 (iX 2 36 38),oT 40 32 (fA 0 39),oT 41 32 (lV 1 40),oT 42 32 (bT .leq 34 41),oO 43 (pK 32 42 (kB false))],true,[(3,5),(4,5),(3,6),(4,6),(3,9),(4,9),(3,10),(4,10),(3,11),(4,11)]⟩
def q50_9 : LReg := rG [oM 44 3,oO 45 (.call 103 [(kI 5),(.t 44)]),oX (sT 2 2 45)]
def q50_10 : LReg := rG [oO 5 (mK (kI 0))]
def q50_11 : LReg := rG [oM 46 5,oM 47 3,oO 48 (bT .lss 46 47)]
def q50_12 : LReg := ⟨[oO 51 (fA 0 1),oO 52 (lV 1 51),oM 53 5,oO 54 (iX 2 52 53),oO 55 (fA 0 54),oO 56 (lV 1 55),oO 57 (fA 0 4),oO 58 (lV 1 57),oO 59 (cA 105 [56,58])],true,[(0,6),(1,6),(3,6),(4,6),(5,6),(0,7),(1,7),(3,7),(4,7),(5,7)]⟩
def q50_13 : LReg := rG [oM 60 3,oO 61 (.call 103 [(kI 7),(.t 60)]),oX (sT 2 2 61)]
def q50_14 : LReg := rG [oM 49 5,oO 50 (bK .add 49 1),oM 5 50]
def q50_15 : LReg := rG [oO 62 (fA 1 4),oO 63 (lV 1 62),oO 64 (cA 106 [63]),oM 6 64]
def q50_16 : LReg := rG [oM 65 6,oO 66 (bK .neq 65 0)]
def q50_17 : LReg := rG [oM 67 6,oM 68 3,oO 69 (cA 103 [67,68]),oX (sT 2 2 69)]
def q50_18 : LReg := rG [oM 17 3,oO 18 (bK .add 17 1),oM 3 18]
def q50_19 : LReg := rG [oO 70 (.build [.int .i64 0,.int .i64 0] []),oX (sT 2 2 70)]
def Tryz.l_ref2_TreeFault : LCode := (.seq (.reg q50_0) (.seq (.seq (.reg q50_1) (.cond (.t 10) (.seq (.reg q50_2) .ret) .skip)) (.seq (.seq (.reg q50_3) (.block 0 (.loop (.seq (.seq (.reg q50_4) (.cond (.t 16) .skip (.exit 0))) (.seq (.block 1 (.seq (.reg q50_5) (.seq (.seq (.reg q50_6) (.cond (.t 27) (.seq (.reg q50_7) .ret) .skip)) (.seq (.seq (.reg q50_8) (.cond (.t 43) (.seq (.reg q50_9) .ret) .skip)) (.seq (.seq (.reg q50_10) (.block 2 (.loop (.seq (.seq (.reg q50_11) (.cond (.t 48) .skip (.exit 2))) (.seq (.block 3 (.seq (.reg q50_12) (.cond (.t 59) (.seq (.reg q50_13) .ret) .skip))) (.reg q50_14)))))) (.seq (.reg q50_15) (.seq (.reg q50_16) (.cond (.t 66) (.seq (.reg q50_17) .ret) .skip)))))))) (.reg q50_18)))))) (.seq (.reg q50_19) .ret))))
theorem Tryz.c_ref2_TreeFault : fnComp Tryz.prog 50 = some (71, Tryz.l_ref2_TreeFault,[.cell 2 2 true]) := by kernel_rfl
def q84_0 : LReg := rG [oO 2 (.box 25 1 (.t 0)),oO 4 (.alloc 31 2 [.int .i64 0,.int .i64 0])]
def q84_1 : LReg := rG [oO 6 (lA 1 2),oO 7 (cA 50 [6]),oO 5 (.alloc 31 2 [.int .i64 0,.int .i64 0]),oX (sT 2 5 7)]
def q84_2 : LReg := rG [oO 8 (fA 0 5),oO 9 (lV 1 8),oO 10 (bK .neq 9 0)]
def q84_3 : LReg := rG [oM 11 1,oO 12 (fA 1 5),oX (sT 1 12 11)]
def q84_4 : LReg := rG [oO 13 (lA 2 5),oX (sT 2 4 13)]
def Tryz.l_ref6_TreeAt : LCode := (.seq (.reg q84_0) (.seq (.reg q84_1) (.seq (.seq (.reg q84_2) (.cond (.t 10) (.reg q84_3) .skip)) (.seq (.reg q84_4) .ret))))
theorem Tryz.c_ref6_TreeAt : fnComp Tryz.prog 84 = some (14, Tryz.l_ref6_TreeAt,[.cell 4 2 true]) := by kernel_rfl
def q82_0 : LReg := rG [oO 2 (mK (kI 0))]
def q82_1 : LReg := rG [oM 5 0,oO 6 (lN 5),oO 7 (bK .gtr 6 120)]
def q82_2 : LReg := rG [oO 2 (mK (kI 2))]
def q82_3 : LReg := rG [oO 3 (mK (kI 0))]
def q82_4 : LReg := rG [oM 8 3,oM 9 0,oO 10 (lN 9),oO 11 (bT .lss 8 10)]
def q82_5 : LReg := rG [oM 14 0,oM 15 3,oO 16 (iX 1 14 15),oO 17 (lV 1 16),oO 18 (sN 17),oO 19 (bK .gtr 18 80)]
def q82_6 : LReg := rG [oO 2 (mK (kI 2))]
def q82_7 : LReg := rG [oO 4 (mK (kI 0))]
def q82_8 : LReg := rG [oM 20 4,oM 21 0,oM 22 3,oO 23 (iX 1 21 22),oO 24 (lV 1 23),oO 25 (sN 24),oO 26 (bT .lss 20 25)]
def q82_9 : LReg := rG [oM 29 0,oM 30 3,oO 31 (iX 1 29 30),oO 32 (lV 1 31),oM 33 4,oO 34 (.sidx (.t 32) (.t 33)),oO 35 (.bin .eql (.t 34) (.c (.int .u8 10)))]
def q82_10 : LReg := rG [oO 2 (mK (kI 5))]
def q82_11 : LReg := rG [oM 27 4,oO 28 (bK .add 27 1),oM 4 28]
def q82_12 : LReg := rG [oM 12 3,oO 13 (bK .add 12 1),oM 3 13]
def q82_13 : LReg := rG [oO 2 (mK (kI 0))]
def Tryz.l_ref6_lineCode : LCode := (.seq (.reg q82_0) (.seq (.seq (.reg q82_1) (.cond (.t 7) (.seq (.reg q82_2) .ret) .skip)) (.seq (.seq (.reg q82_3) (.block 0 (.loop (.seq (.seq (.reg q82_4) (.cond (.t 11) .skip (.exit 0))) (.seq (.block 1 (.seq (.seq (.reg q82_5) (.cond (.t 19) (.seq (.reg q82_6) .ret) .skip)) (.seq (.reg q82_7) (.block 2 (.loop (.seq (.seq (.reg q82_8) (.cond (.t 26) .skip (.exit 2))) (.seq (.block 3 (.seq (.reg q82_9) (.cond (.t 35) (.seq (.reg q82_10) .ret) .skip))) (.reg q82_11)))))))) (.reg q82_12)))))) (.seq (.reg q82_13) .ret))))
theorem Tryz.c_ref6_lineCode : fnComp Tryz.prog 82 = some (36, Tryz.l_ref6_lineCode,[.t 2]) := by kernel_rfl
def q132_0 : LReg := rG [oO 1 (.box 109 2 (.t 0)),oO 2 (mK (kI 0))]
def q132_1 : LReg := rG [oO 3 (fA 0 1),oO 4 (lV 1 3),oO 5 (bK .eql 4 1),oM 6 5,oF 7 6 (fA 0 1),oF 8 6 (lV 1 7),oF 9 6 (bK .eql 8 2),oO 10 (pL 6 (kB true) 9)]
def q132_2 : LReg := rG [oO 11 (fA 1 1),oO 12 (lV 1 11),oO 13 (cA 104 [12]),oO 14 (.un .not (.t 13))]
def q132_3 : LReg := rG [oO 2 (mK (kI 12))]
def q132_4 : LReg := rG [oO 2 (mK (kI 0))]
def q132_5 : LReg := rG [oO 15 (fA 0 1),oO 16 (lV 1 15),oO 17 (bK .eql 16 3)]
def q132_6 : LReg := rG [oO 18 (fA 1 1),oO 19 (lV 1 18),oO 20 (.mkSlice 9 1 1 [.str []] [(0,(.t 19))]),oO 21 (cA 82 [20]),oM 2 21]
def q132_7 : LReg := rG [oO 22 (fA 0 1),oO 23 (lV 1 22),oO 24 (bK .eql 23 4),oM 25 24,oF 26 25 (fA 0 1),oF 27 25 (lV 1 26),oF 28 25 (bK .eql 27 5),oO 29 (pL 25 (kB true) 28)]
def q132_8 : LReg := rG [oO 30 (fA 1 1),oO 31 (lV 1 30),oO 32 (.bin .neq (.t 31) (.c (.str [])))]
def q132_9 : LReg := rG [oO 2 (mK (kI 5))]
def q132_10 : LReg := rG [oO 2 (mK (kI 0))]
def q132_11 : LReg := rG [oO 2 (mK (kI 4))]
def Tryz.l_ref6_opCode : LCode := (.seq (.reg q132_0) (.seq (.seq (.reg q132_1) (.cond (.t 10) (.seq (.seq (.reg q132_2) (.cond (.t 14) (.seq (.reg q132_3) .ret) .skip)) (.seq (.reg q132_4) .ret)) .skip)) (.seq (.seq (.reg q132_5) (.cond (.t 17) (.seq (.reg q132_6) .ret) .skip)) (.seq (.seq (.reg q132_7) (.cond (.t 29) (.seq (.seq (.reg q132_8) (.cond (.t 32) (.seq (.reg q132_9) .ret) .skip)) (.seq (.reg q132_10) .ret)) .skip)) (.seq (.reg q132_11) .ret)))))
theorem Tryz.c_ref6_opCode : fnComp Tryz.prog 132 = some (33, Tryz.l_ref6_opCode,[.t 2]) := by kernel_rfl
def q83_0 : LReg := rG [oO 1 (.box 53 3 (.t 0)),oO 2 (.alloc 31 2 [.int .i64 0,.int .i64 0])]
def q83_1 : LReg := rG [oO 6 (fA 0 1),oO 7 (lV 1 6),oO 8 (lN 7),oO 9 (bK .gtr 8 8),oM 10 9,oF 11 10 (fA 1 1),oF 12 10 (lV 1 11),oF 13 10 (lN 12),oF 14 10 (bK .gtr 13 16),oO 15 (pL 10 (kB true) 14)]
def q83_2 : LReg := rG [oO 16 (.call 80 [(kI 2),(kI (-1))]),oX (sT 2 2 16)]
def q83_3 : LReg := rG [oO 3 (mK (kI 0))]
def q83_4 : LReg := rG [oM 17 3,oO 18 (fA 0 1),oO 19 (lV 1 18),oO 20 (lN 19),oO 21 (bT .lss 17 20)]
def q83_5 : LReg := rG [oO 24 (fA 0 1),oO 25 (lV 1 24),oM 26 3,oO 27 (iX 1 25 26),oO 28 (lV 1 27),oO 29 (cA 104 [28]),oO 30 (.un .not (.t 29))]
def q83_6 : LReg := rG [oM 31 3,oO 32 (.call 80 [(kI 12),(.t 31)]),oX (sT 2 2 32)]
def q83_7 : LReg := ⟨[oM 33 3,oO 34 (bK .gtr 33 0),oM 35 34,oT 36 35 (fA 0 1),oT 37 35 (lV 1 36),oT 38 35 (.mv (.t 3)),oT 39 35 (iX 1 37 38),oT 40 35 (lV 1 39),oT 41 35 (fA 0 1),oT 42 35 (lV 1 41),oT 43 35 (.mv (.t 3)),oT 44 35 (bK .sub 43 1),oT 45 35 (iX 1 42 44),oT 46 35 (lV 1 45),oT 47 35 (bT .leq 40 46),oO 48 (pK 35 47 (kB false))],true,[(3,8),(4,8),(6,8),(7,8),(3,9),(4,9),(6,9),(7,9),(3,12),(4,12),(6,12),(7,12),(3,13),(4,13),(6,13),(7,13)]⟩
def q83_8 : LReg := rG [oM 49 3,oO 50 (.call 80 [(kI 5),(.t 49)]),oX (sT 2 2 50)]
def q83_9 : LReg := rG [oM 22 3,oO 23 (bK .add 22 1),oM 3 23]
def q83_10 : LReg := rG [oO 51 (fA 2 1),oO 52 (lV 1 51),oO 53 (cA 104 [52]),oO 54 (.un .not (.t 53))]
def q83_11 : LReg := rG [oO 55 (.call 80 [(kI 12),(kI (-2))]),oX (sT 2 2 55)]
def q83_12 : LReg := rG [oO 4 (mK (kI 0))]
def q83_13 : LReg := rG [oM 56 4,oO 57 (fA 1 1),oO 58 (lV 1 57),oO 59 (lN 58),oO 60 (bT .lss 56 59)]
def q83_14 : LReg := rG [oO 63 (fA 1 1),oO 64 (lV 1 63),oM 65 4,oO 66 (iX 2 64 65),oO 67 (lA 2 66),oO 68 (cA 132 [67]),oM 5 68]
def q83_15 : LReg := rG [oM 69 5,oO 70 (bK .neq 69 0)]
def q83_16 : LReg := rG [oM 71 5,oM 72 4,oO 73 (.bin .sub (kI (-3)) (.t 72)),oO 74 (cA 80 [71,73]),oX (sT 2 2 74)]
def q83_17 : LReg := rG [oM 61 4,oO 62 (bK .add 61 1),oM 4 62]
def q83_18 : LReg := rG [oO 75 (.build [.int .i64 0,.int .i64 0] []),oX (sT 2 2 75)]
def Tryz.l_ref6_ActionFault : LCode := (.seq (.reg q83_0) (.seq (.seq (.reg q83_1) (.cond (.t 15) (.seq (.reg q83_2) .ret) .skip)) (.seq (.seq (.reg q83_3) (.block 0 (.loop (.seq (.seq (.reg q83_4) (.cond (.t 21) .skip (.exit 0))) (.seq (.block 1 (.seq (.seq (.reg q83_5) (.cond (.t 30) (.seq (.reg q83_6) .ret) .skip)) (.seq (.reg q83_7) (.cond (.t 48) (.seq (.reg q83_8) .ret) .skip)))) (.reg q83_9)))))) (.seq (.seq (.reg q83_10) (.cond (.t 54) (.seq (.reg q83_11) .ret) .skip)) (.seq (.seq (.reg q83_12) (.block 2 (.loop (.seq (.seq (.reg q83_13) (.cond (.t 60) .skip (.exit 2))) (.seq (.block 3 (.seq (.reg q83_14) (.seq (.reg q83_15) (.cond (.t 70) (.seq (.reg q83_16) .ret) .skip)))) (.reg q83_17)))))) (.seq (.reg q83_18) .ret))))))
theorem Tryz.c_ref6_ActionFault : fnComp Tryz.prog 83 = some (76, Tryz.l_ref6_ActionFault,[.cell 2 2 true]) := by kernel_rfl
def q89_0 : LReg := rG [oO 2 (.alloc 31 2 [.int .i64 0,.int .i64 0])]
def q89_1 : LReg := rG [oM 5 0,oO 6 (lN 5),oO 7 (bK .gtr 6 8)]
def q89_2 : LReg := rG [oO 8 (.call 80 [(kI 2),(kI (-1))]),oX (sT 2 2 8)]
def q89_3 : LReg := rG [oO 3 (mK (kI 0))]
def q89_4 : LReg := rG [oM 9 3,oM 10 0,oO 11 (lN 10),oO 12 (bT .lss 9 11)]
def q89_5 : LReg := rG [oM 15 0,oM 16 3,oO 17 (iX 3 15 16),oO 18 (lA 3 17),oO 19 (cA 83 [18]),oO 4 (.alloc 31 2 [.int .i64 0,.int .i64 0]),oX (sT 2 4 19)]
def q89_6 : LReg := rG [oO 20 (fA 0 4),oO 21 (lV 1 20),oO 22 (bK .neq 21 0)]
def q89_7 : LReg := rG [oO 23 (fA 0 4),oO 24 (lV 1 23),oM 25 3,oO 26 (cA 80 [24,25]),oX (sT 2 2 26)]
def q89_8 : LReg := rG [oM 13 3,oO 14 (bK .add 13 1),oM 3 14]
def q89_9 : LReg := rG [oO 27 (.build [.int .i64 0,.int .i64 0] []),oX (sT 2 2 27)]
def Tryz.l_ref6_ActionsFault : LCode := (.seq (.reg q89_0) (.seq (.seq (.reg q89_1) (.cond (.t 7) (.seq (.reg q89_2) .ret) .skip)) (.seq (.seq (.reg q89_3) (.block 0 (.loop (.seq (.seq (.reg q89_4) (.cond (.t 12) .skip (.exit 0))) (.seq (.block 1 (.seq (.reg q89_5) (.seq (.reg q89_6) (.cond (.t 22) (.seq (.reg q89_7) .ret) .skip)))) (.reg q89_8)))))) (.seq (.reg q89_9) .ret))))
theorem Tryz.c_ref6_ActionsFault : fnComp Tryz.prog 89 = some (28, Tryz.l_ref6_ActionsFault,[.cell 2 2 true]) := by kernel_rfl
def q131_0 : LReg := rG [oO 6 (mK (kB false))]
def q131_1 : LReg := rG [oM 7 0,oM 8 1,oO 9 (bT .geq 7 8),oM 10 9,oT 11 10 (.mv (.t 0)),oT 12 10 (.mv (.t 2)),oT 13 10 (bT .leq 11 12),oO 14 (pK 10 13 (kB false)),oM 6 14]
def Tryz.l_ref5_in : LCode := (.seq (.reg q131_0) (.seq (.reg q131_1) .ret))
theorem Tryz.c_ref5_in : fnComp Tryz.prog 131 = some (15, Tryz.l_ref5_in,[.t 6]) := by kernel_rfl
def q81_0 : LReg := rG [oO 2 (mK (kB false))]
def q81_1 : LReg := rG [oM 3 0,oO 4 (.call 131 [(.t 3),(kI 0),(kI 2305843009213693950)]),oM 2 4]
def Tryz.l_ref5_IsDigest : LCode := (.seq (.reg q81_0) (.seq (.reg q81_1) .ret))
theorem Tryz.c_ref5_IsDigest : fnComp Tryz.prog 81 = some (5, Tryz.l_ref5_IsDigest,[.t 2]) := by kernel_rfl
def q137_0 : LReg := rG [oO 2 (.alloc 31 2 [.int .i64 0,.int .i64 0])]
def q137_1 : LReg := rG [oM 4 0,oO 5 (lN 4),oO 6 (bK .gtr 5 24)]
def q137_2 : LReg := rG [oO 7 (.call 80 [(kI 2),(kI (-1))]),oX (sT 2 2 7)]
def q137_3 : LReg := rG [oO 3 (mK (kI 0))]
def q137_4 : LReg := rG [oM 8 3,oM 9 0,oO 10 (lN 9),oO 11 (bT .lss 8 10)]
def q137_5 : LReg := rG [oM 14 0,oM 15 3,oO 16 (iX 1 14 15),oO 17 (lV 1 16),oO 18 (cA 104 [17]),oO 19 (.un .not (.t 18))]
def q137_6 : LReg := rG [oM 20 3,oO 21 (.call 80 [(kI 12),(.t 20)]),oX (sT 2 2 21)]
def q137_7 : LReg := ⟨[oM 22 3,oO 23 (bK .gtr 22 0),oM 24 23,oT 25 24 (.mv (.t 0)),oT 26 24 (.mv (.t 3)),oT 27 24 (iX 1 25 26),oT 28 24 (lV 1 27),oT 29 24 (.mv (.t 0)),oT 30 24 (.mv (.t 3)),oT 31 24 (bK .sub 30 1),oT 32 24 (iX 1 29 31),oT 33 24 (lV 1 32),oT 34 24 (bT .leq 28 33),oO 35 (pK 24 34 (kB false))],true,[(5,10),(6,10),(5,11),(6,11)]⟩
def q137_8 : LReg := rG [oM 36 3,oO 37 (.call 80 [(kI 5),(.t 36)]),oX (sT 2 2 37)]
def q137_9 : LReg := rG [oM 12 3,oO 13 (bK .add 12 1),oM 3 13]
def q137_10 : LReg := rG [oO 38 (.build [.int .i64 0,.int .i64 0] []),oX (sT 2 2 38)]
def Tryz.l_ref6_PathsFault : LCode := (.seq (.reg q137_0) (.seq (.seq (.reg q137_1) (.cond (.t 6) (.seq (.reg q137_2) .ret) .skip)) (.seq (.seq (.reg q137_3) (.block 0 (.loop (.seq (.seq (.reg q137_4) (.cond (.t 11) .skip (.exit 0))) (.seq (.block 1 (.seq (.seq (.reg q137_5) (.cond (.t 19) (.seq (.reg q137_6) .ret) .skip)) (.seq (.reg q137_7) (.cond (.t 35) (.seq (.reg q137_8) .ret) .skip)))) (.reg q137_9)))))) (.seq (.reg q137_10) .ret))))
theorem Tryz.c_ref6_PathsFault : fnComp Tryz.prog 137 = some (39, Tryz.l_ref6_PathsFault,[.cell 2 2 true]) := by kernel_rfl
def q95_0 : LReg := rG [oO 2 (.alloc 31 2 [.int .i64 0,.int .i64 0])]
def q95_1 : LReg := rG [oO 3 (mK (.c (.nils)))]
def q95_2 : LReg := rG [oO 4 (mK (kI 0))]
def q95_3 : LReg := rG [oM 7 4,oM 8 0,oO 9 (lN 8),oO 10 (bT .lss 7 9)]
def q95_4 : LReg := rG [oM 13 3,oM 14 0,oM 15 4,oO 16 (iX 2 14 15),oO 17 (fA 0 16),oO 18 (lV 1 17),oO 19 (.mkSlice 9 1 1 [.str []] [(0,(.t 18))]),oO 20 (.append 9 1 16 (.t 13) (.t 19)),oM 3 20]
def q95_5 : LReg := rG [oM 11 4,oO 12 (bK .add 11 1),oM 4 12]
def q95_6 : LReg := rG [oM 21 3,oO 22 (cA 137 [21]),oO 5 (.alloc 31 2 [.int .i64 0,.int .i64 0]),oX (sT 2 5 22)]
def q95_7 : LReg := rG [oO 6 (mK (kI 0))]
def q95_8 : LReg := rG [oM 23 6,oM 24 0,oO 25 (lN 24),oO 26 (bT .lss 23 25),oM 27 26,oT 28 27 (fA 0 5),oT 29 27 (lV 1 28),oT 30 27 (bK .eql 29 0),oO 31 (pK 27 30 (kB false))]
def q95_9 : LReg := rG [oM 34 0,oM 35 6,oO 36 (iX 2 34 35),oO 37 (fA 1 36),oO 38 (lV 1 37),oO 39 (bK .neq 38 (-1)),oM 40 39,oT 41 40 (.mv (.t 0)),oT 42 40 (.mv (.t 6)),oT 43 40 (iX 2 41 42),oT 44 40 (fA 1 43),oT 45 40 (lV 1 44),oT 46 40 (cA 81 [45]),oT 47 40 (.un .not (.t 46)),oO 48 (pK 40 47 (kB false))]
def q95_10 : LReg := rG [oM 49 6,oO 50 (.call 80 [(kI 3),(.t 49)]),oX (sT 2 5 50)]
def q95_11 : LReg := rG [oM 32 6,oO 33 (bK .add 32 1),oM 6 33]
def q95_12 : LReg := rG [oO 51 (lA 2 5),oX (sT 2 2 51)]
def Tryz.l_ref6_BomFault : LCode := (.seq (.reg q95_0) (.seq (.reg q95_1) (.seq (.seq (.reg q95_2) (.block 0 (.loop (.seq (.seq (.reg q95_3) (.cond (.t 10) .skip (.exit 0))) (.seq (.block 1 (.reg q95_4)) (.reg q95_5)))))) (.seq (.reg q95_6) (.seq (.seq (.reg q95_7) (.block 2 (.loop (.seq (.seq (.reg q95_8) (.cond (.t 31) .skip (.exit 2))) (.seq (.block 3 (.seq (.reg q95_9) (.cond (.t 48) (.reg q95_10) .skip))) (.reg q95_11)))))) (.seq (.reg q95_12) .ret))))))
theorem Tryz.c_ref6_BomFault : fnComp Tryz.prog 95 = some (52, Tryz.l_ref6_BomFault,[.cell 2 2 true]) := by kernel_rfl
def q44_0 : LReg := rG [oO 1 (.box 29 3 (.t 0)),oO 2 (.alloc 31 2 [.int .i64 0,.int .i64 0])]
def q44_1 : LReg := rG [oO 4 (fA 0 1),oO 5 (lV 1 4),oO 6 (cA 89 [5]),oO 3 (.alloc 31 2 [.int .i64 0,.int .i64 0]),oX (sT 2 3 6)]
def q44_2 : LReg := rG [oO 7 (fA 0 3),oO 8 (lV 1 7),oO 9 (bK .eql 8 0),oM 10 9,oT 11 10 (fA 1 1),oT 12 10 (lV 1 11),oT 13 10 (cA 95 [12]),oT 14 10 (.field 0 1 false (.t 13)),oT 15 10 (bK .neq 14 0),oO 16 (pK 10 15 (kB false))]
def q44_3 : LReg := rG [oO 17 (fA 1 1),oO 18 (lV 1 17),oO 19 (cA 95 [18]),oO 20 (.field 0 1 false (.t 19)),oO 21 (.call 80 [(.t 20),(kI (-2))]),oX (sT 2 3 21)]
def q44_4 : LReg := rG [oO 22 (fA 0 3),oO 23 (lV 1 22),oO 24 (bK .eql 23 0)]
def q44_5 : LReg := rG [oO 25 (fA 2 1),oO 26 (lA 1 25),oO 27 (.call 84 [(.t 26),(kI (-3))]),oX (sT 2 3 27)]
def q44_6 : LReg := rG [oO 28 (lA 2 3),oX (sT 2 2 28)]
def Tryz.l_ref6_ProvenanceFault : LCode := (.seq (.reg q44_0) (.seq (.reg q44_1) (.seq (.seq (.reg q44_2) (.cond (.t 16) (.reg q44_3) .skip)) (.seq (.seq (.reg q44_4) (.cond (.t 24) (.reg q44_5) .skip)) (.seq (.reg q44_6) .ret)))))
theorem Tryz.c_ref6_ProvenanceFault : fnComp Tryz.prog 44 = some (29, Tryz.l_ref6_ProvenanceFault,[.cell 2 2 true]) := by kernel_rfl
def q15_0 : LReg := rG [oO 3 (.box 25 1 (.t 0)),oO 6 (.alloc 25 1 [.nils])]
def q15_1 : LReg := rG [oO 7 (.alloc 25 1 [.nils])]
def q15_2 : LReg := rG [oO 8 (mK (kI 0))]
def q15_3 : LReg := rG [oM 10 8,oO 11 (fA 0 3),oO 12 (lV 1 11),oO 13 (lN 12),oO 14 (bT .lss 10 13),oM 15 14,oT 16 15 (fA 0 3),oT 17 15 (lV 1 16),oT 18 15 (.mv (.t 8)),oT 19 15 (iX 2 17 18),oT 20 15 (fA 0 19),oT 21 15 (lV 1 20),oT 22 15 (.mv (.t 1)),oT 23 15 (bT .lss 21 22),oO 24 (pK 15 23 (kB false))]
def q15_4 : LReg := ⟨[oO 27 (fA 0 7),oO 28 (lV 1 27),oO 29 (fA 0 3),oO 30 (lV 1 29),oM 31 8,oO 32 (iX 2 30 31),oO 33 (lA 2 32),oO 34 (.mkSlice 37 2 1 [.str [],.nils] [(0,(.t 33))]),oO 35 (.append 37 2 40 (.t 28) (.t 34)),oO 36 (fA 0 7),oX (sT 1 36 35)],true,[(0,2),(1,2),(0,3),(1,3),(0,5),(1,5),(0,6),(1,6),(0,7),(1,7)]⟩
def q15_5 : LReg := rG [oM 25 8,oO 26 (bK .add 25 1),oM 8 26]
def q15_6 : LReg := rG [oO 37 (fA 0 7),oO 38 (lV 1 37),oO 39 (lN 38),oM 9 39]
def q15_7 : LReg := rG [oO 40 (fA 0 7),oO 41 (lV 1 40),oM 42 1,oM 43 2,oO 44 (.build [.str [],.nils] [(0,1,(.t 42)),(1,1,(.t 43))]),oO 45 (.mkSlice 37 2 1 [.str [],.nils] [(0,(.t 44))]),oO 46 (.append 37 2 40 (.t 41) (.t 45)),oO 47 (fA 0 7),oX (sT 1 47 46)]
def q15_8 : LReg := ⟨[oO 48 (fA 0 7),oO 49 (lV 1 48),oO 50 (fA 0 3),oO 51 (lV 1 50),oM 52 9,oO 53 (.slice 2 (.t 51) (some (.t 52)) none),oO 54 (.append 37 2 40 (.t 49) (.t 53)),oO 55 (fA 0 7),oX (sT 1 55 54)],true,[(0,2),(1,2),(0,3),(1,3),(0,5),(1,5)]⟩
def q15_9 : LReg := rG [oO 56 (lA 1 7),oX (sT 1 6 56)]
def Tryz.l_ref6_WithFile : LCode := (.seq (.reg q15_0) (.seq (.reg q15_1) (.seq (.seq (.reg q15_2) (.block 0 (.loop (.seq (.seq (.reg q15_3) (.cond (.t 24) .skip (.exit 0))) (.seq (.block 1 (.reg q15_4)) (.reg q15_5)))))) (.seq (.reg q15_6) (.seq (.reg q15_7) (.seq (.reg q15_8) (.seq (.reg q15_9) .ret)))))))
theorem Tryz.c_ref6_WithFile : fnComp Tryz.prog 15 = some (57, Tryz.l_ref6_WithFile,[.cell 6 1 true]) := by kernel_rfl
def q19_0 : LReg := rG [oO 4 (mK (kB false))]
def q19_1 : LReg := rG [oO 5 (mK (kI 0))]
def q19_2 : LReg := rG [oM 6 5,oM 7 0,oO 8 (lN 7),oO 9 (bT .lss 6 8)]
def q19_3 : LReg := rG [oM 12 0,oM 13 5,oO 14 (iX 1 12 13),oO 15 (lV 1 14),oM 16 1,oO 17 (bT .eql 15 16)]
def q19_4 : LReg := rG [oO 4 (mK (kB true))]
def q19_5 : LReg := rG [oM 10 5,oO 11 (bK .add 10 1),oM 5 11]
def q19_6 : LReg := rG [oO 4 (mK (kB false))]
def Tryz.l_ref6_HasString : LCode := (.seq (.reg q19_0) (.seq (.seq (.reg q19_1) (.block 0 (.loop (.seq (.seq (.reg q19_2) (.cond (.t 9) .skip (.exit 0))) (.seq (.block 1 (.seq (.reg q19_3) (.cond (.t 17) (.seq (.reg q19_4) .ret) .skip))) (.reg q19_5)))))) (.seq (.reg q19_6) .ret)))
theorem Tryz.c_ref6_HasString : fnComp Tryz.prog 19 = some (18, Tryz.l_ref6_HasString,[.t 4]) := by kernel_rfl
def q23_0 : LReg := rG [oO 2 (.box 25 1 (.t 0)),oO 4 (mK (.c (.nils))),oO 5 (mK (kB false))]
def q23_1 : LReg := rG [oO 6 (mK (kI 0))]
def q23_2 : LReg := rG [oM 7 6,oO 8 (fA 0 2),oO 9 (lV 1 8),oO 10 (lN 9),oO 11 (bT .lss 7 10)]
def q23_3 : LReg := rG [oO 14 (fA 0 2),oO 15 (lV 1 14),oM 16 6,oO 17 (iX 2 15 16),oO 18 (fA 0 17),oO 19 (lV 1 18),oM 20 1,oO 21 (bT .eql 19 20)]
def q23_4 : LReg := rG [oO 22 (fA 0 2),oO 23 (lV 1 22),oM 24 6,oO 25 (iX 2 23 24),oO 26 (fA 1 25),oO 27 (lV 1 26),oM 4 27,oO 5 (mK (kB true))]
def q23_5 : LReg := rG [oM 12 6,oO 13 (bK .add 12 1),oM 6 13]
def q23_6 : LReg := rG [oO 4 (mK (.c (.nils))),oO 5 (mK (kB false))]
def Tryz.l_ref6_FileIn : LCode := (.seq (.reg q23_0) (.seq (.seq (.reg q23_1) (.block 0 (.loop (.seq (.seq (.reg q23_2) (.cond (.t 11) .skip (.exit 0))) (.seq (.block 1 (.seq (.reg q23_3) (.cond (.t 21) (.seq (.reg q23_4) .ret) .skip))) (.reg q23_5)))))) (.seq (.reg q23_6) .ret)))
theorem Tryz.c_ref6_FileIn : fnComp Tryz.prog 23 = some (28, Tryz.l_ref6_FileIn,[.t 4,.t 5]) := by kernel_rfl
def q135_0 : LReg := rG [oO 2 (mK (.c (.nils)))]
def q135_1 : LReg := rG [oO 3 (mK (.c (.nils)))]
def q135_2 : LReg := rG [oO 4 (mK (kI 0))]
def q135_3 : LReg := rG [oM 5 4,oM 6 0,oO 7 (lN 6),oO 8 (bT .lss 5 7)]
def q135_4 : LReg := ⟨[oM 11 0,oM 12 4,oO 13 (.slice 1 (.t 11) none (some (.t 12))),oM 14 0,oM 15 4,oO 16 (iX 1 14 15),oO 17 (lV 1 16),oO 18 (cA 19 [13,17]),oO 19 (.un .not (.t 18))],true,[(2,5),(2,6)]⟩
def q135_5 : LReg := rG [oM 20 3,oM 21 0,oM 22 4,oO 23 (iX 1 21 22),oO 24 (lV 1 23),oO 25 (.mkSlice 9 1 1 [.str []] [(0,(.t 24))]),oO 26 (.append 9 1 16 (.t 20) (.t 25)),oM 3 26]
def q135_6 : LReg := rG [oM 9 4,oO 10 (bK .add 9 1),oM 4 10]
def q135_7 : LReg := rG [oM 27 3,oM 2 27]
def Tryz.l_ref6_firsts : LCode := (.seq (.reg q135_0) (.seq (.reg q135_1) (.seq (.seq (.reg q135_2) (.block 0 (.loop (.seq (.seq (.reg q135_3) (.cond (.t 8) .skip (.exit 0))) (.seq (.block 1 (.seq (.reg q135_4) (.cond (.t 19) (.reg q135_5) .skip))) (.reg q135_6)))))) (.seq (.reg q135_7) .ret))))
theorem Tryz.c_ref6_firsts : fnComp Tryz.prog 135 = some (28, Tryz.l_ref6_firsts,[.t 2]) := by kernel_rfl
def q88_0 : LReg := rG [oO 4 (.box 53 3 (.t 0)),oO 5 (.box 25 1 (.t 1)),oO 6 (.box 109 2 (.t 2)),oO 8 (mK (.c (.nils))),oO 9 (mK (kI 0))]
def q88_1 : LReg := rG [oO 10 (mK (.c (.nils)))]
def q88_2 : LReg := rG [oO 15 (fA 0 6),oO 16 (lV 1 15),oO 17 (bK .eql 16 5)]
def q88_3 : LReg := rG [oM 18 3,oO 19 (cA 135 [18]),oM 8 19,oO 9 (mK (kI 0))]
def q88_4 : LReg := rG [oO 20 (fA 0 6),oO 21 (lV 1 20),oO 22 (bK .eql 21 4)]
def q88_5 : LReg := rG [oM 23 3,oO 24 (lN 23),oO 25 (bK .sub 24 1),oM 11 25]
def q88_6 : LReg := rG [oM 26 11,oO 27 (bK .geq 26 0)]
def q88_7 : LReg := rG [oM 30 10,oM 31 3,oM 32 11,oO 33 (iX 1 31 32),oO 34 (lV 1 33),oO 35 (.mkSlice 9 1 1 [.str []] [(0,(.t 34))]),oO 36 (.append 9 1 16 (.t 30) (.t 35)),oM 10 36]
def q88_8 : LReg := rG [oM 28 11,oO 29 (bK .sub 28 1),oM 11 29]
def q88_9 : LReg := rG [oM 37 10,oM 8 37,oO 9 (mK (kI 0))]
def q88_10 : LReg := rG [oO 38 (fA 1 6),oO 39 (lV 1 38),oO 40 (.mkSlice 9 1 1 [.str []] [(0,(.t 39))]),oM 12 40]
def q88_11 : LReg := rG [oO 41 (fA 0 6),oO 42 (lV 1 41),oO 43 (bK .neq 42 3)]
def q88_12 : LReg := rG [oO 44 (fA 0 4),oO 45 (lV 1 44),oO 46 (fA 1 6),oO 47 (lV 1 46),oO 48 (cA 19 [45,47]),oO 49 (.un .not (.t 48))]
def q88_13 : LReg := rG [oO 8 (mK (.c (.nils))),oO 9 (mK (kI 13))]
def q88_14 : LReg := rG [oO 51 (lA 1 5),oO 52 (fA 1 6),oO 53 (lV 1 52),oO 54 (cA 23 [51,53]),oM 50 54,oO 55 (eX 0 50),oO 56 (eX 1 50),oM 13 55,oM 14 56]
def q88_15 : LReg := rG [oO 57 (fA 0 6),oO 58 (lV 1 57),oO 59 (bK .eql 58 1),oM 60 59,oT 61 60 (.mv (.t 14)),oT 62 60 (.un .not (.t 61)),oO 63 (pK 60 62 (kB false))]
def q88_16 : LReg := rG [oO 8 (mK (.c (.nils))),oO 9 (mK (kI 6))]
def q88_17 : LReg := rG [oM 64 13,oM 12 64]
def q88_18 : LReg := rG [oO 65 (fA 0 6),oO 66 (lV 1 65),oO 67 (bK .eql 66 2),oM 68 67,oT 69 68 (.mv (.t 14)),oO 70 (pK 68 69 (kB false))]
def q88_19 : LReg := rG [oO 71 (.mkSlice 9 1 1 [.str []] [(0,(.c (.str [121,101,115])))]),oM 12 71]
def q88_20 : LReg := rG [oO 72 (fA 0 6),oO 73 (lV 1 72),oO 74 (bK .eql 73 2),oM 75 74,oT 76 75 (.mv (.t 14)),oT 77 75 (.un .not (.t 76)),oO 78 (pK 75 77 (kB false))]
def q88_21 : LReg := rG [oO 79 (.mkSlice 9 1 1 [.str []] [(0,(.c (.str [110,111])))]),oM 12 79]
def q88_22 : LReg := rG [oM 80 3,oO 81 (lN 80),oM 82 12,oO 83 (lN 82),oO 84 (bT .add 81 83),oO 85 (bK .gtr 84 120)]
def q88_23 : LReg := rG [oO 8 (mK (.c (.nils))),oO 9 (mK (kI 10))]
def q88_24 : LReg := rG [oM 86 10,oM 87 3,oO 88 (.append 9 1 16 (.t 86) (.t 87)),oM 10 88]
def q88_25 : LReg := rG [oM 89 10,oM 90 12,oO 91 (.append 9 1 16 (.t 89) (.t 90)),oM 8 91,oO 9 (mK (kI 0))]
def Tryz.l_ref6_opResult : LCode := (.seq (.reg q88_0) (.seq (.reg q88_1) (.seq (.seq (.reg q88_2) (.cond (.t 17) (.seq (.reg q88_3) .ret) .skip)) (.seq (.seq (.reg q88_4) (.cond (.t 22) (.seq (.seq (.reg q88_5) (.block 0 (.loop (.seq (.seq (.reg q88_6) (.cond (.t 27) .skip (.exit 0))) (.seq (.block 1 (.reg q88_7)) (.reg q88_8)))))) (.seq (.reg q88_9) .ret)) .skip)) (.seq (.reg q88_10) (.seq (.seq (.reg q88_11) (.cond (.t 43) (.seq (.seq (.reg q88_12) (.cond (.t 49) (.seq (.reg q88_13) .ret) .skip)) (.seq (.reg q88_14) (.seq (.seq (.reg q88_15) (.cond (.t 63) (.seq (.reg q88_16) .ret) .skip)) (.seq (.reg q88_17) (.seq (.seq (.reg q88_18) (.cond (.t 70) (.reg q88_19) .skip)) (.seq (.reg q88_20) (.cond (.t 78) (.reg q88_21) .skip))))))) .skip)) (.seq (.seq (.reg q88_22) (.cond (.t 85) (.seq (.reg q88_23) .ret) .skip)) (.seq (.reg q88_24) (.seq (.reg q88_25) .ret)))))))))
theorem Tryz.c_ref6_opResult : fnComp Tryz.prog 88 = some (92, Tryz.l_ref6_opResult,[.t 8,.t 9]) := by kernel_rfl
def q34_0 : LReg := rG [oO 2 (.box 53 3 (.t 0)),oO 3 (.box 25 1 (.t 1)),oO 4 (mK (.c (.nils))),oO 5 (.alloc 31 2 [.int .i64 0,.int .i64 0])]
def q34_1 : LReg := rG [oO 6 (mK (.c (.nils)))]
def q34_2 : LReg := rG [oO 7 (mK (kI 0))]
def q34_3 : LReg := rG [oM 10 7,oO 11 (fA 1 2),oO 12 (lV 1 11),oO 13 (lN 12),oO 14 (bT .lss 10 13)]
def q34_4 : LReg := ⟨[oO 18 (lA 3 2),oO 19 (lA 1 3),oO 20 (fA 1 2),oO 21 (lV 1 20),oM 22 7,oO 23 (iX 2 21 22),oO 24 (lA 2 23),oM 25 6,oO 26 (cA 88 [18,19,24,25]),oM 17 26,oO 27 (eX 0 17),oO 28 (eX 1 17),oM 8 27,oM 9 28],true,[(0,1),(0,2),(1,2),(0,3),(1,3),(0,5),(1,5),(0,6),(1,6)]⟩
def q34_5 : LReg := rG [oM 29 9,oO 30 (bK .neq 29 0)]
def q34_6 : LReg := rG [oM 31 9,oM 32 7,oO 33 (.bin .sub (kI (-3)) (.t 32)),oO 34 (cA 80 [31,33]),oO 4 (mK (.c (.nils))),oX (sT 2 5 34)]
def q34_7 : LReg := rG [oM 35 8,oM 6 35]
def q34_8 : LReg := rG [oM 15 7,oO 16 (bK .add 15 1),oM 7 16]
def q34_9 : LReg := rG [oM 36 6,oO 37 (.build [.int .i64 0,.int .i64 0] []),oM 4 36,oX (sT 2 5 37)]
def Tryz.l_ref6_Ran : LCode := (.seq (.reg q34_0) (.seq (.reg q34_1) (.seq (.seq (.reg q34_2) (.block 0 (.loop (.seq (.seq (.reg q34_3) (.cond (.t 14) .skip (.exit 0))) (.seq (.block 1 (.seq (.reg q34_4) (.seq (.seq (.reg q34_5) (.cond (.t 30) (.seq (.reg q34_6) .ret) .skip)) (.reg q34_7)))) (.reg q34_8)))))) (.seq (.reg q34_9) .ret))))
theorem Tryz.c_ref6_Ran : fnComp Tryz.prog 34 = some (38, Tryz.l_ref6_Ran,[.t 4,.cell 5 2 true]) := by kernel_rfl
def q136_0 : LReg := rG [oO 4 (mK (kB false))]
def q136_1 : LReg := rG [oM 5 0,oO 6 (sN 5),oM 7 1,oO 8 (sN 7),oO 9 (bT .geq 6 8),oM 10 9,oT 11 10 (.mv (.t 0)),oT 12 10 (.mv (.t 1)),oT 13 10 (sN 12),oT 14 10 (.sslice (.t 11) none (some (.t 13))),oT 15 10 (.mv (.t 1)),oT 16 10 (bT .eql 14 15),oO 17 (pK 10 16 (kB false)),oM 4 17]
def Tryz.l_ref5_Starts : LCode := (.seq (.reg q136_0) (.seq (.reg q136_1) .ret))
theorem Tryz.c_ref5_Starts : fnComp Tryz.prog 136 = some (18, Tryz.l_ref5_Starts,[.t 4]) := by kernel_rfl
def q90_0 : LReg := rG [oO 4 (mK (kB false))]
def q90_1 : LReg := rG [oM 5 0,oM 6 1,oO 7 (bT .eql 5 6),oM 8 7,oF 9 8 (.mv (.t 0)),oF 10 8 (.mv (.t 1)),oF 11 8 (.bin .add (.t 10) (.c (.str [47]))),oF 12 8 (cA 136 [9,11]),oO 13 (pL 8 (kB true) 12),oM 14 13,oF 15 14 (.mv (.t 1)),oF 16 14 (.mv (.t 0)),oF 17 14 (.bin .add (.t 16) (.c (.str [47]))),oF 18 14 (cA 136 [15,17]),oO 19 (pL 14 (kB true) 18),oM 4 19]
def Tryz.l_ref6_related : LCode := (.seq (.reg q90_0) (.seq (.reg q90_1) .ret))
theorem Tryz.c_ref6_related : fnComp Tryz.prog 90 = some (20, Tryz.l_ref6_related,[.t 4]) := by kernel_rfl
def q39_0 : LReg := rG [oO 3 (.box 25 1 (.t 1)),oO 4 (.alloc 25 1 [.nils]),oO 5 (.alloc 31 2 [.int .i64 0,.int .i64 0])]
def q39_1 : LReg := rG [oO 6 (.alloc 25 1 [.nils])]
def q39_2 : LReg := rG [oO 7 (mK (kI 0))]
def q39_3 : LReg := rG [oM 11 7,oM 12 0,oO 13 (lN 12),oO 14 (bT .lss 11 13)]
def q39_4 : LReg := rG [oO 8 (mK (kI 0))]
def q39_5 : LReg := rG [oM 17 8,oO 18 (fA 0 3),oO 19 (lV 1 18),oO 20 (lN 19),oO 21 (bT .lss 17 20)]
def q39_6 : LReg := ⟨[oO 24 (fA 0 3),oO 25 (lV 1 24),oM 26 8,oO 27 (iX 2 25 26),oO 28 (fA 0 27),oO 29 (lV 1 28),oM 30 0,oM 31 7,oO 32 (iX 3 30 31),oO 33 (fA 2 32),oO 34 (lV 1 33),oO 35 (cA 90 [29,34])],true,[(0,8),(1,8),(3,8),(4,8),(5,8),(0,9),(1,9),(3,9),(4,9),(5,9),(0,10),(1,10),(3,10),(4,10),(5,10)]⟩
def q39_7 : LReg := rG [oO 36 (.build [.nils] []),oM 37 7,oO 38 (.call 80 [(kI 7),(.t 37)]),oX (sT 1 4 36),oX (sT 2 5 38)]
def q39_8 : LReg := rG [oM 22 8,oO 23 (bK .add 22 1),oM 8 23]
def q39_9 : LReg := rG [oO 39 (fA 0 3),oO 40 (lV 1 39),oO 41 (lN 40),oO 42 (bK .eql 41 24)]
def q39_10 : LReg := rG [oO 43 (.build [.nils] []),oM 44 7,oO 45 (.call 80 [(kI 10),(.t 44)]),oX (sT 1 4 43),oX (sT 2 5 45)]
def q39_11 : LReg := ⟨[oM 47 0,oM 48 7,oO 49 (iX 3 47 48),oO 50 (lA 3 49),oO 51 (lA 1 3),oO 52 (cA 34 [50,51]),oM 46 52,oO 53 (eX 0 46),oO 54 (eX 1 46),oO 10 (.alloc 31 2 [.int .i64 0,.int .i64 0]),oM 9 53,oX (sT 2 10 54)],true,[(2,4),(3,4),(2,9),(3,9),(4,9),(5,9)]⟩
def q39_12 : LReg := rG [oO 55 (fA 0 10),oO 56 (lV 1 55),oO 57 (bK .neq 56 0)]
def q39_13 : LReg := rG [oO 58 (.build [.nils] []),oO 59 (fA 0 10),oO 60 (lV 1 59),oM 61 7,oO 62 (cA 80 [60,61]),oX (sT 1 4 58),oX (sT 2 5 62)]
def q39_14 : LReg := ⟨[oO 63 (lA 1 3),oM 64 0,oM 65 7,oO 66 (iX 3 64 65),oO 67 (fA 2 66),oO 68 (lV 1 67),oM 69 9,oO 70 (cA 15 [63,68,69]),oX (sT 1 3 70)],true,[(0,3),(0,4),(0,5)]⟩
def q39_15 : LReg := ⟨[oO 71 (lA 1 6),oM 72 0,oM 73 7,oO 74 (iX 3 72 73),oO 75 (fA 2 74),oO 76 (lV 1 75),oM 77 9,oO 78 (cA 15 [71,76,77]),oX (sT 1 6 78)],true,[(0,3),(0,4),(0,5)]⟩
def q39_16 : LReg := rG [oM 15 7,oO 16 (bK .add 15 1),oM 7 16]
def q39_17 : LReg := rG [oO 79 (lA 1 6),oO 80 (.build [.int .i64 0,.int .i64 0] []),oX (sT 1 4 79),oX (sT 2 5 80)]
def Tryz.l_ref6_Built : LCode := (.seq (.reg q39_0) (.seq (.reg q39_1) (.seq (.seq (.reg q39_2) (.block 0 (.loop (.seq (.seq (.reg q39_3) (.cond (.t 14) .skip (.exit 0))) (.seq (.block 1 (.seq (.seq (.reg q39_4) (.block 2 (.loop (.seq (.seq (.reg q39_5) (.cond (.t 21) .skip (.exit 2))) (.seq (.block 3 (.seq (.reg q39_6) (.cond (.t 35) (.seq (.reg q39_7) .ret) .skip))) (.reg q39_8)))))) (.seq (.seq (.reg q39_9) (.cond (.t 42) (.seq (.reg q39_10) .ret) .skip)) (.seq (.reg q39_11) (.seq (.seq (.reg q39_12) (.cond (.t 57) (.seq (.reg q39_13) .ret) .skip)) (.seq (.reg q39_14) (.reg q39_15))))))) (.reg q39_16)))))) (.seq (.reg q39_17) .ret))))
theorem Tryz.c_ref6_Built : fnComp Tryz.prog 39 = some (81, Tryz.l_ref6_Built,[.cell 4 1 true,.cell 5 2 true]) := by kernel_rfl
def q49_0 : LReg := rG [oO 2 (.box 25 1 (.t 0)),oO 4 (.alloc 25 1 [.nils])]
def q49_1 : LReg := rG [oO 5 (.alloc 25 1 [.nils])]
def q49_2 : LReg := rG [oO 6 (mK (kI 0))]
def q49_3 : LReg := rG [oM 7 6,oO 8 (fA 0 2),oO 9 (lV 1 8),oO 10 (lN 9),oO 11 (bT .lss 7 10)]
def q49_4 : LReg := rG [oM 14 1,oO 15 (fA 0 2),oO 16 (lV 1 15),oM 17 6,oO 18 (iX 2 16 17),oO 19 (fA 0 18),oO 20 (lV 1 19),oO 21 (cA 19 [14,20])]
def q49_5 : LReg := ⟨[oO 22 (fA 0 5),oO 23 (lV 1 22),oO 24 (fA 0 2),oO 25 (lV 1 24),oM 26 6,oO 27 (iX 2 25 26),oO 28 (lA 2 27),oO 29 (.mkSlice 37 2 1 [.str [],.nils] [(0,(.t 28))]),oO 30 (.append 37 2 40 (.t 23) (.t 29)),oO 31 (fA 0 5),oX (sT 1 31 30)],true,[(0,2),(1,2),(0,3),(1,3),(0,5),(1,5),(0,6),(1,6),(0,7),(1,7)]⟩
def q49_6 : LReg := rG [oM 12 6,oO 13 (bK .add 12 1),oM 6 13]
def q49_7 : LReg := rG [oO 32 (lA 1 5),oX (sT 1 4 32)]
def Tryz.l_ref6_Restricted : LCode := (.seq (.reg q49_0) (.seq (.reg q49_1) (.seq (.seq (.reg q49_2) (.block 0 (.loop (.seq (.seq (.reg q49_3) (.cond (.t 11) .skip (.exit 0))) (.seq (.block 1 (.seq (.reg q49_4) (.cond (.t 21) (.reg q49_5) .skip))) (.reg q49_6)))))) (.seq (.reg q49_7) .ret))))
theorem Tryz.c_ref6_Restricted : fnComp Tryz.prog 49 = some (33, Tryz.l_ref6_Restricted,[.cell 4 1 true]) := by kernel_rfl
def q134_0 : LReg := rG [oO 4 (mK (kI 0))]
def q134_1 : LReg := rG [oO 5 (mK (kI 0))]
def q134_2 : LReg := rG [oM 6 1,oO 7 (bK .gtr 6 0)]
def q134_3 : LReg := rG [oM 8 1,oO 9 (bK .rem 8 2),oO 10 (bK .eql 9 1)]
def q134_4 : LReg := rG [oM 11 5,oM 12 0,oO 13 (bT .add 11 12),oO 14 (bK .rem 13 2305843009213693951),oM 5 14]
def q134_5 : LReg := rG [oM 15 0,oM 16 0,oO 17 (bT .add 15 16),oO 18 (bK .rem 17 2305843009213693951),oM 0 18]
def q134_6 : LReg := rG [oM 19 1,oO 20 (bK .quo 19 2),oM 1 20]
def q134_7 : LReg := rG [oM 21 5,oM 4 21]
def Tryz.l_ref1_times : LCode := (.seq (.reg q134_0) (.seq (.reg q134_1) (.seq (.block 0 (.loop (.seq (.seq (.reg q134_2) (.cond (.t 7) .skip (.exit 0))) (.block 1 (.seq (.seq (.reg q134_3) (.cond (.t 10) (.reg q134_4) .skip)) (.seq (.reg q134_5) (.reg q134_6))))))) (.seq (.reg q134_7) .ret))))
theorem Tryz.c_ref1_times : fnComp Tryz.prog 134 = some (22, Tryz.l_ref1_times,[.t 4]) := by kernel_rfl
def q86_0 : LReg := rG [oO 4 (mK (kI 0))]
def q86_1 : LReg := rG [oM 5 0,oO 6 (.call 134 [(.t 5),(kI 1000003)]),oM 7 1,oO 8 (.call 134 [(.t 7),(kI 31)]),oO 9 (bT .add 6 8),oO 10 (bK .add 9 7),oO 11 (bK .rem 10 2305843009213693951),oM 4 11]
def Tryz.l_ref1_DigestPair : LCode := (.seq (.reg q86_0) (.seq (.reg q86_1) .ret))
theorem Tryz.c_ref1_DigestPair : fnComp Tryz.prog 86 = some (12, Tryz.l_ref1_DigestPair,[.t 4]) := by kernel_rfl
def q87_0 : LReg := rG [oO 2 (mK (kI 0))]
def q87_1 : LReg := rG [oO 3 (mK (kI 1))]
def q87_2 : LReg := rG [oO 4 (mK (kI 0))]
def q87_3 : LReg := rG [oM 5 4,oM 6 0,oO 7 (lN 6),oO 8 (bT .lss 5 7)]
def q87_4 : LReg := ⟨[oM 11 3,oO 12 (.call 134 [(.t 11),(kI 257)]),oM 13 0,oM 14 4,oO 15 (iX 1 13 14),oO 16 (lV 1 15),oO 17 (.conv .i64 (.t 16)),oO 18 (bT .add 12 17),oO 19 (bK .add 18 1),oO 20 (bK .rem 19 2305843009213693951),oM 3 20],true,[(1,4),(1,5)]⟩
def q87_5 : LReg := rG [oM 9 4,oO 10 (bK .add 9 1),oM 4 10]
def q87_6 : LReg := rG [oM 21 3,oM 2 21]
def Tryz.l_ref1_DigestOf : LCode := (.seq (.reg q87_0) (.seq (.reg q87_1) (.seq (.seq (.reg q87_2) (.block 0 (.loop (.seq (.seq (.reg q87_3) (.cond (.t 8) .skip (.exit 0))) (.seq (.block 1 (.reg q87_4)) (.reg q87_5)))))) (.seq (.reg q87_6) .ret))))
theorem Tryz.c_ref1_DigestOf : fnComp Tryz.prog 87 = some (22, Tryz.l_ref1_DigestOf,[.t 2]) := by kernel_rfl
def q133_0 : LReg := rG [oO 2 (mK (kI 0)),oO 3 (.alloc 31 2 [.int .i64 0,.int .i64 0])]
def q133_1 : LReg := rG [oM 6 0,oO 7 (lN 6),oO 8 (bK .gtr 7 120)]
def q133_2 : LReg := rG [oO 9 (.call 103 [(kI 2),(kI (-1))]),oO 2 (mK (kI 0)),oX (sT 2 3 9)]
def q133_3 : LReg := rG [oO 4 (mK (kI 2))]
def q133_4 : LReg := rG [oO 5 (mK (kI 0))]
def q133_5 : LReg := rG [oM 10 5,oM 11 0,oO 12 (lN 11),oO 13 (bT .lss 10 12)]
def q133_6 : LReg := rG [oM 16 0,oM 17 5,oO 18 (iX 1 16 17),oO 19 (lV 1 18),oO 20 (sN 19),oO 21 (bK .gtr 20 4096)]
def q133_7 : LReg := rG [oM 22 5,oO 23 (.call 103 [(kI 2),(.t 22)]),oO 2 (mK (kI 0)),oX (sT 2 3 23)]
def q133_8 : LReg := rG [oM 24 4,oM 25 0,oM 26 5,oO 27 (iX 1 25 26),oO 28 (lV 1 27),oO 29 (.toBytes 5 (.t 28)),oO 30 (cA 87 [29]),oO 31 (cA 86 [24,30]),oM 4 31]
def q133_9 : LReg := rG [oM 14 5,oO 15 (bK .add 14 1),oM 5 15]
def q133_10 : LReg := rG [oM 32 4,oO 33 (.build [.int .i64 0,.int .i64 0] []),oM 2 32,oX (sT 2 3 33)]
def Tryz.l_ref1_DigestStrings : LCode := (.seq (.reg q133_0) (.seq (.seq (.reg q133_1) (.cond (.t 8) (.seq (.reg q133_2) .ret) .skip)) (.seq (.reg q133_3) (.seq (.seq (.reg q133_4) (.block 0 (.loop (.seq (.seq (.reg q133_5) (.cond (.t 13) .skip (.exit 0))) (.seq (.block 1 (.seq (.seq (.reg q133_6) (.cond (.t 21) (.seq (.reg q133_7) .ret) .skip)) (.reg q133_8))) (.reg q133_9)))))) (.seq (.reg q133_10) .ret)))))
theorem Tryz.c_ref1_DigestStrings : fnComp Tryz.prog 133 = some (34, Tryz.l_ref1_DigestStrings,[.t 2,.cell 3 2 true]) := by kernel_rfl
def q85_0 : LReg := rG [oO 2 (mK (kI 0))]
def q85_1 : LReg := rG [oM 6 0,oO 7 (cA 133 [6]),oM 5 7,oO 8 (eX 0 5),oO 9 (eX 1 5),oO 4 (.alloc 31 2 [.int .i64 0,.int .i64 0]),oM 3 8,oX (sT 2 4 9)]
def q85_2 : LReg := rG [oM 10 3,oM 2 10]
def Tryz.l_ref6_stringsSum : LCode := (.seq (.reg q85_0) (.seq (.reg q85_1) (.seq (.reg q85_2) .ret)))
theorem Tryz.c_ref6_stringsSum : fnComp Tryz.prog 85 = some (11, Tryz.l_ref6_stringsSum,[.t 2]) := by kernel_rfl
def q93_0 : LReg := rG [oO 2 (.box 25 1 (.t 0)),oO 4 (mK (kI 0))]
def q93_1 : LReg := rG [oO 8 (lA 1 2),oM 9 1,oO 10 (cA 23 [8,9]),oM 7 10,oO 11 (eX 0 7),oO 12 (eX 1 7),oM 5 11,oM 6 12]
def q93_2 : LReg := rG [oM 13 6,oO 14 (.un .not (.t 13))]
def q93_3 : LReg := rG [oO 4 (mK (kI (-1)))]
def q93_4 : LReg := rG [oM 15 5,oO 16 (cA 85 [15]),oM 4 16]
def Tryz.l_ref6_FileSum : LCode := (.seq (.reg q93_0) (.seq (.reg q93_1) (.seq (.seq (.reg q93_2) (.cond (.t 14) (.seq (.reg q93_3) .ret) .skip)) (.seq (.reg q93_4) .ret))))
theorem Tryz.c_ref6_FileSum : fnComp Tryz.prog 93 = some (17, Tryz.l_ref6_FileSum,[.t 4]) := by kernel_rfl
def q96_0 : LReg := rG [oO 3 (.box 25 1 (.t 1)),oO 4 (mK (.c (.nils)))]
def q96_1 : LReg := rG [oO 5 (mK (.c (.nils)))]
def q96_2 : LReg := rG [oO 6 (mK (kI 0))]
def q96_3 : LReg := rG [oM 7 6,oM 8 0,oO 9 (lN 8),oO 10 (bT .lss 7 9)]
def q96_4 : LReg := ⟨[oO 13 (lA 1 3),oM 14 0,oM 15 6,oO 16 (iX 2 14 15),oO 17 (fA 0 16),oO 18 (lV 1 17),oO 19 (cA 93 [13,18]),oM 20 0,oM 21 6,oO 22 (iX 2 20 21),oO 23 (fA 1 22),oO 24 (lV 1 23),oO 25 (bT .neq 19 24)],true,[(0,3),(0,4),(0,5),(0,9),(3,9),(4,9),(5,9),(6,9),(0,10),(3,10),(4,10),(5,10),(6,10),(0,11),(3,11),(4,11),(5,11),(6,11)]⟩
def q96_5 : LReg := rG [oM 26 5,oM 27 6,oO 28 (.mkSlice 3 1 1 [.int .i64 0] [(0,(.t 27))]),oO 29 (.append 3 1 8 (.t 26) (.t 28)),oM 5 29]
def q96_6 : LReg := rG [oM 11 6,oO 12 (bK .add 11 1),oM 6 12]
def q96_7 : LReg := rG [oM 30 5,oM 4 30]
def Tryz.l_ref6_Wrong : LCode := (.seq (.reg q96_0) (.seq (.reg q96_1) (.seq (.seq (.reg q96_2) (.block 0 (.loop (.seq (.seq (.reg q96_3) (.cond (.t 10) .skip (.exit 0))) (.seq (.block 1 (.seq (.reg q96_4) (.cond (.t 25) (.reg q96_5) .skip))) (.reg q96_6)))))) (.seq (.reg q96_7) .ret))))
theorem Tryz.c_ref6_Wrong : fnComp Tryz.prog 96 = some (31, Tryz.l_ref6_Wrong,[.t 4]) := by kernel_rfl
def q45_0 : LReg := rG [oO 2 (.box 29 3 (.t 0)),oO 3 (.box 25 1 (.t 1)),oO 4 (.alloc 25 1 [.nils]),oO 5 (.alloc 31 2 [.int .i64 0,.int .i64 0])]
def q45_1 : LReg := rG [oO 10 (lA 3 2),oO 11 (cA 44 [10]),oO 6 (.alloc 31 2 [.int .i64 0,.int .i64 0]),oX (sT 2 6 11)]
def q45_2 : LReg := rG [oO 12 (fA 0 6),oO 13 (lV 1 12),oO 14 (bK .eql 13 0)]
def q45_3 : LReg := rG [oO 15 (lA 1 3),oO 16 (.call 84 [(.t 15),(kI (-4))]),oX (sT 2 6 16)]
def q45_4 : LReg := rG [oO 17 (fA 0 6),oO 18 (lV 1 17),oO 19 (bK .neq 18 0)]
def q45_5 : LReg := ⟨[oO 20 (.build [.nils] []),oO 21 (lA 2 6),oX (sT 1 4 20),oX (sT 2 5 21)],true,[(1,2)]⟩
def q45_6 : LReg := rG [oO 22 (fA 1 2),oO 23 (lV 1 22),oO 24 (lA 1 3),oO 25 (cA 96 [23,24]),oM 7 25]
def q45_7 : LReg := rG [oM 26 7,oO 27 (lN 26),oO 28 (bK .gtr 27 0)]
def q45_8 : LReg := rG [oO 29 (.build [.nils] []),oM 30 7,oO 31 (.idx 1 (.t 30) (kI 0)),oO 32 (lV 1 31),oO 33 (.call 80 [(kI 18),(.t 32)]),oX (sT 1 4 29),oX (sT 2 5 33)]
def q45_9 : LReg := rG [oO 8 (mK (.c (.nils)))]
def q45_10 : LReg := rG [oO 9 (mK (kI 0))]
def q45_11 : LReg := rG [oM 34 9,oO 35 (fA 1 2),oO 36 (lV 1 35),oO 37 (lN 36),oO 38 (bT .lss 34 37)]
def q45_12 : LReg := rG [oM 41 8,oO 42 (fA 1 2),oO 43 (lV 1 42),oM 44 9,oO 45 (iX 2 43 44),oO 46 (fA 0 45),oO 47 (lV 1 46),oO 48 (.mkSlice 9 1 1 [.str []] [(0,(.t 47))]),oO 49 (.append 9 1 16 (.t 41) (.t 48)),oM 8 49]
def q45_13 : LReg := rG [oM 39 9,oO 40 (bK .add 39 1),oM 9 40]
def q45_14 : LReg := ⟨[oO 50 (fA 0 2),oO 51 (lV 1 50),oO 52 (lA 1 3),oM 53 8,oO 54 (cA 49 [52,53]),oO 55 (cA 39 [51,54]),oO 56 (eX 0 55),oO 57 (eX 1 55),oX (sT 1 4 56),oX (sT 2 5 57)],true,[(0,2),(1,2),(0,4),(1,4)]⟩
def Tryz.l_ref6_Rebuilt : LCode := (.seq (.reg q45_0) (.seq (.reg q45_1) (.seq (.seq (.reg q45_2) (.cond (.t 14) (.reg q45_3) .skip)) (.seq (.seq (.reg q45_4) (.cond (.t 19) (.seq (.reg q45_5) .ret) .skip)) (.seq (.reg q45_6) (.seq (.seq (.reg q45_7) (.cond (.t 28) (.seq (.reg q45_8) .ret) .skip)) (.seq (.reg q45_9) (.seq (.seq (.reg q45_10) (.block 0 (.loop (.seq (.seq (.reg q45_11) (.cond (.t 38) .skip (.exit 0))) (.seq (.block 1 (.reg q45_12)) (.reg q45_13)))))) (.seq (.reg q45_14) .ret)))))))))
theorem Tryz.c_ref6_Rebuilt : fnComp Tryz.prog 45 = some (58, Tryz.l_ref6_Rebuilt,[.cell 4 1 true,.cell 5 2 true]) := by kernel_rfl
def q8_0 : LReg := rG [oO 2 (.box 29 3 (.t 0)),oO 3 (.box 25 1 (.t 1)),oO 4 (mK (kB false))]
def q8_1 : LReg := ⟨[oO 11 (cA 37 []),oO 12 (.un .not (.t 11)),oM 13 12,oF 14 13 (lA 3 2),oF 15 13 (cA 43 [14]),oF 16 13 (lA 3 2),oF 17 13 (cA 44 [16]),oF 18 13 (.eqs true [0,0] (.t 15) (.t 17)),oO 19 (pL 13 (kB true) 18)],true,[(3,5),(4,5)]⟩
def q8_2 : LReg := rG [oO 4 (mK (kB false))]
def q8_3 : LReg := rG [oO 21 (lA 3 2),oO 22 (lA 1 3),oO 23 (cA 45 [21,22]),oM 20 23,oO 24 (eX 0 20),oO 25 (eX 1 20),oO 5 (.alloc 25 1 [.nils]),oO 6 (.alloc 31 2 [.int .i64 0,.int .i64 0]),oX (sT 1 5 24),oX (sT 2 6 25)]
def q8_4 : LReg := rG [oO 27 (lA 3 2),oO 28 (lA 1 3),oO 29 (cA 46 [27,28]),oM 26 29,oO 30 (eX 0 26),oO 31 (eX 1 26),oO 7 (.alloc 25 1 [.nils]),oO 8 (.alloc 31 2 [.int .i64 0,.int .i64 0]),oX (sT 1 7 30),oX (sT 2 8 31)]
def q8_5 : LReg := rG [oO 33 (lA 3 2),oO 34 (lA 1 3),oO 35 (cA 47 [33,34]),oM 32 35,oO 36 (eX 0 32),oO 37 (eX 1 32),oO 10 (.alloc 31 2 [.int .i64 0,.int .i64 0]),oM 9 36,oX (sT 2 10 37)]
def q8_6 : LReg := rG [oO 38 (lA 2 8),oO 39 (lA 2 6),oO 40 (.eqs false [0,0] (.t 38) (.t 39)),oM 41 40,oT 42 41 (lA 2 10),oT 43 41 (lA 2 6),oT 44 41 (.eqs false [0,0] (.t 42) (.t 43)),oO 45 (pK 41 44 (kB false)),oM 46 45,oT 47 46 (lA 1 5),oT 48 46 (lA 1 7),oT 49 46 (cA 48 [47,48]),oO 50 (pK 46 49 (kB false)),oM 51 50,oT 52 51 (.mv (.t 9)),oT 53 51 (fA 0 6),oT 54 51 (lV 1 53),oT 55 51 (bK .eql 54 0),oT 56 51 (.mv (.t 55)),oT 57 56 (lA 1 5),oT 58 56 (fA 2 2),oT 59 56 (lA 1 58),oT 60 56 (cA 48 [57,59]),oT 61 51 (pK 56 60 (kB false)),oT 62 51 (.eqb false (.t 52) (.t 61)),oO 63 (pK 51 62 (kB false)),oM 4 63]
def Tryz.l_law6_ReleaseRebuildMatchesSpec : LCode := (.seq (.reg q8_0) (.seq (.seq (.reg q8_1) (.cond (.t 19) (.seq (.reg q8_2) .ret) .skip)) (.seq (.reg q8_3) (.seq (.reg q8_4) (.seq (.reg q8_5) (.seq (.reg q8_6) .ret))))))
theorem Tryz.c_law6_ReleaseRebuildMatchesSpec : fnComp Tryz.prog 8 = some (64, Tryz.l_law6_ReleaseRebuildMatchesSpec,[.t 4]) := by kernel_rfl
end Go.Proofs.YtlkknmhhefjmjaaGreatDoor
