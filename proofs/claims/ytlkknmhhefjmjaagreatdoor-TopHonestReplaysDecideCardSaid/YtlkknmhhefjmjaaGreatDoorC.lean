/- The code of the functions, as the evaluator reads it. Laid by a program (wip/gen/dec.py). -/
import Derived.Test.YtlkknmhhefjmjaaGreatDoorProg
import Derived.Test.YtlkknmhhefjmjaaGreatDoorPwFam
import Derived.Test.YtlkknmhhefjmjaaGreatDoorPwAuto
namespace Go.Proofs.YtlkknmhhefjmjaaGreatDoor
open Go.PW Go
theorem hm : Tryz.prog.follows .mixedOrders = true := by kernel_rfl
instance : Hm Tryz.prog := ⟨hm⟩
def q185_0 : LReg := rG [oO 4 (mK (kB false))]
def q185_1 : LReg := rG [oM 5 0,oO 6 (sN 5),oM 7 1,oO 8 (sN 7),oO 9 (bT .geq 6 8),oM 10 9,oT 11 10 (.mv (.t 0)),oT 12 10 (.mv (.t 1)),oT 13 10 (sN 12),oT 14 10 (.sslice (.t 11) none (some (.t 13))),oT 15 10 (.mv (.t 1)),oT 16 10 (bT .eql 14 15),oO 17 (pK 10 16 (kB false)),oM 4 17]
def Tryz.l_internal_stringslite_HasPrefix : LCode := (.seq (.reg q185_0) (.seq (.reg q185_1) .ret))
theorem Tryz.c_internal_stringslite_HasPrefix : fnComp Tryz.prog 185 = some (18, Tryz.l_internal_stringslite_HasPrefix,[.t 4]) := by kernel_rfl
def q172_0 : LReg := rG [oO 4 (mK (kB false))]
def q172_1 : LReg := rG [oM 5 0,oM 6 1,oO 7 (cA 185 [5,6]),oM 4 7]
def Tryz.l_strings_HasPrefix : LCode := (.seq (.reg q172_0) (.seq (.reg q172_1) .ret))
theorem Tryz.c_strings_HasPrefix : fnComp Tryz.prog 172 = some (8, Tryz.l_strings_HasPrefix,[.t 4]) := by kernel_rfl
def q149_0 : LReg := rG [oO 4 (mK (kB false))]
def q149_1 : LReg := rG [oM 5 0,oM 6 1,oO 7 (bT .eql 5 6),oM 8 7,oF 9 8 (.mv (.t 0)),oF 10 8 (.mv (.t 1)),oF 11 8 (.bin .add (.t 10) (.c (.str [47]))),oF 12 8 (cA 172 [9,11]),oO 13 (pL 8 (kB true) 12),oM 14 13,oF 15 14 (.mv (.t 1)),oF 16 14 (.mv (.t 0)),oF 17 14 (.bin .add (.t 16) (.c (.str [47]))),oF 18 14 (cA 172 [15,17]),oO 19 (pL 14 (kB true) 18),oM 4 19]
def Tryz.l_treepatch_Related : LCode := (.seq (.reg q149_0) (.seq (.reg q149_1) .ret))
theorem Tryz.c_treepatch_Related : fnComp Tryz.prog 149 = some (20, Tryz.l_treepatch_Related,[.t 4]) := by kernel_rfl
def q112_0 : LReg := rG [oO 6 (mK (kB false))]
def q112_1 : LReg := rG [oM 9 0,oO 10 (lN 9),oO 11 (mK (kI 0))]
def q112_2 : LReg := rG [oO 12 (bT .lss 11 10)]
def q112_3 : LReg := rG [oM 13 11,oO 14 (iX 2 9 11),oO 15 (lA 2 14),oO 8 (.alloc 37 2 [.str [],.nils]),oM 7 13,oX (sT 2 8 15)]
def q112_4 : LReg := rG [oM 16 7,oM 17 2,oO 18 (bT .neq 16 17),oM 19 18,oT 20 19 (fA 0 8),oT 21 19 (lV 1 20),oT 22 19 (.mv (.t 1)),oT 23 19 (cA 149 [21,22]),oO 24 (pK 19 23 (kB false))]
def q112_5 : LReg := rG [oO 6 (mK (kB true))]
def q112_6 : LReg := rG [oO 25 (bK .add 11 1),oM 11 25]
def q112_7 : LReg := rG [oO 6 (mK (kB false))]
def Tryz.l_treepatch_Clash : LCode := (.seq (.reg q112_0) (.seq (.seq (.reg q112_1) (.block 0 (.loop (.seq (.reg q112_2) (.seq (.cond (.t 12) .skip (.exit 0)) (.seq (.block 1 (.seq (.reg q112_3) (.seq (.reg q112_4) (.cond (.t 24) (.seq (.reg q112_5) .ret) .skip)))) (.reg q112_6))))))) (.seq (.reg q112_7) .ret)))
theorem Tryz.c_treepatch_Clash : fnComp Tryz.prog 112 = some (26, Tryz.l_treepatch_Clash,[.t 6]) := by kernel_rfl
def q156_0 : LReg := rG [oO 2 (.alloc 31 2 [.int .i64 0,.int .i64 0])]
def q156_1 : LReg := rG [oM 5 0,oO 6 (lN 5),oO 7 (bK .gtr 6 120)]
def q156_2 : LReg := rG [oO 8 (.build [.int .i64 0,.int .i64 0] [(0,1,(kI 2)),(1,1,(kI (-1)))]),oX (sT 2 2 8)]
def q156_3 : LReg := rG [oM 9 0,oO 10 (lN 9),oO 11 (mK (kI 0))]
def q156_4 : LReg := rG [oO 12 (bT .lss 11 10)]
def q156_5 : LReg := rG [oM 13 11,oO 14 (iX 1 9 11),oO 15 (lV 1 14),oM 3 13,oM 4 15]
def q156_6 : LReg := rG [oM 16 4,oO 17 (sN 16),oO 18 (bK .gtr 17 80)]
def q156_7 : LReg := rG [oM 19 3,oO 20 (.build [.int .i64 0,.int .i64 0] [(0,1,(kI 2)),(1,1,(.t 19))]),oX (sT 2 2 20)]
def q156_8 : LReg := rG [oM 21 4,oO 22 (.call 177 [(.t 21),(.c (.int .u8 10))]),oO 23 (bK .geq 22 0)]
def q156_9 : LReg := rG [oM 24 3,oO 25 (.build [.int .i64 0,.int .i64 0] [(0,1,(kI 5)),(1,1,(.t 24))]),oX (sT 2 2 25)]
def q156_10 : LReg := rG [oO 26 (bK .add 11 1),oM 11 26]
def q156_11 : LReg := rG [oO 27 (.build [.int .i64 0,.int .i64 0] []),oX (sT 2 2 27)]
def Tryz.l_lines_Validate : LCode := (.seq (.reg q156_0) (.seq (.seq (.reg q156_1) (.cond (.t 7) (.seq (.reg q156_2) .ret) .skip)) (.seq (.seq (.reg q156_3) (.block 0 (.loop (.seq (.reg q156_4) (.seq (.cond (.t 12) .skip (.exit 0)) (.seq (.block 1 (.seq (.reg q156_5) (.seq (.seq (.reg q156_6) (.cond (.t 18) (.seq (.reg q156_7) .ret) .skip)) (.seq (.reg q156_8) (.cond (.t 23) (.seq (.reg q156_9) .ret) .skip))))) (.reg q156_10))))))) (.seq (.reg q156_11) .ret))))
theorem Tryz.c_lines_Validate : fnComp Tryz.prog 156 = some (28, Tryz.l_lines_Validate,[.cell 2 2 true]) := by kernel_rfl
def q122_0 : LReg := rG [oO 4 (.alloc 31 2 [.int .i64 0,.int .i64 0])]
def q122_1 : LReg := rG [oM 6 0,oO 7 (cA 156 [6]),oO 5 (.alloc 31 2 [.int .i64 0,.int .i64 0]),oX (sT 2 5 7)]
def q122_2 : LReg := rG [oO 8 (lA 2 5),oO 9 (.build [.int .i64 0,.int .i64 0] []),oO 10 (.eqs true [0,0] (.t 8) (.t 9))]
def q122_3 : LReg := rG [oO 11 (fA 0 5),oO 12 (lV 1 11),oM 13 1,oO 14 (.build [.int .i64 0,.int .i64 0] [(0,1,(.t 12)),(1,1,(.t 13))]),oX (sT 2 4 14)]
def q122_4 : LReg := rG [oO 15 (.build [.int .i64 0,.int .i64 0] []),oX (sT 2 4 15)]
def Tryz.l_lines_Second : LCode := (.seq (.reg q122_0) (.seq (.seq (.reg q122_1) (.seq (.reg q122_2) (.cond (.t 10) (.seq (.reg q122_3) .ret) .skip))) (.seq (.reg q122_4) .ret)))
theorem Tryz.c_lines_Second : fnComp Tryz.prog 122 = some (16, Tryz.l_lines_Second,[.cell 4 2 true]) := by kernel_rfl
def q108_0 : LReg := rG [oO 1 (.box 25 1 (.t 0)),oO 2 (.alloc 31 2 [.int .i64 0,.int .i64 0])]
def q108_1 : LReg := rG [oO 6 (fA 0 1),oO 7 (lV 1 6),oO 8 (lN 7),oO 9 (bK .gtr 8 24)]
def q108_2 : LReg := rG [oO 10 (.build [.int .i64 0,.int .i64 0] [(0,1,(kI 2)),(1,1,(kI (-1)))]),oX (sT 2 2 10)]
def q108_3 : LReg := rG [oO 11 (fA 0 1),oO 12 (lV 1 11),oO 13 (lN 12),oO 14 (mK (kI 0))]
def q108_4 : LReg := rG [oO 15 (bT .lss 14 13)]
def q108_5 : LReg := rG [oM 16 14,oO 17 (iX 2 12 14),oO 18 (lA 2 17),oO 4 (.alloc 37 2 [.str [],.nils]),oM 3 16,oX (sT 2 4 18)]
def q108_6 : LReg := rG [oO 20 (fA 0 4),oO 21 (lV 1 20),oO 22 (cA 115 [21]),oO 23 (.un .not (.t 22)),oM 19 23]
def q108_7 : LReg := rG [oM 24 3,oO 25 (.build [.int .i64 0,.int .i64 0] [(0,1,(kI 12)),(1,1,(.t 24))]),oX (sT 2 2 25)]
def q108_8 : LReg := ⟨[oM 27 3,oO 28 (bK .gtr 27 0),oM 29 28,oT 30 29 (fA 0 4),oT 31 29 (lV 1 30),oT 32 29 (fA 0 1),oT 33 29 (lV 1 32),oT 34 29 (.mv (.t 3)),oT 35 29 (bK .sub 34 1),oT 36 29 (iX 2 33 35),oT 37 29 (fA 0 36),oT 38 29 (lV 1 37),oT 39 29 (bT .leq 31 38),oO 40 (pK 29 39 (kB false)),oM 26 40],true,[(3,5),(4,5),(3,6),(4,6),(3,9),(4,9),(3,10),(4,10),(3,11),(4,11)]⟩
def q108_9 : LReg := rG [oM 41 3,oO 42 (.build [.int .i64 0,.int .i64 0] [(0,1,(kI 5)),(1,1,(.t 41))]),oX (sT 2 2 42)]
def q108_10 : LReg := ⟨[oO 44 (fA 0 1),oO 45 (lV 1 44),oM 46 3,oO 47 (.slice 2 (.t 45) none (some (.t 46))),oO 48 (fA 0 4),oO 49 (lV 1 48),oO 50 (.call 112 [(.t 47),(.t 49),(kI (-1))]),oM 43 50],true,[(0,4),(1,4),(3,4),(0,5),(1,5),(3,5)]⟩
def q108_11 : LReg := rG [oM 51 3,oO 52 (.build [.int .i64 0,.int .i64 0] [(0,1,(kI 7)),(1,1,(.t 51))]),oX (sT 2 2 52)]
def q108_12 : LReg := rG [oO 53 (fA 1 4),oO 54 (lV 1 53),oM 55 3,oO 56 (cA 122 [54,55]),oO 5 (.alloc 31 2 [.int .i64 0,.int .i64 0]),oX (sT 2 5 56)]
def q108_13 : LReg := rG [oO 57 (lA 2 5),oO 58 (.build [.int .i64 0,.int .i64 0] []),oO 59 (.eqs true [0,0] (.t 57) (.t 58))]
def q108_14 : LReg := rG [oO 60 (lA 2 5),oX (sT 2 2 60)]
def q108_15 : LReg := rG [oO 61 (bK .add 14 1),oM 14 61]
def q108_16 : LReg := rG [oO 62 (.build [.int .i64 0,.int .i64 0] []),oX (sT 2 2 62)]
def Tryz.l_treepatch_Validate : LCode := (.seq (.reg q108_0) (.seq (.seq (.reg q108_1) (.cond (.t 9) (.seq (.reg q108_2) .ret) .skip)) (.seq (.seq (.reg q108_3) (.block 0 (.loop (.seq (.reg q108_4) (.seq (.cond (.t 15) .skip (.exit 0)) (.seq (.block 1 (.seq (.reg q108_5) (.seq (.block 2 (.seq (.reg q108_6) (.cond (.t 19) (.seq (.reg q108_7) .ret) (.seq (.reg q108_8) (.cond (.t 26) (.seq (.reg q108_9) .ret) (.seq (.reg q108_10) (.cond (.t 43) (.seq (.reg q108_11) .ret) .skip))))))) (.seq (.reg q108_12) (.seq (.reg q108_13) (.cond (.t 59) (.seq (.reg q108_14) .ret) .skip)))))) (.reg q108_15))))))) (.seq (.reg q108_16) .ret))))
theorem Tryz.c_treepatch_Validate : fnComp Tryz.prog 108 = some (63, Tryz.l_treepatch_Validate,[.cell 2 2 true]) := by kernel_rfl
def q55_0 : LReg := rG [oO 2 (.box 25 1 (.t 0)),oO 4 (.alloc 31 2 [.int .i64 0,.int .i64 0])]
def q55_1 : LReg := rG [oO 6 (lA 1 2),oO 7 (cA 108 [6]),oO 5 (.alloc 31 2 [.int .i64 0,.int .i64 0]),oX (sT 2 5 7)]
def q55_2 : LReg := rG [oO 8 (lA 2 5),oO 9 (.build [.int .i64 0,.int .i64 0] []),oO 10 (.eqs true [0,0] (.t 8) (.t 9))]
def q55_3 : LReg := rG [oO 11 (fA 0 5),oO 12 (lV 1 11),oM 13 1,oO 14 (.build [.int .i64 0,.int .i64 0] [(0,1,(.t 12)),(1,1,(.t 13))]),oX (sT 2 4 14)]
def q55_4 : LReg := rG [oO 15 (.build [.int .i64 0,.int .i64 0] []),oX (sT 2 4 15)]
def Tryz.l_treepatch_Second : LCode := (.seq (.reg q55_0) (.seq (.seq (.reg q55_1) (.seq (.reg q55_2) (.cond (.t 10) (.seq (.reg q55_3) .ret) .skip))) (.seq (.reg q55_4) .ret)))
theorem Tryz.c_treepatch_Second : fnComp Tryz.prog 55 = some (16, Tryz.l_treepatch_Second,[.cell 4 2 true]) := by kernel_rfl
def q59_0 : LReg := rG [oO 4 (.alloc 31 2 [.int .i64 0,.int .i64 0])]
def q59_1 : LReg := rG [oM 6 0,oO 7 (bK .gtr 6 24)]
def q59_2 : LReg := rG [oO 8 (.build [.int .i64 0,.int .i64 0] [(0,1,(kI 2)),(1,1,(kI (-1)))]),oX (sT 2 4 8)]
def q59_3 : LReg := rG [oM 9 0,oO 10 (mK (kI 0))]
def q59_4 : LReg := rG [oO 11 (bT .lss 10 9)]
def q59_5 : LReg := rG [oM 12 10,oM 5 12]
def q59_6 : LReg := rG [oM 13 1,oM 14 5,oO 15 (.callv (.t 13) [(.t 14)]),oO 16 (cA 115 [15]),oO 17 (.un .not (.t 16))]
def q59_7 : LReg := rG [oM 18 5,oO 19 (.build [.int .i64 0,.int .i64 0] [(0,1,(kI 12)),(1,1,(.t 18))]),oX (sT 2 4 19)]
def q59_8 : LReg := rG [oM 20 5,oO 21 (bK .gtr 20 0),oM 22 21,oT 23 22 (.mv (.t 1)),oT 24 22 (.mv (.t 5)),oT 25 22 (.callv (.t 23) [(.t 24)]),oT 26 22 (.mv (.t 1)),oT 27 22 (.mv (.t 5)),oT 28 22 (bK .sub 27 1),oT 29 22 (.callv (.t 26) [(.t 28)]),oT 30 22 (bT .leq 25 29),oO 31 (pK 22 30 (kB false))]
def q59_9 : LReg := rG [oM 32 5,oO 33 (.build [.int .i64 0,.int .i64 0] [(0,1,(kI 5)),(1,1,(.t 32))]),oX (sT 2 4 33)]
def q59_10 : LReg := rG [oO 34 (bK .add 10 1),oM 10 34]
def q59_11 : LReg := rG [oO 35 (.build [.int .i64 0,.int .i64 0] []),oX (sT 2 4 35)]
def Tryz.l_bom_checkPaths : LCode := (.seq (.reg q59_0) (.seq (.seq (.reg q59_1) (.cond (.t 7) (.seq (.reg q59_2) .ret) .skip)) (.seq (.seq (.reg q59_3) (.block 0 (.loop (.seq (.reg q59_4) (.seq (.cond (.t 11) .skip (.exit 0)) (.seq (.block 1 (.seq (.reg q59_5) (.seq (.seq (.reg q59_6) (.cond (.t 17) (.seq (.reg q59_7) .ret) .skip)) (.seq (.reg q59_8) (.cond (.t 31) (.seq (.reg q59_9) .ret) .skip))))) (.reg q59_10))))))) (.seq (.reg q59_11) .ret))))
theorem Tryz.c_bom_checkPaths : fnComp Tryz.prog 59 = some (36, Tryz.l_bom_checkPaths,[.cell 4 2 true]) := by kernel_rfl
theorem Tryz.b_bom_Make_1 : bodied Tryz.prog 60 = true := by kernel_rfl
def q60_0 : LReg := rG [oO 3 (mK (.c (.str [])))]
def q60_1 : LReg := rG [oO 4 (lV 1 1),oM 5 0,oO 6 (iX 1 4 5),oO 7 (lV 1 6),oM 3 7]
def Tryz.l_bom_Make_1 : LCode := (.seq (.reg q60_0) (.seq (.reg q60_1) .ret))
theorem Tryz.c_bom_Make_1 : fnComp Tryz.prog 60 = some (8, Tryz.l_bom_Make_1,[.t 3]) := by kernel_rfl
def q153_0 : LReg := rG [oO 4 (mK (kI 0))]
def q153_1 : LReg := rG [oO 5 (mK (kI 0))]
def q153_2 : LReg := rG [oM 6 1,oO 7 (bK .gtr 6 0)]
def q153_3 : LReg := rG [oM 10 1,oO 11 (bK .and 10 1),oO 12 (bK .eql 11 1)]
def q153_4 : LReg := rG [oM 13 5,oM 14 0,oO 15 (bT .add 13 14),oO 16 (bK .rem 15 2305843009213693951),oM 5 16]
def q153_5 : LReg := rG [oM 17 0,oO 18 (.bin .mul (kI 2) (.t 17)),oO 19 (bK .rem 18 2305843009213693951),oM 0 19]
def q153_6 : LReg := rG [oM 8 1,oO 9 (.bin .shr (.t 8) (.c (.int .u64 1))),oM 1 9]
def q153_7 : LReg := rG [oM 20 5,oM 4 20]
def Tryz.l_digest_mul : LCode := (.seq (.reg q153_0) (.seq (.reg q153_1) (.seq (.block 0 (.loop (.seq (.seq (.reg q153_2) (.cond (.t 7) .skip (.exit 0))) (.seq (.block 1 (.seq (.seq (.reg q153_3) (.cond (.t 12) (.reg q153_4) .skip)) (.reg q153_5))) (.reg q153_6))))) (.seq (.reg q153_7) .ret))))
theorem Tryz.c_digest_mul : fnComp Tryz.prog 153 = some (21, Tryz.l_digest_mul,[.t 4]) := by kernel_rfl
def q117_0 : LReg := rG [oO 2 (.box 149 2 (.t 0)),oO 4 (mK (kI 0))]
def q117_1 : LReg := ⟨[oO 5 (.idxA 2 1 (.t 2) (kI 0)),oO 6 (lV 1 5),oM 7 1,oO 8 (cA 153 [6,7]),oO 9 (.idxA 2 1 (.t 2) (kI 1)),oO 10 (lV 1 9),oO 11 (bT .add 8 10),oO 12 (bK .rem 11 2305843009213693951),oM 4 12],true,[(0,4),(1,4),(3,4),(0,5),(1,5),(3,5)]⟩
def Tryz.l_digest_next : LCode := (.seq (.reg q117_0) (.seq (.reg q117_1) .ret))
theorem Tryz.c_digest_next : fnComp Tryz.prog 117 = some (13, Tryz.l_digest_next,[.t 4]) := by kernel_rfl
def q65_0 : LReg := rG [oO 2 (mK (kI 0)),oO 3 (.alloc 31 2 [.int .i64 0,.int .i64 0])]
def q65_1 : LReg := rG [oM 7 0,oO 8 (lN 7),oO 9 (bK .gtr 8 4096)]
def q65_2 : LReg := rG [oO 10 (.build [.int .i64 0,.int .i64 0] [(0,1,(kI 2))]),oO 2 (mK (kI 0)),oX (sT 2 3 10)]
def q65_3 : LReg := rG [oO 4 (mK (kI 1))]
def q65_4 : LReg := rG [oM 11 0,oO 12 (lN 11),oO 13 (mK (kI 0))]
def q65_5 : LReg := rG [oO 14 (bT .lss 13 12)]
def q65_6 : LReg := rG [oO 15 (iX 1 11 13),oO 16 (lV 1 15),oM 6 16]
def q65_7 : LReg := rG [oM 17 4,oM 18 6,oO 19 (.conv .i64 (.t 18)),oO 20 (bK .add 19 1),oO 21 (.build [.int .i64 0,.int .i64 0] [(0,1,(.t 17)),(1,1,(.t 20))]),oO 22 (.call 117 [(.t 21),(kI 257)]),oM 4 22]
def q65_8 : LReg := rG [oO 23 (bK .add 13 1),oM 13 23]
def q65_9 : LReg := rG [oM 24 4,oO 25 (.build [.int .i64 0,.int .i64 0] []),oM 2 24,oX (sT 2 3 25)]
def Tryz.l_digest_Of : LCode := (.seq (.reg q65_0) (.seq (.seq (.reg q65_1) (.cond (.t 9) (.seq (.reg q65_2) .ret) .skip)) (.seq (.reg q65_3) (.seq (.seq (.reg q65_4) (.block 0 (.loop (.seq (.reg q65_5) (.seq (.cond (.t 14) .skip (.exit 0)) (.seq (.block 1 (.seq (.reg q65_6) (.reg q65_7))) (.reg q65_8))))))) (.seq (.reg q65_9) .ret)))))
theorem Tryz.c_digest_Of : fnComp Tryz.prog 65 = some (26, Tryz.l_digest_Of,[.t 2,.cell 3 2 true]) := by kernel_rfl
def q75_0 : LReg := rG [oO 4 (mK (kI 0))]
def q75_1 : LReg := rG [oM 5 0,oM 6 1,oO 7 (.build [.int .i64 0,.int .i64 0] [(0,1,(.t 6)),(1,1,(kI 7))]),oO 8 (.call 117 [(.t 7),(kI 31)]),oO 9 (.build [.int .i64 0,.int .i64 0] [(0,1,(.t 5)),(1,1,(.t 8))]),oO 10 (.call 117 [(.t 9),(kI 1000003)]),oM 4 10]
def Tryz.l_digest_pair : LCode := (.seq (.reg q75_0) (.seq (.reg q75_1) .ret))
theorem Tryz.c_digest_pair : fnComp Tryz.prog 75 = some (11, Tryz.l_digest_pair,[.t 4]) := by kernel_rfl
def q26_0 : LReg := rG [oO 2 (mK (kI 0)),oO 3 (.alloc 31 2 [.int .i64 0,.int .i64 0])]
def q26_1 : LReg := rG [oM 9 0,oO 10 (lN 9),oO 11 (bK .gtr 10 120)]
def q26_2 : LReg := rG [oO 12 (.build [.int .i64 0,.int .i64 0] [(0,1,(kI 2)),(1,1,(kI (-1)))]),oO 2 (mK (kI 0)),oX (sT 2 3 12)]
def q26_3 : LReg := rG [oO 4 (mK (kI 2))]
def q26_4 : LReg := rG [oM 13 0,oO 14 (lN 13),oO 15 (mK (kI 0))]
def q26_5 : LReg := rG [oO 16 (bT .lss 15 14)]
def q26_6 : LReg := rG [oM 17 15,oO 18 (iX 1 13 15),oO 19 (lV 1 18),oM 5 17,oM 6 19]
def q26_7 : LReg := rG [oM 21 6,oO 22 (.toBytes 5 (.t 21)),oO 23 (cA 65 [22]),oM 20 23,oO 24 (eX 0 20),oO 25 (eX 1 20),oO 8 (.alloc 31 2 [.int .i64 0,.int .i64 0]),oM 7 24,oX (sT 2 8 25)]
def q26_8 : LReg := rG [oO 26 (lA 2 8),oO 27 (.build [.int .i64 0,.int .i64 0] []),oO 28 (.eqs true [0,0] (.t 26) (.t 27))]
def q26_9 : LReg := ⟨[oO 29 (fA 0 8),oO 30 (lV 1 29),oM 31 5,oO 32 (.build [.int .i64 0,.int .i64 0] [(0,1,(.t 30)),(1,1,(.t 31))]),oO 2 (mK (kI 0)),oX (sT 2 3 32)],true,[]⟩
def q26_10 : LReg := rG [oM 33 4,oM 34 7,oO 35 (cA 75 [33,34]),oM 4 35]
def q26_11 : LReg := rG [oO 36 (bK .add 15 1),oM 15 36]
def q26_12 : LReg := rG [oM 37 4,oO 38 (.build [.int .i64 0,.int .i64 0] []),oM 2 37,oX (sT 2 3 38)]
def Tryz.l_digest_Strings : LCode := (.seq (.reg q26_0) (.seq (.seq (.reg q26_1) (.cond (.t 11) (.seq (.reg q26_2) .ret) .skip)) (.seq (.reg q26_3) (.seq (.seq (.reg q26_4) (.block 0 (.loop (.seq (.reg q26_5) (.seq (.cond (.t 16) .skip (.exit 0)) (.seq (.block 1 (.seq (.reg q26_6) (.seq (.reg q26_7) (.seq (.seq (.reg q26_8) (.cond (.t 28) (.seq (.reg q26_9) .ret) .skip)) (.reg q26_10))))) (.reg q26_11))))))) (.seq (.reg q26_12) .ret)))))
theorem Tryz.c_digest_Strings : fnComp Tryz.prog 26 = some (39, Tryz.l_digest_Strings,[.t 2,.cell 3 2 true]) := by kernel_rfl
def q118_0 : LReg := rG [oO 6 (mK (kI 0)),oO 7 (mK (kB false))]
def q118_1 : LReg := rG [oM 12 0,oO 13 (lN 12),oM 8 13]
def q118_2 : LReg := rG [oM 14 8,oO 9 (mK (kI 0)),oM 10 14]
def q118_3 : LReg := rG [oM 15 9,oM 16 10,oO 17 (bT .lss 15 16)]
def q118_4 : LReg := rG [oM 18 9,oM 19 10,oO 20 (bT .add 18 19),oO 21 (.conv .u64 (.t 20)),oO 22 (.bin .shr (.t 21) (.c (.int .u64 1))),oO 23 (.conv .i64 (.t 22)),oM 11 23]
def q118_5 : LReg := rG [oM 24 2,oM 25 0,oM 26 11,oO 27 (iX 2 25 26),oO 28 (lA 2 27),oM 29 1,oO 30 (.callv (.t 24) [(.t 28),(.t 29)]),oO 31 (bK .lss 30 0)]
def q118_6 : LReg := rG [oM 32 11,oO 33 (bK .add 32 1),oM 9 33]
def q118_7 : LReg := rG [oM 34 11,oM 10 34]
def q118_8 : LReg := rG [oM 35 9,oM 36 9,oM 37 8,oO 38 (bT .lss 36 37),oM 39 38,oT 40 39 (.mv (.t 2)),oT 41 39 (.mv (.t 0)),oT 42 39 (.mv (.t 9)),oT 43 39 (iX 2 41 42),oT 44 39 (lA 2 43),oT 45 39 (.mv (.t 1)),oT 46 39 (.callv (.t 40) [(.t 44),(.t 45)]),oT 47 39 (bK .eql 46 0),oO 48 (pK 39 47 (kB false)),oM 6 35,oM 7 48]
def Tryz.l_slices_BinarySearchFunc_api_File_api_File_string : LCode := (.seq (.reg q118_0) (.seq (.reg q118_1) (.seq (.reg q118_2) (.seq (.block 0 (.loop (.seq (.seq (.reg q118_3) (.cond (.t 17) .skip (.exit 0))) (.block 1 (.seq (.reg q118_4) (.seq (.reg q118_5) (.cond (.t 31) (.reg q118_6) (.reg q118_7)))))))) (.seq (.reg q118_8) .ret)))))
theorem Tryz.c_slices_BinarySearchFunc_api_File_api_File_string : fnComp Tryz.prog 118 = some (49, Tryz.l_slices_BinarySearchFunc_api_File_api_File_string,[.t 6,.t 7]) := by kernel_rfl
theorem Tryz.b_treepatch_Find_1 : bodied Tryz.prog 119 = true := by kernel_rfl
def q119_0 : LReg := rG [oO 2 (.box 37 2 (.t 0)),oO 4 (mK (kI 0))]
def q119_1 : LReg := rG [oO 5 (fA 0 2),oO 6 (lV 1 5),oM 7 1,oO 8 (cA 120 [6,7]),oM 4 8]
def Tryz.l_treepatch_Find_1 : LCode := (.seq (.reg q119_0) (.seq (.reg q119_1) .ret))
theorem Tryz.c_treepatch_Find_1 : fnComp Tryz.prog 119 = some (9, Tryz.l_treepatch_Find_1,[.t 4]) := by kernel_rfl
def q66_0 : LReg := rG [oO 4 (mK (kI 0)),oO 5 (mK (kB false))]
def q66_1 : LReg := rG [oM 6 0,oM 7 1,oO 8 (.call 118 [(.t 6),(.t 7),(.c (.fn 119 [] []))]),oO 9 (eX 0 8),oO 10 (eX 1 8),oM 4 9,oM 5 10]
def Tryz.l_treepatch_Find : LCode := (.seq (.reg q66_0) (.seq (.reg q66_1) .ret))
theorem Tryz.c_treepatch_Find : fnComp Tryz.prog 66 = some (11, Tryz.l_treepatch_Find,[.t 4,.t 5]) := by kernel_rfl
def q61_0 : LReg := rG [oO 2 (.box 25 1 (.t 0)),oO 4 (mK (kI 0))]
def q61_1 : LReg := rG [oO 10 (fA 0 2),oO 11 (lV 1 10),oM 12 1,oO 13 (cA 66 [11,12]),oM 9 13,oO 14 (eX 0 9),oO 15 (eX 1 9),oM 5 14,oM 6 15]
def q61_2 : LReg := rG [oM 16 6,oO 17 (.un .not (.t 16))]
def q61_3 : LReg := rG [oO 4 (mK (kI (-1)))]
def q61_4 : LReg := rG [oO 19 (fA 0 2),oO 20 (lV 1 19),oM 21 5,oO 22 (iX 2 20 21),oO 23 (fA 1 22),oO 24 (lV 1 23),oO 25 (cA 26 [24]),oM 18 25,oO 26 (eX 0 18),oO 27 (eX 1 18),oO 8 (.alloc 31 2 [.int .i64 0,.int .i64 0]),oM 7 26,oX (sT 2 8 27)]
def q61_5 : LReg := rG [oM 28 7,oM 4 28]
def Tryz.l_bom_describe : LCode := (.seq (.reg q61_0) (.seq (.reg q61_1) (.seq (.seq (.reg q61_2) (.cond (.t 17) (.seq (.reg q61_3) .ret) .skip)) (.seq (.reg q61_4) (.seq (.reg q61_5) .ret)))))
theorem Tryz.c_bom_describe : fnComp Tryz.prog 61 = some (29, Tryz.l_bom_describe,[.t 4]) := by kernel_rfl
def q16_0 : LReg := rG [oO 2 (.box 34 1 (.t 0)),oO 3 (.box 25 1 (.t 1)),oO 4 (mK (.c (.nils))),oO 5 (.alloc 31 2 [.int .i64 0,.int .i64 0])]
def q16_1 : LReg := rG [oO 11 (lV 1 2),oO 12 (lN 11),oO 13 (.mkfn 60 [] [(.t 2)]),oO 14 (cA 59 [12,13]),oO 6 (.alloc 31 2 [.int .i64 0,.int .i64 0]),oX (sT 2 6 14)]
def q16_2 : LReg := rG [oO 15 (lA 2 6),oO 16 (.build [.int .i64 0,.int .i64 0] []),oO 17 (.eqs true [0,0] (.t 15) (.t 16))]
def q16_3 : LReg := ⟨[oO 18 (lA 2 6),oO 4 (mK (.c (.nils))),oX (sT 2 5 18)],true,[]⟩
def q16_4 : LReg := rG [oO 19 (lA 1 3),oO 20 (.call 55 [(.t 19),(kI (-2))]),oO 7 (.alloc 31 2 [.int .i64 0,.int .i64 0]),oX (sT 2 7 20)]
def q16_5 : LReg := rG [oO 21 (lA 2 7),oO 22 (.build [.int .i64 0,.int .i64 0] []),oO 23 (.eqs true [0,0] (.t 21) (.t 22))]
def q16_6 : LReg := ⟨[oO 24 (lA 2 7),oO 4 (mK (.c (.nils))),oX (sT 2 5 24)],true,[]⟩
def q16_7 : LReg := rG [oO 8 (mK (.c (.nils)))]
def q16_8 : LReg := rG [oO 25 (lV 1 2),oO 26 (lN 25),oO 27 (mK (kI 0))]
def q16_9 : LReg := rG [oO 28 (bT .lss 27 26)]
def q16_10 : LReg := rG [oO 29 (iX 1 25 27),oO 30 (lV 1 29),oM 10 30]
def q16_11 : LReg := rG [oM 31 8,oM 32 10,oO 33 (lA 1 3),oM 34 10,oO 35 (cA 61 [33,34]),oO 36 (.build [.str [],.int .i64 0] [(0,1,(.t 32)),(1,1,(.t 35))]),oO 37 (.mkSlice 46 2 1 [.str [],.int .i64 0] [(0,(.t 36))]),oO 38 (.append 46 2 24 (.t 31) (.t 37)),oM 8 38]
def q16_12 : LReg := rG [oO 39 (bK .add 27 1),oM 27 39]
def q16_13 : LReg := rG [oM 40 8,oO 41 (.build [.int .i64 0,.int .i64 0] []),oM 4 40,oX (sT 2 5 41)]
def Tryz.l_bom_Make : LCode := (.seq (.reg q16_0) (.seq (.seq (.reg q16_1) (.seq (.reg q16_2) (.cond (.t 17) (.seq (.reg q16_3) .ret) .skip))) (.seq (.seq (.reg q16_4) (.seq (.reg q16_5) (.cond (.t 23) (.seq (.reg q16_6) .ret) .skip))) (.seq (.reg q16_7) (.seq (.seq (.reg q16_8) (.block 0 (.loop (.seq (.reg q16_9) (.seq (.cond (.t 28) .skip (.exit 0)) (.seq (.block 1 (.seq (.reg q16_10) (.reg q16_11))) (.reg q16_12))))))) (.seq (.reg q16_13) .ret))))))
theorem Tryz.c_bom_Make : fnComp Tryz.prog 16 = some (42, Tryz.l_bom_Make,[.t 4,.cell 5 2 true]) := by kernel_rfl
def q145_0 : LReg := rG [oO 1 (.box 109 2 (.t 0)),oO 2 (mK (kI 0))]
def q145_1 : LReg := rG [oO 3 (fA 0 1),oO 4 (lV 1 3)]
def q145_2 : LReg := rG [oO 6 (bK .eql 4 1),oM 5 6]
def q145_3 : LReg := rG [oO 7 (bK .eql 4 2),oM 5 7]
def q145_4 : LReg := rG [oO 8 (fA 1 1),oO 9 (lV 1 8),oO 10 (cA 115 [9]),oO 11 (.un .not (.t 10))]
def q145_5 : LReg := rG [oO 2 (mK (kI 12))]
def q145_6 : LReg := rG [oO 13 (bK .eql 4 3),oM 12 13]
def q145_7 : LReg := rG [oO 14 (fA 1 1),oO 15 (lV 1 14),oO 16 (.mkSlice 9 1 1 [.str []] [(0,(.t 15))]),oO 17 (cA 156 [16]),oO 18 (.field 0 1 false (.t 17)),oM 2 18]
def q145_8 : LReg := rG [oO 20 (bK .eql 4 4),oM 19 20]
def q145_9 : LReg := rG [oO 21 (bK .eql 4 5),oM 19 21]
def q145_10 : LReg := rG [oO 22 (fA 1 1),oO 23 (lV 1 22),oO 24 (.bin .neq (.t 23) (.c (.str [])))]
def q145_11 : LReg := rG [oO 2 (mK (kI 5))]
def q145_12 : LReg := rG [oO 2 (mK (kI 4))]
def q145_13 : LReg := rG [oO 2 (mK (kI 0))]
def Tryz.l_sandbox_checkOp : LCode := (.seq (.reg q145_0) (.seq (.seq (.reg q145_1) (.block 0 (.seq (.seq (.reg q145_2) (.cond (.t 5) .skip (.reg q145_3))) (.cond (.t 5) (.seq (.reg q145_4) (.cond (.t 11) (.seq (.reg q145_5) .ret) .skip)) (.seq (.reg q145_6) (.cond (.t 12) (.seq (.reg q145_7) .ret) (.seq (.seq (.reg q145_8) (.cond (.t 19) .skip (.reg q145_9))) (.cond (.t 19) (.seq (.reg q145_10) (.cond (.t 24) (.seq (.reg q145_11) .ret) .skip)) (.seq (.reg q145_12) .ret))))))))) (.seq (.reg q145_13) .ret)))
theorem Tryz.c_sandbox_checkOp : fnComp Tryz.prog 145 = some (25, Tryz.l_sandbox_checkOp,[.t 2]) := by kernel_rfl
def q107_0 : LReg := rG [oO 1 (.box 53 3 (.t 0)),oO 2 (.alloc 31 2 [.int .i64 0,.int .i64 0])]
def q107_1 : LReg := rG [oO 8 (fA 0 1),oO 9 (lV 1 8),oO 10 (lN 9),oO 11 (bK .gtr 10 8),oM 12 11,oF 13 12 (fA 1 1),oF 14 12 (lV 1 13),oF 15 12 (lN 14),oF 16 12 (bK .gtr 15 16),oO 17 (pL 12 (kB true) 16)]
def q107_2 : LReg := rG [oO 18 (.build [.int .i64 0,.int .i64 0] [(0,1,(kI 2)),(1,1,(kI (-1)))]),oX (sT 2 2 18)]
def q107_3 : LReg := rG [oO 19 (fA 0 1),oO 20 (lV 1 19),oO 21 (lN 20),oO 22 (mK (kI 0))]
def q107_4 : LReg := rG [oO 23 (bT .lss 22 21)]
def q107_5 : LReg := rG [oM 24 22,oO 25 (iX 1 20 22),oO 26 (lV 1 25),oM 3 24,oM 4 26]
def q107_6 : LReg := rG [oM 27 4,oO 28 (cA 115 [27]),oO 29 (.un .not (.t 28))]
def q107_7 : LReg := rG [oM 30 3,oO 31 (.build [.int .i64 0,.int .i64 0] [(0,1,(kI 12)),(1,1,(.t 30))]),oX (sT 2 2 31)]
def q107_8 : LReg := rG [oM 32 3,oO 33 (bK .gtr 32 0),oM 34 33,oT 35 34 (.mv (.t 4)),oT 36 34 (fA 0 1),oT 37 34 (lV 1 36),oT 38 34 (.mv (.t 3)),oT 39 34 (bK .sub 38 1),oT 40 34 (iX 1 37 39),oT 41 34 (lV 1 40),oT 42 34 (bT .leq 35 41),oO 43 (pK 34 42 (kB false))]
def q107_9 : LReg := rG [oM 44 3,oO 45 (.build [.int .i64 0,.int .i64 0] [(0,1,(kI 5)),(1,1,(.t 44))]),oX (sT 2 2 45)]
def q107_10 : LReg := rG [oO 46 (bK .add 22 1),oM 22 46]
def q107_11 : LReg := rG [oO 47 (fA 2 1),oO 48 (lV 1 47),oO 49 (cA 115 [48]),oO 50 (.un .not (.t 49))]
def q107_12 : LReg := rG [oO 51 (.build [.int .i64 0,.int .i64 0] [(0,1,(kI 12)),(1,1,(kI (-2)))]),oX (sT 2 2 51)]
def q107_13 : LReg := rG [oO 52 (fA 1 1),oO 53 (lV 1 52),oO 54 (lN 53),oO 55 (mK (kI 0))]
def q107_14 : LReg := rG [oO 56 (bT .lss 55 54)]
def q107_15 : LReg := rG [oM 57 55,oO 58 (iX 2 53 55),oO 59 (lA 2 58),oO 6 (.alloc 109 2 [.int .i64 0,.str []]),oM 5 57,oX (sT 2 6 59)]
def q107_16 : LReg := rG [oO 60 (lA 2 6),oO 61 (cA 145 [60]),oM 7 61]
def q107_17 : LReg := rG [oM 62 7,oO 63 (bK .neq 62 0)]
def q107_18 : LReg := rG [oM 64 7,oM 65 5,oO 66 (.bin .sub (kI (-3)) (.t 65)),oO 67 (.build [.int .i64 0,.int .i64 0] [(0,1,(.t 64)),(1,1,(.t 66))]),oX (sT 2 2 67)]
def q107_19 : LReg := rG [oO 68 (bK .add 55 1),oM 55 68]
def q107_20 : LReg := rG [oO 69 (.build [.int .i64 0,.int .i64 0] []),oX (sT 2 2 69)]
def Tryz.l_sandbox_Validate : LCode := (.seq (.reg q107_0) (.seq (.seq (.reg q107_1) (.cond (.t 17) (.seq (.reg q107_2) .ret) .skip)) (.seq (.seq (.reg q107_3) (.block 0 (.loop (.seq (.reg q107_4) (.seq (.cond (.t 23) .skip (.exit 0)) (.seq (.block 1 (.seq (.reg q107_5) (.seq (.seq (.reg q107_6) (.cond (.t 29) (.seq (.reg q107_7) .ret) .skip)) (.seq (.reg q107_8) (.cond (.t 43) (.seq (.reg q107_9) .ret) .skip))))) (.reg q107_10))))))) (.seq (.seq (.reg q107_11) (.cond (.t 50) (.seq (.reg q107_12) .ret) .skip)) (.seq (.seq (.reg q107_13) (.block 2 (.loop (.seq (.reg q107_14) (.seq (.cond (.t 56) .skip (.exit 2)) (.seq (.block 3 (.seq (.reg q107_15) (.seq (.reg q107_16) (.seq (.reg q107_17) (.cond (.t 63) (.seq (.reg q107_18) .ret) .skip))))) (.reg q107_19))))))) (.seq (.reg q107_20) .ret))))))
theorem Tryz.c_sandbox_Validate : fnComp Tryz.prog 107 = some (70, Tryz.l_sandbox_Validate,[.cell 2 2 true]) := by kernel_rfl
def q54_0 : LReg := rG [oO 2 (.alloc 31 2 [.int .i64 0,.int .i64 0])]
def q54_1 : LReg := rG [oM 6 0,oO 7 (lN 6),oO 8 (bK .gtr 7 8)]
def q54_2 : LReg := rG [oO 9 (.build [.int .i64 0,.int .i64 0] [(0,1,(kI 2)),(1,1,(kI (-1)))]),oX (sT 2 2 9)]
def q54_3 : LReg := rG [oM 10 0,oO 11 (lN 10),oO 12 (mK (kI 0))]
def q54_4 : LReg := rG [oO 13 (bT .lss 12 11)]
def q54_5 : LReg := rG [oM 14 12,oO 15 (iX 3 10 12),oO 16 (lA 3 15),oO 4 (.alloc 53 3 [.nils,.nils,.str []]),oM 3 14,oX (sT 3 4 16)]
def q54_6 : LReg := rG [oO 17 (lA 3 4),oO 18 (cA 107 [17]),oO 5 (.alloc 31 2 [.int .i64 0,.int .i64 0]),oX (sT 2 5 18)]
def q54_7 : LReg := rG [oO 19 (lA 2 5),oO 20 (.build [.int .i64 0,.int .i64 0] []),oO 21 (.eqs true [0,0] (.t 19) (.t 20))]
def q54_8 : LReg := rG [oO 22 (fA 0 5),oO 23 (lV 1 22),oM 24 3,oO 25 (.build [.int .i64 0,.int .i64 0] [(0,1,(.t 23)),(1,1,(.t 24))]),oX (sT 2 2 25)]
def q54_9 : LReg := rG [oO 26 (bK .add 12 1),oM 12 26]
def q54_10 : LReg := rG [oO 27 (.build [.int .i64 0,.int .i64 0] []),oX (sT 2 2 27)]
def Tryz.l_release_checkActions : LCode := (.seq (.reg q54_0) (.seq (.seq (.reg q54_1) (.cond (.t 8) (.seq (.reg q54_2) .ret) .skip)) (.seq (.seq (.reg q54_3) (.block 0 (.loop (.seq (.reg q54_4) (.seq (.cond (.t 13) .skip (.exit 0)) (.seq (.block 1 (.seq (.reg q54_5) (.seq (.reg q54_6) (.seq (.reg q54_7) (.cond (.t 21) (.seq (.reg q54_8) .ret) .skip))))) (.reg q54_9))))))) (.seq (.reg q54_10) .ret))))
theorem Tryz.c_release_checkActions : fnComp Tryz.prog 54 = some (28, Tryz.l_release_checkActions,[.cell 2 2 true]) := by kernel_rfl
def q146_0 : LReg := rG [oO 4 (mK (kI 0))]
def q146_1 : LReg := rG [oM 6 0,oO 7 (lN 6),oO 8 (mK (kI 0))]
def q146_2 : LReg := rG [oO 9 (bT .lss 8 7)]
def q146_3 : LReg := rG [oM 10 8,oM 5 10]
def q146_4 : LReg := rG [oM 11 1,oM 12 0,oM 13 5,oO 14 (iX 1 12 13),oO 15 (lV 1 14),oO 16 (bT .eql 11 15)]
def q146_5 : LReg := rG [oM 17 5,oM 4 17]
def q146_6 : LReg := rG [oO 18 (bK .add 8 1),oM 8 18]
def q146_7 : LReg := rG [oO 4 (mK (kI (-1)))]
def Tryz.l_slices_Index_string : LCode := (.seq (.reg q146_0) (.seq (.seq (.reg q146_1) (.block 0 (.loop (.seq (.reg q146_2) (.seq (.cond (.t 9) .skip (.exit 0)) (.seq (.block 1 (.seq (.reg q146_3) (.seq (.reg q146_4) (.cond (.t 16) (.seq (.reg q146_5) .ret) .skip)))) (.reg q146_6))))))) (.seq (.reg q146_7) .ret)))
theorem Tryz.c_slices_Index_string : fnComp Tryz.prog 146 = some (19, Tryz.l_slices_Index_string,[.t 4]) := by kernel_rfl
def q109_0 : LReg := rG [oO 4 (mK (kB false))]
def q109_1 : LReg := rG [oM 5 0,oM 6 1,oO 7 (cA 146 [5,6]),oO 8 (bK .geq 7 0),oM 4 8]
def Tryz.l_slices_Contains_string : LCode := (.seq (.reg q109_0) (.seq (.reg q109_1) .ret))
theorem Tryz.c_slices_Contains_string : fnComp Tryz.prog 109 = some (9, Tryz.l_slices_Contains_string,[.t 4]) := by kernel_rfl
def q111_0 : LReg := rG [oO 2 (mK (.c (.nils)))]
def q111_1 : LReg := rG [oM 6 0,oO 7 (lN 6),oO 8 (bK .lss 7 2)]
def q111_2 : LReg := rG [oM 9 0,oM 2 9]
def q111_3 : LReg := rG [oO 3 (mK (kI 1))]
def q111_4 : LReg := rG [oM 10 3,oM 11 0,oO 12 (lN 11),oO 13 (bT .lss 10 12)]
def q111_5 : LReg := ⟨[oM 16 0,oM 17 3,oO 18 (iX 1 16 17),oO 19 (lV 1 18),oM 20 0,oM 21 3,oO 22 (bK .sub 21 1),oO 23 (iX 1 20 22),oO 24 (lV 1 23),oO 25 (bT .eql 19 24)],true,[(2,7),(3,7),(2,8),(3,8)]⟩
def q111_6 : LReg := rG [oM 26 0,oM 27 3,oO 28 (.slice 1 (.t 26) (some (.t 27)) none),oM 4 28]
def q111_7 : LReg := rG [oO 5 (mK (kI 1))]
def q111_8 : LReg := rG [oM 29 5,oM 30 4,oO 31 (lN 30),oO 32 (bT .lss 29 31)]
def q111_9 : LReg := ⟨[oM 35 4,oM 36 5,oO 37 (iX 1 35 36),oO 38 (lV 1 37),oM 39 4,oM 40 5,oO 41 (bK .sub 40 1),oO 42 (iX 1 39 41),oO 43 (lV 1 42),oO 44 (bT .neq 38 43)],true,[(2,7),(3,7),(2,8),(3,8)]⟩
def q111_10 : LReg := rG [oM 45 0,oM 46 3,oM 47 4,oM 48 5,oO 49 (iX 1 47 48),oO 50 (lV 1 49),oO 51 (iX 1 45 46),oX (sT 1 51 50)]
def q111_11 : LReg := rG [oM 52 3,oO 53 (bK .add 52 1),oM 3 53]
def q111_12 : LReg := rG [oM 33 5,oO 34 (bK .add 33 1),oM 5 34]
def q111_13 : LReg := rG [oM 54 0,oM 55 3,oO 56 (.slice 1 (.t 54) (some (.t 55)) none),oX (.clear 1 [.str []] (.t 56))]
def q111_14 : LReg := rG [oM 57 0,oM 58 3,oO 59 (.slice 1 (.t 57) none (some (.t 58))),oM 2 59]
def q111_15 : LReg := rG [oM 14 3,oO 15 (bK .add 14 1),oM 3 15]
def q111_16 : LReg := rG [oM 60 0,oM 2 60]
def Tryz.l_slices_Compact_string : LCode := (.seq (.reg q111_0) (.seq (.seq (.reg q111_1) (.cond (.t 8) (.seq (.reg q111_2) .ret) .skip)) (.seq (.seq (.reg q111_3) (.block 0 (.loop (.seq (.seq (.reg q111_4) (.cond (.t 13) .skip (.exit 0))) (.seq (.block 1 (.seq (.reg q111_5) (.cond (.t 25) (.seq (.reg q111_6) (.seq (.seq (.reg q111_7) (.block 2 (.loop (.seq (.seq (.reg q111_8) (.cond (.t 32) .skip (.exit 2))) (.seq (.block 3 (.seq (.reg q111_9) (.cond (.t 44) (.seq (.reg q111_10) (.reg q111_11)) .skip))) (.reg q111_12)))))) (.seq (.reg q111_13) (.seq (.reg q111_14) .ret)))) .skip))) (.reg q111_15)))))) (.seq (.reg q111_16) .ret))))
theorem Tryz.c_slices_Compact_string : fnComp Tryz.prog 111 = some (61, Tryz.l_slices_Compact_string,[.t 2]) := by kernel_rfl
def q56_0 : LReg := rG [oO 2 (mK (.c (.nils)))]
def q56_1 : LReg := rG [oO 3 (mK (.c (.nils))),oO 4 (mK (.c (.nils)))]
def q56_2 : LReg := rG [oM 9 0,oO 10 (lN 9),oO 11 (mK (kI 0))]
def q56_3 : LReg := rG [oO 12 (bT .lss 11 10)]
def q56_4 : LReg := rG [oO 13 (iX 3 9 11),oO 14 (lA 3 13),oO 6 (.alloc 53 3 [.nils,.nils,.str []]),oX (sT 3 6 14)]
def q56_5 : LReg := rG [oO 15 (fA 0 6),oO 16 (lV 1 15),oO 17 (lN 16),oO 18 (mK (kI 0))]
def q56_6 : LReg := rG [oO 19 (bT .lss 18 17)]
def q56_7 : LReg := rG [oO 20 (iX 1 16 18),oO 21 (lV 1 20),oM 8 21]
def q56_8 : LReg := rG [oM 22 4,oM 23 8,oO 24 (cA 109 [22,23]),oO 25 (.un .not (.t 24))]
def q56_9 : LReg := rG [oM 26 3,oM 27 8,oO 28 (.mkSlice 9 1 1 [.str []] [(0,(.t 27))]),oO 29 (.append 9 1 16 (.t 26) (.t 28)),oM 3 29]
def q56_10 : LReg := rG [oO 30 (bK .add 18 1),oM 18 30]
def q56_11 : LReg := rG [oM 31 4,oO 32 (fA 2 6),oO 33 (lV 1 32),oO 34 (.mkSlice 9 1 1 [.str []] [(0,(.t 33))]),oO 35 (.append 9 1 16 (.t 31) (.t 34)),oM 4 35]
def q56_12 : LReg := rG [oO 36 (bK .add 11 1),oM 11 36]
def q56_13 : LReg := rG [oM 37 3,oO 38 (cA 110 [37])]
def q56_14 : LReg := rG [oM 39 3,oO 40 (cA 111 [39]),oM 2 40]
def Tryz.l_release_sources : LCode := (.seq (.reg q56_0) (.seq (.reg q56_1) (.seq (.seq (.reg q56_2) (.block 0 (.loop (.seq (.reg q56_3) (.seq (.cond (.t 12) .skip (.exit 0)) (.seq (.block 1 (.seq (.reg q56_4) (.seq (.seq (.reg q56_5) (.block 2 (.loop (.seq (.reg q56_6) (.seq (.cond (.t 19) .skip (.exit 2)) (.seq (.block 3 (.seq (.reg q56_7) (.seq (.reg q56_8) (.cond (.t 25) (.reg q56_9) .skip)))) (.reg q56_10))))))) (.reg q56_11)))) (.reg q56_12))))))) (.seq (.reg q56_13) (.seq (.reg q56_14) .ret)))))
theorem Tryz.c_release_sources : fnComp Tryz.prog 56 = some (41, Tryz.l_release_sources,[.t 2]) := by kernel_rfl
def q63_0 : LReg := rG [oO 2 (.box 53 3 (.t 0)),oO 3 (.box 25 1 (.t 1)),oO 4 (.alloc 31 2 [.int .i64 0,.int .i64 0])]
def q63_1 : LReg := rG [oO 6 (lA 3 2),oO 7 (cA 107 [6]),oO 5 (.alloc 31 2 [.int .i64 0,.int .i64 0]),oX (sT 2 5 7)]
def q63_2 : LReg := rG [oO 8 (lA 2 5),oO 9 (.build [.int .i64 0,.int .i64 0] []),oO 10 (.eqs true [0,0] (.t 8) (.t 9))]
def q63_3 : LReg := rG [oO 11 (lA 2 5),oX (sT 2 4 11)]
def q63_4 : LReg := rG [oO 12 (lA 1 3),oO 13 (.call 55 [(.t 12),(kI (-20))]),oX (sT 2 4 13)]
def Tryz.l_sandbox_Arguments : LCode := (.seq (.reg q63_0) (.seq (.seq (.reg q63_1) (.seq (.reg q63_2) (.cond (.t 10) (.seq (.reg q63_3) .ret) .skip))) (.seq (.reg q63_4) .ret)))
theorem Tryz.c_sandbox_Arguments : fnComp Tryz.prog 63 = some (14, Tryz.l_sandbox_Arguments,[.cell 4 2 true]) := by kernel_rfl
theorem Tryz.b_sandbox_step_1 : bodied Tryz.prog 126 = true := by kernel_rfl
def q126_0 : LReg := rG [oO 3 (mK (.c (.nils))),oO 4 (mK (kI 0))]
def q126_1 : LReg := rG [oO 5 (lV 1 1),oO 6 (lN 5),oM 7 0,oO 8 (lN 7),oO 9 (bT .add 6 8),oO 10 (bK .gtr 9 120)]
def q126_2 : LReg := rG [oO 3 (mK (.c (.nils))),oO 4 (mK (kI 10))]
def q126_3 : LReg := rG [oO 11 (lV 1 1),oM 12 0,oO 13 (.append 9 1 16 (.t 11) (.t 12)),oM 3 13,oO 4 (mK (kI 0))]
def Tryz.l_sandbox_step_1 : LCode := (.seq (.reg q126_0) (.seq (.seq (.reg q126_1) (.cond (.t 10) (.seq (.reg q126_2) .ret) .skip)) (.seq (.reg q126_3) .ret)))
theorem Tryz.c_sandbox_step_1 : fnComp Tryz.prog 126 = some (14, Tryz.l_sandbox_step_1,[.t 3,.t 4]) := by kernel_rfl
def q127_0 : LReg := rG [oM 4 0,oO 5 (lN 4),oO 6 (bK .sub 5 1),oO 2 (mK (kI 0)),oM 3 6]
def q127_1 : LReg := rG [oM 7 2,oM 8 3,oO 9 (bT .lss 7 8)]
def q127_2 : LReg := ⟨[oM 14 0,oM 15 2,oM 16 0,oM 17 3,oM 18 0,oM 19 3,oO 20 (iX 1 18 19),oO 21 (lV 1 20),oM 22 0,oM 23 2,oO 24 (iX 1 22 23),oO 25 (lV 1 24),oO 26 (iX 1 14 15),oX (sT 1 26 21),oO 27 (iX 1 16 17),oX (sT 1 27 25)],true,[(6,10),(7,10),(6,11),(7,11)]⟩
def q127_3 : LReg := rG [oM 10 2,oO 11 (bK .add 10 1),oM 12 3,oO 13 (bK .sub 12 1),oM 2 11,oM 3 13]
def Tryz.l_slices_Reverse_string : LCode := (.seq (.reg q127_0) (.block 0 (.loop (.seq (.seq (.reg q127_1) (.cond (.t 9) .skip (.exit 0))) (.seq (.block 1 (.reg q127_2)) (.reg q127_3))))))
theorem Tryz.c_slices_Reverse_string : fnComp Tryz.prog 127 = some (28, Tryz.l_slices_Reverse_string,[]) := by kernel_rfl
def q128_0 : LReg := rG [oO 2 (mK (.c (.nils)))]
def q128_1 : LReg := rG [oO 3 (mK (.c (.nils)))]
def q128_2 : LReg := rG [oM 6 0,oO 7 (lN 6),oO 8 (mK (kI 0))]
def q128_3 : LReg := rG [oO 9 (bT .lss 8 7)]
def q128_4 : LReg := rG [oO 10 (iX 1 6 8),oO 11 (lV 1 10),oM 5 11]
def q128_5 : LReg := rG [oM 12 3,oM 13 5,oO 14 (cA 109 [12,13]),oO 15 (.un .not (.t 14))]
def q128_6 : LReg := rG [oM 16 3,oM 17 5,oO 18 (.mkSlice 9 1 1 [.str []] [(0,(.t 17))]),oO 19 (.append 9 1 16 (.t 16) (.t 18)),oM 3 19]
def q128_7 : LReg := rG [oO 20 (bK .add 8 1),oM 8 20]
def q128_8 : LReg := rG [oM 21 3,oM 2 21]
def Tryz.l_sandbox_unique : LCode := (.seq (.reg q128_0) (.seq (.reg q128_1) (.seq (.seq (.reg q128_2) (.block 0 (.loop (.seq (.reg q128_3) (.seq (.cond (.t 9) .skip (.exit 0)) (.seq (.block 1 (.seq (.reg q128_4) (.seq (.reg q128_5) (.cond (.t 15) (.reg q128_6) .skip)))) (.reg q128_7))))))) (.seq (.reg q128_8) .ret))))
theorem Tryz.c_sandbox_unique : fnComp Tryz.prog 128 = some (22, Tryz.l_sandbox_unique,[.t 2]) := by kernel_rfl
def q74_0 : LReg := rG [oO 4 (.box 53 3 (.t 0)),oO 5 (.box 109 2 (.t 1)),oO 6 (.box 25 1 (.t 2)),oO 7 (.box 34 1 (.t 3)),oO 8 (mK (.c (.nils))),oO 9 (mK (kI 0))]
def q74_1 : LReg := rG [oO 14 (fA 0 6),oO 15 (lV 1 14),oO 16 (fA 1 5),oO 17 (lV 1 16),oO 18 (cA 66 [15,17]),oM 13 18,oO 19 (eX 0 13),oO 20 (eX 1 13),oM 10 19,oM 11 20]
def q74_2 : LReg := rG [oO 21 (.mkfn 126 [] [(.t 7)]),oM 12 21]
def q74_3 : LReg := rG [oO 22 (fA 0 5),oO 23 (lV 1 22),oO 24 (bK .eql 23 1),oM 25 24,oF 26 25 (fA 0 5),oF 27 25 (lV 1 26),oF 28 25 (bK .eql 27 2),oO 29 (pL 25 (kB true) 28),oM 30 29,oT 31 30 (fA 0 4),oT 32 30 (lV 1 31),oT 33 30 (fA 1 5),oT 34 30 (lV 1 33),oT 35 30 (cA 109 [32,34]),oT 36 30 (.un .not (.t 35)),oO 37 (pK 30 36 (kB false))]
def q74_4 : LReg := rG [oO 8 (mK (.c (.nils))),oO 9 (mK (kI 13))]
def q74_5 : LReg := rG [oO 38 (fA 0 5),oO 39 (lV 1 38)]
def q74_6 : LReg := rG [oO 41 (bK .eql 39 1),oM 40 41]
def q74_7 : LReg := rG [oM 42 11,oO 43 (.un .not (.t 42))]
def q74_8 : LReg := rG [oO 8 (mK (.c (.nils))),oO 9 (mK (kI 6))]
def q74_9 : LReg := rG [oM 44 12,oO 45 (fA 0 6),oO 46 (lV 1 45),oM 47 10,oO 48 (iX 2 46 47),oO 49 (fA 1 48),oO 50 (lV 1 49),oO 51 (.callv (.t 44) [(.t 50)]),oO 52 (eX 0 51),oO 53 (eX 1 51),oM 8 52,oM 9 53]
def q74_10 : LReg := rG [oO 55 (bK .eql 39 2),oM 54 55]
def q74_11 : LReg := rG [oM 56 11]
def q74_12 : LReg := rG [oM 57 12,oO 58 (.mkSlice 9 1 1 [.str []] [(0,(.c (.str [121,101,115])))]),oO 59 (.callv (.t 57) [(.t 58)]),oO 60 (eX 0 59),oO 61 (eX 1 59),oM 8 60,oM 9 61]
def q74_13 : LReg := rG [oM 62 12,oO 63 (.mkSlice 9 1 1 [.str []] [(0,(.c (.str [110,111])))]),oO 64 (.callv (.t 62) [(.t 63)]),oO 65 (eX 0 64),oO 66 (eX 1 64),oM 8 65,oM 9 66]
def q74_14 : LReg := rG [oO 68 (bK .eql 39 3),oM 67 68]
def q74_15 : LReg := rG [oM 69 12,oO 70 (fA 1 5),oO 71 (lV 1 70),oO 72 (.mkSlice 9 1 1 [.str []] [(0,(.t 71))]),oO 73 (.callv (.t 69) [(.t 72)]),oO 74 (eX 0 73),oO 75 (eX 1 73),oM 8 74,oM 9 75]
def q74_16 : LReg := rG [oO 77 (bK .eql 39 4),oM 76 77]
def q74_17 : LReg := rG [oO 78 (lV 1 7),oO 79 (cA 127 [78])]
def q74_18 : LReg := rG [oO 80 (lV 1 7),oM 8 80,oO 9 (mK (kI 0))]
def q74_19 : LReg := rG [oO 81 (lV 1 7),oO 82 (cA 128 [81]),oM 8 82,oO 9 (mK (kI 0))]
def Tryz.l_sandbox_step : LCode := (.seq (.reg q74_0) (.seq (.reg q74_1) (.seq (.reg q74_2) (.seq (.seq (.reg q74_3) (.cond (.t 37) (.seq (.reg q74_4) .ret) .skip)) (.seq (.seq (.reg q74_5) (.block 0 (.seq (.reg q74_6) (.cond (.t 40) (.seq (.seq (.reg q74_7) (.cond (.t 43) (.seq (.reg q74_8) .ret) .skip)) (.seq (.reg q74_9) .ret)) (.seq (.reg q74_10) (.cond (.t 54) (.seq (.seq (.reg q74_11) (.cond (.t 56) (.seq (.reg q74_12) .ret) .skip)) (.seq (.reg q74_13) .ret)) (.seq (.reg q74_14) (.cond (.t 67) (.seq (.reg q74_15) .ret) (.seq (.reg q74_16) (.cond (.t 76) (.seq (.reg q74_17) (.seq (.reg q74_18) .ret)) .skip)))))))))) (.seq (.reg q74_19) .ret))))))
theorem Tryz.c_sandbox_step : fnComp Tryz.prog 74 = some (83, Tryz.l_sandbox_step,[.t 8,.t 9]) := by kernel_rfl
def q25_0 : LReg := rG [oO 2 (.box 53 3 (.t 0)),oO 3 (.box 25 1 (.t 1)),oO 4 (mK (.c (.nils))),oO 5 (.alloc 31 2 [.int .i64 0,.int .i64 0])]
def q25_1 : LReg := rG [oO 12 (lA 3 2),oO 13 (lA 1 3),oO 14 (cA 63 [12,13]),oO 6 (.alloc 31 2 [.int .i64 0,.int .i64 0]),oX (sT 2 6 14)]
def q25_2 : LReg := rG [oO 15 (lA 2 6),oO 16 (.build [.int .i64 0,.int .i64 0] []),oO 17 (.eqs true [0,0] (.t 15) (.t 16))]
def q25_3 : LReg := ⟨[oO 18 (lA 2 6),oO 4 (mK (.c (.nils))),oX (sT 2 5 18)],true,[]⟩
def q25_4 : LReg := rG [oO 7 (mK (.c (.nils)))]
def q25_5 : LReg := rG [oO 19 (fA 1 2),oO 20 (lV 1 19),oO 21 (lN 20),oO 22 (mK (kI 0))]
def q25_6 : LReg := rG [oO 23 (bT .lss 22 21)]
def q25_7 : LReg := rG [oM 24 22,oO 25 (iX 2 20 22),oO 26 (lA 2 25),oO 9 (.alloc 109 2 [.int .i64 0,.str []]),oM 8 24,oX (sT 2 9 26)]
def q25_8 : LReg := rG [oO 28 (lA 3 2),oO 29 (lA 2 9),oO 30 (lA 1 3),oM 31 7,oO 32 (cA 74 [28,29,30,31]),oM 27 32,oO 33 (eX 0 27),oO 34 (eX 1 27),oM 10 33,oM 11 34]
def q25_9 : LReg := rG [oM 35 11,oO 36 (bK .neq 35 0)]
def q25_10 : LReg := rG [oM 37 11,oM 38 8,oO 39 (.bin .sub (kI (-3)) (.t 38)),oO 40 (.build [.int .i64 0,.int .i64 0] [(0,1,(.t 37)),(1,1,(.t 39))]),oO 4 (mK (.c (.nils))),oX (sT 2 5 40)]
def q25_11 : LReg := rG [oM 41 10,oM 7 41]
def q25_12 : LReg := rG [oO 42 (bK .add 22 1),oM 22 42]
def q25_13 : LReg := rG [oM 43 7,oO 44 (.build [.int .i64 0,.int .i64 0] []),oM 4 43,oX (sT 2 5 44)]
def Tryz.l_sandbox_Run : LCode := (.seq (.reg q25_0) (.seq (.seq (.reg q25_1) (.seq (.reg q25_2) (.cond (.t 17) (.seq (.reg q25_3) .ret) .skip))) (.seq (.reg q25_4) (.seq (.seq (.reg q25_5) (.block 0 (.loop (.seq (.reg q25_6) (.seq (.cond (.t 23) .skip (.exit 0)) (.seq (.block 1 (.seq (.reg q25_7) (.seq (.reg q25_8) (.seq (.seq (.reg q25_9) (.cond (.t 36) (.seq (.reg q25_10) .ret) .skip)) (.reg q25_11))))) (.reg q25_12))))))) (.seq (.reg q25_13) .ret)))))
theorem Tryz.c_sandbox_Run : fnComp Tryz.prog 25 = some (45, Tryz.l_sandbox_Run,[.t 4,.cell 5 2 true]) := by kernel_rfl
def q71_0 : LReg := rG [oO 2 (mK (.c (.nils)))]
def q71_1 : LReg := rG [oM 3 0,oO 4 (.isnil false (.t 3))]
def q71_2 : LReg := rG [oO 2 (mK (.c (.nils)))]
def q71_3 : LReg := rG [oO 5 (.mkSlice 9 1 0 [.str []] []),oM 6 0,oO 7 (.append 9 1 16 (.t 5) (.t 6)),oM 2 7]
def Tryz.l_slices_Clone_string : LCode := (.seq (.reg q71_0) (.seq (.seq (.reg q71_1) (.cond (.t 4) (.seq (.reg q71_2) .ret) .skip)) (.seq (.reg q71_3) .ret)))
theorem Tryz.c_slices_Clone_string : fnComp Tryz.prog 71 = some (8, Tryz.l_slices_Clone_string,[.t 2]) := by kernel_rfl
def q97_0 : LReg := rG [oO 1 (.box 25 1 (.t 0)),oO 2 (.alloc 25 1 [.nils])]
def q97_1 : LReg := rG [oO 3 (.alloc 25 1 [.nils])]
def q97_2 : LReg := rG [oO 6 (fA 0 1),oO 7 (lV 1 6),oO 8 (lN 7),oO 9 (mK (kI 0))]
def q97_3 : LReg := rG [oO 10 (bT .lss 9 8)]
def q97_4 : LReg := rG [oO 11 (iX 2 7 9),oO 12 (lA 2 11),oO 5 (.alloc 37 2 [.str [],.nils]),oX (sT 2 5 12)]
def q97_5 : LReg := ⟨[oO 13 (fA 0 3),oO 14 (lV 1 13),oO 15 (fA 0 5),oO 16 (lV 1 15),oO 17 (fA 1 5),oO 18 (lV 1 17),oO 19 (cA 71 [18]),oO 20 (.build [.str [],.nils] [(0,1,(.t 16)),(1,1,(.t 19))]),oO 21 (.mkSlice 37 2 1 [.str [],.nils] [(0,(.t 20))]),oO 22 (.append 37 2 40 (.t 14) (.t 21)),oO 23 (fA 0 3),oX (sT 1 23 22)],true,[(0,2),(1,2),(0,3),(1,3),(0,4),(1,4),(2,4),(3,4),(0,5),(1,5),(2,5),(3,5),(0,6),(1,6),(2,6),(3,6),(0,8),(1,8)]⟩
def q97_6 : LReg := rG [oO 24 (bK .add 9 1),oM 9 24]
def q97_7 : LReg := rG [oO 25 (lA 1 3),oX (sT 1 2 25)]
def Tryz.l_treepatch_CopyTree : LCode := (.seq (.reg q97_0) (.seq (.reg q97_1) (.seq (.seq (.reg q97_2) (.block 0 (.loop (.seq (.reg q97_3) (.seq (.cond (.t 10) .skip (.exit 0)) (.seq (.block 1 (.seq (.reg q97_4) (.reg q97_5))) (.reg q97_6))))))) (.seq (.reg q97_7) .ret))))
theorem Tryz.c_treepatch_CopyTree : fnComp Tryz.prog 97 = some (26, Tryz.l_treepatch_CopyTree,[.cell 2 1 true]) := by kernel_rfl
def q113_0 : LReg := rG [oM 9 0,oO 10 (.nilCheck (.t 9)),oO 11 (fA 0 10),oO 12 (lV 1 11),oM 13 1,oO 14 (cA 66 [12,13]),oM 8 14,oO 15 (eX 0 8),oO 16 (eX 1 8),oM 6 15,oM 7 16]
def q113_1 : LReg := rG [oM 17 7,oO 18 (.un .not (.t 17))]
def q113_2 : LReg := rG [oM 19 0,oM 20 0,oO 21 (.nilCheck (.t 20)),oO 22 (fA 0 21),oO 23 (lV 1 22),oM 24 6,oM 25 1,oO 26 (.build [.str [],.nils] [(0,1,(.t 25))]),oO 27 (.mkSlice 37 2 1 [.str [],.nils] [(0,(.t 26))]),oO 28 (cA 150 [23,24,27]),oO 29 (.nilCheck (.t 19)),oO 30 (fA 0 29),oX (sT 1 30 28)]
def q113_3 : LReg := ⟨[oM 31 0,oO 32 (.nilCheck (.t 31)),oO 33 (fA 0 32),oO 34 (lV 1 33),oM 35 6,oM 36 2,oO 37 (cA 71 [36]),oO 38 (iX 2 34 35),oO 39 (fA 1 38),oX (sT 1 39 37)],true,[(1,6),(2,6),(3,6)]⟩
def Tryz.l_treepatch_Put : LCode := (.seq (.reg q113_0) (.seq (.seq (.reg q113_1) (.cond (.t 18) (.reg q113_2) .skip)) (.reg q113_3)))
theorem Tryz.c_treepatch_Put : fnComp Tryz.prog 113 = some (40, Tryz.l_treepatch_Put,[]) := by kernel_rfl
def q57_0 : LReg := rG [oO 3 (.box 25 1 (.t 1)),oO 4 (.alloc 25 1 [.nils]),oO 5 (.alloc 31 2 [.int .i64 0,.int .i64 0])]
def q57_1 : LReg := rG [oO 12 (lA 1 3),oO 13 (cA 97 [12]),oO 6 (.alloc 25 1 [.nils]),oX (sT 1 6 13)]
def q57_2 : LReg := rG [oO 7 (.alloc 25 1 [.nils])]
def q57_3 : LReg := rG [oM 14 0,oO 15 (lN 14),oO 16 (mK (kI 0))]
def q57_4 : LReg := rG [oO 17 (bT .lss 16 15)]
def q57_5 : LReg := rG [oM 18 16,oO 19 (iX 3 14 16),oO 20 (lA 3 19),oO 9 (.alloc 53 3 [.nils,.nils,.str []]),oM 8 18,oX (sT 3 9 20)]
def q57_6 : LReg := rG [oO 21 (fA 0 6),oO 22 (lV 1 21),oO 23 (fA 2 9),oO 24 (lV 1 23),oO 25 (.call 112 [(.t 22),(.t 24),(kI (-1))])]
def q57_7 : LReg := rG [oO 26 (.build [.nils] []),oM 27 8,oO 28 (.build [.int .i64 0,.int .i64 0] [(0,1,(kI 7)),(1,1,(.t 27))]),oX (sT 1 4 26),oX (sT 2 5 28)]
def q57_8 : LReg := rG [oO 29 (fA 0 6),oO 30 (lV 1 29),oO 31 (lN 30),oO 32 (bK .geq 31 24)]
def q57_9 : LReg := rG [oO 33 (.build [.nils] []),oM 34 8,oO 35 (.build [.int .i64 0,.int .i64 0] [(0,1,(kI 10)),(1,1,(.t 34))]),oX (sT 1 4 33),oX (sT 2 5 35)]
def q57_10 : LReg := rG [oO 37 (lA 3 9),oO 38 (lA 1 6),oO 39 (cA 25 [37,38]),oM 36 39,oO 40 (eX 0 36),oO 41 (eX 1 36),oO 11 (.alloc 31 2 [.int .i64 0,.int .i64 0]),oM 10 40,oX (sT 2 11 41)]
def q57_11 : LReg := rG [oO 42 (lA 2 11),oO 43 (.build [.int .i64 0,.int .i64 0] []),oO 44 (.eqs true [0,0] (.t 42) (.t 43))]
def q57_12 : LReg := ⟨[oO 45 (.build [.nils] []),oO 46 (fA 0 11),oO 47 (lV 1 46),oM 48 8,oO 49 (.build [.int .i64 0,.int .i64 0] [(0,1,(.t 47)),(1,1,(.t 48))]),oX (sT 1 4 45),oX (sT 2 5 49)],true,[(1,5),(2,5)]⟩
def q57_13 : LReg := rG [oO 50 (fA 2 9),oO 51 (lV 1 50),oM 52 10,oO 53 (cA 113 [6,51,52])]
def q57_14 : LReg := rG [oO 54 (fA 2 9),oO 55 (lV 1 54),oM 56 10,oO 57 (cA 113 [7,55,56])]
def q57_15 : LReg := rG [oO 58 (bK .add 16 1),oM 16 58]
def q57_16 : LReg := rG [oO 59 (lA 1 7),oO 60 (.build [.int .i64 0,.int .i64 0] []),oX (sT 1 4 59),oX (sT 2 5 60)]
def Tryz.l_release_execute : LCode := (.seq (.reg q57_0) (.seq (.reg q57_1) (.seq (.reg q57_2) (.seq (.seq (.reg q57_3) (.block 0 (.loop (.seq (.reg q57_4) (.seq (.cond (.t 17) .skip (.exit 0)) (.seq (.block 1 (.seq (.reg q57_5) (.seq (.seq (.reg q57_6) (.cond (.t 25) (.seq (.reg q57_7) .ret) .skip)) (.seq (.seq (.reg q57_8) (.cond (.t 32) (.seq (.reg q57_9) .ret) .skip)) (.seq (.reg q57_10) (.seq (.seq (.reg q57_11) (.cond (.t 44) (.seq (.reg q57_12) .ret) .skip)) (.seq (.reg q57_13) (.reg q57_14)))))))) (.reg q57_15))))))) (.seq (.reg q57_16) .ret)))))
theorem Tryz.c_release_execute : fnComp Tryz.prog 57 = some (61, Tryz.l_release_execute,[.cell 4 1 true,.cell 5 2 true]) := by kernel_rfl
def q114_0 : LReg := rG [oO 2 (mK (.c (.nils)))]
def q114_1 : LReg := rG [oM 3 0,oO 4 (.isnil false (.t 3))]
def q114_2 : LReg := rG [oO 2 (mK (.c (.nils)))]
def q114_3 : LReg := rG [oO 5 (.mkSlice 109 2 0 [.int .i64 0,.str []] []),oM 6 0,oO 7 (.append 109 2 24 (.t 5) (.t 6)),oM 2 7]
def Tryz.l_slices_Clone_api_SandboxOp_api_SandboxOp : LCode := (.seq (.reg q114_0) (.seq (.seq (.reg q114_1) (.cond (.t 4) (.seq (.reg q114_2) .ret) .skip)) (.seq (.reg q114_3) .ret)))
theorem Tryz.c_slices_Clone_api_SandboxOp_api_SandboxOp : fnComp Tryz.prog 114 = some (8, Tryz.l_slices_Clone_api_SandboxOp_api_SandboxOp,[.t 2]) := by kernel_rfl
def q58_0 : LReg := rG [oO 2 (mK (.c (.nils)))]
def q58_1 : LReg := rG [oO 3 (mK (.c (.nils)))]
def q58_2 : LReg := rG [oM 6 0,oO 7 (lN 6),oO 8 (mK (kI 0))]
def q58_3 : LReg := rG [oO 9 (bT .lss 8 7)]
def q58_4 : LReg := rG [oO 10 (iX 3 6 8),oO 11 (lA 3 10),oO 5 (.alloc 53 3 [.nils,.nils,.str []]),oX (sT 3 5 11)]
def q58_5 : LReg := ⟨[oM 12 3,oO 13 (fA 0 5),oO 14 (lV 1 13),oO 15 (cA 71 [14]),oO 16 (fA 1 5),oO 17 (lV 1 16),oO 18 (cA 114 [17]),oO 19 (fA 2 5),oO 20 (lV 1 19),oO 21 (.build [.nils,.nils,.str []] [(0,1,(.t 15)),(1,1,(.t 18)),(2,1,(.t 20))]),oO 22 (.mkSlice 53 3 1 [.nils,.nils,.str []] [(0,(.t 21))]),oO 23 (.append 53 3 64 (.t 12) (.t 22)),oM 3 23],true,[(1,4),(2,4),(3,4),(1,5),(2,5),(3,5),(1,7),(2,7),(3,7),(4,7),(5,7),(6,7),(1,8),(2,8),(3,8),(4,8),(5,8),(6,8)]⟩
def q58_6 : LReg := rG [oO 24 (bK .add 8 1),oM 8 24]
def q58_7 : LReg := rG [oM 25 3,oM 2 25]
def Tryz.l_release_clone : LCode := (.seq (.reg q58_0) (.seq (.reg q58_1) (.seq (.seq (.reg q58_2) (.block 0 (.loop (.seq (.reg q58_3) (.seq (.cond (.t 9) .skip (.exit 0)) (.seq (.block 1 (.seq (.reg q58_4) (.reg q58_5))) (.reg q58_6))))))) (.seq (.reg q58_7) .ret))))
theorem Tryz.c_release_clone : fnComp Tryz.prog 58 = some (26, Tryz.l_release_clone,[.t 2]) := by kernel_rfl
def q14_0 : LReg := rG [oO 3 (.box 25 1 (.t 1)),oO 4 (.alloc 29 3 [.nils,.nils,.nils]),oO 5 (.alloc 31 2 [.int .i64 0,.int .i64 0])]
def q14_1 : LReg := rG [oM 13 0,oO 14 (cA 54 [13]),oO 6 (.alloc 31 2 [.int .i64 0,.int .i64 0]),oX (sT 2 6 14)]
def q14_2 : LReg := rG [oO 15 (lA 2 6),oO 16 (.build [.int .i64 0,.int .i64 0] []),oO 17 (.eqs true [0,0] (.t 15) (.t 16))]
def q14_3 : LReg := ⟨[oO 18 (.build [.nils,.nils,.nils] []),oO 19 (lA 2 6),oX (sT 3 4 18),oX (sT 2 5 19)],true,[(1,2)]⟩
def q14_4 : LReg := rG [oO 20 (lA 1 3),oO 21 (.call 55 [(.t 20),(kI (-2))]),oO 7 (.alloc 31 2 [.int .i64 0,.int .i64 0]),oX (sT 2 7 21)]
def q14_5 : LReg := rG [oO 22 (lA 2 7),oO 23 (.build [.int .i64 0,.int .i64 0] []),oO 24 (.eqs true [0,0] (.t 22) (.t 23))]
def q14_6 : LReg := ⟨[oO 25 (.build [.nils,.nils,.nils] []),oO 26 (lA 2 7),oX (sT 3 4 25),oX (sT 2 5 26)],true,[(1,2)]⟩
def q14_7 : LReg := rG [oM 27 0,oO 28 (cA 56 [27]),oM 8 28]
def q14_8 : LReg := rG [oM 29 8,oO 30 (lN 29),oO 31 (bK .gtr 30 24)]
def q14_9 : LReg := rG [oO 32 (.build [.nils,.nils,.nils] []),oO 33 (.build [.int .i64 0,.int .i64 0] [(0,1,(kI 10)),(1,1,(kI (-3)))]),oX (sT 3 4 32),oX (sT 2 5 33)]
def q14_10 : LReg := rG [oM 35 0,oO 36 (lA 1 3),oO 37 (cA 57 [35,36]),oM 34 37,oO 38 (eX 0 34),oO 39 (eX 1 34),oO 9 (.alloc 25 1 [.nils]),oO 10 (.alloc 31 2 [.int .i64 0,.int .i64 0]),oX (sT 1 9 38),oX (sT 2 10 39)]
def q14_11 : LReg := rG [oO 40 (lA 2 10),oO 41 (.build [.int .i64 0,.int .i64 0] []),oO 42 (.eqs true [0,0] (.t 40) (.t 41))]
def q14_12 : LReg := ⟨[oO 43 (.build [.nils,.nils,.nils] []),oO 44 (lA 2 10),oX (sT 3 4 43),oX (sT 2 5 44)],true,[(1,2)]⟩
def q14_13 : LReg := rG [oM 46 8,oO 47 (lA 1 3),oO 48 (cA 16 [46,47]),oM 45 48,oO 49 (eX 0 45),oO 50 (eX 1 45),oO 12 (.alloc 31 2 [.int .i64 0,.int .i64 0]),oM 11 49,oX (sT 2 12 50)]
def q14_14 : LReg := ⟨[oM 51 0,oO 52 (cA 58 [51]),oM 53 11,oO 54 (lA 1 9),oO 55 (.build [.nils,.nils,.nils] [(0,1,(.t 52)),(1,1,(.t 53)),(2,1,(.t 54))]),oO 56 (.build [.int .i64 0,.int .i64 0] []),oX (sT 3 4 55),oX (sT 2 5 56)],true,[(1,3)]⟩
def Tryz.l_release_Make : LCode := (.seq (.reg q14_0) (.seq (.seq (.reg q14_1) (.seq (.reg q14_2) (.cond (.t 17) (.seq (.reg q14_3) .ret) .skip))) (.seq (.seq (.reg q14_4) (.seq (.reg q14_5) (.cond (.t 24) (.seq (.reg q14_6) .ret) .skip))) (.seq (.reg q14_7) (.seq (.seq (.reg q14_8) (.cond (.t 31) (.seq (.reg q14_9) .ret) .skip)) (.seq (.reg q14_10) (.seq (.seq (.reg q14_11) (.cond (.t 42) (.seq (.reg q14_12) .ret) .skip)) (.seq (.reg q14_13) (.seq (.reg q14_14) .ret)))))))))
theorem Tryz.c_release_Make : fnComp Tryz.prog 14 = some (57, Tryz.l_release_Make,[.cell 4 3 true,.cell 5 2 true]) := by kernel_rfl
theorem Tryz.b_actioncache_Key_1 : bodied Tryz.prog 64 = true := by kernel_rfl
def q64_0 : LReg := rG [oO 2 (mK (kI 0))]
def q64_1 : LReg := rG [oM 6 0,oO 7 (.toBytes 5 (.t 6)),oO 8 (cA 65 [7]),oM 5 8,oO 9 (eX 0 5),oO 10 (eX 1 5),oO 4 (.alloc 31 2 [.int .i64 0,.int .i64 0]),oM 3 9,oX (sT 2 4 10)]
def q64_2 : LReg := rG [oM 11 3,oM 2 11]
def Tryz.l_actioncache_Key_1 : LCode := (.seq (.reg q64_0) (.seq (.reg q64_1) (.seq (.reg q64_2) .ret)))
theorem Tryz.c_actioncache_Key_1 : fnComp Tryz.prog 64 = some (12, Tryz.l_actioncache_Key_1,[.t 2]) := by kernel_rfl
def q155_0 : LReg := rG [oO 2 (mK (kB false))]
def q155_1 : LReg := rG [oM 3 0,oO 4 (bK .geq 3 0),oM 5 4,oT 6 5 (.mv (.t 0)),oT 7 5 (bK .lss 6 2305843009213693951),oO 8 (pK 5 7 (kB false)),oM 2 8]
def Tryz.l_digest_is : LCode := (.seq (.reg q155_0) (.seq (.reg q155_1) .ret))
theorem Tryz.c_digest_is : fnComp Tryz.prog 155 = some (9, Tryz.l_digest_is,[.t 2]) := by kernel_rfl
def q121_0 : LReg := rG [oO 4 (mK (kI 0)),oO 5 (.alloc 31 2 [.int .i64 0,.int .i64 0])]
def q121_1 : LReg := rG [oM 8 0,oM 9 1,oO 10 (.build [.int .i64 0,.int .i64 0] [(0,1,(.t 8)),(1,1,(.t 9))]),oO 11 (mK (kI 0))]
def q121_2 : LReg := rG [oO 12 (bK .lss 11 2)]
def q121_3 : LReg := rG [oM 13 11,oO 14 (.vidx 2 1 false (.t 10) (.t 11)),oM 6 13,oM 7 14]
def q121_4 : LReg := rG [oM 15 7,oO 16 (cA 155 [15]),oO 17 (.un .not (.t 16))]
def q121_5 : LReg := rG [oM 18 6,oO 19 (.build [.int .i64 0,.int .i64 0] [(0,1,(kI 3)),(1,1,(.t 18))]),oO 4 (mK (kI 0)),oX (sT 2 5 19)]
def q121_6 : LReg := rG [oO 20 (bK .add 11 1),oM 11 20]
def q121_7 : LReg := rG [oM 21 0,oM 22 1,oO 23 (cA 75 [21,22]),oO 24 (.build [.int .i64 0,.int .i64 0] []),oM 4 23,oX (sT 2 5 24)]
def Tryz.l_digest_Pair : LCode := (.seq (.reg q121_0) (.seq (.seq (.reg q121_1) (.block 0 (.loop (.seq (.reg q121_2) (.seq (.cond (.t 12) .skip (.exit 0)) (.seq (.block 1 (.seq (.reg q121_3) (.seq (.reg q121_4) (.cond (.t 17) (.seq (.reg q121_5) .ret) .skip)))) (.reg q121_6))))))) (.seq (.reg q121_7) .ret)))
theorem Tryz.c_digest_Pair : fnComp Tryz.prog 121 = some (25, Tryz.l_digest_Pair,[.t 4,.cell 5 2 true]) := by kernel_rfl
def q67_0 : LReg := rG [oO 4 (mK (kI 0))]
def q67_1 : LReg := rG [oM 7 1,oO 8 (lN 7),oO 9 (mK (kI 0))]
def q67_2 : LReg := rG [oO 10 (bT .lss 9 8)]
def q67_3 : LReg := rG [oO 11 (iX 1 7 9),oO 12 (lV 1 11),oM 6 12]
def q67_4 : LReg := rG [oM 14 0,oM 15 6,oO 16 (cA 121 [14,15]),oM 13 16,oO 17 (eX 0 13),oO 18 (eX 1 13),oM 0 17]
def q67_5 : LReg := rG [oO 19 (bK .add 9 1),oM 9 19]
def q67_6 : LReg := rG [oM 20 0,oM 4 20]
def Tryz.l_actioncache_combine : LCode := (.seq (.reg q67_0) (.seq (.seq (.reg q67_1) (.block 0 (.loop (.seq (.reg q67_2) (.seq (.cond (.t 10) .skip (.exit 0)) (.seq (.block 1 (.seq (.reg q67_3) (.reg q67_4))) (.reg q67_5))))))) (.seq (.reg q67_6) .ret)))
theorem Tryz.c_actioncache_combine : fnComp Tryz.prog 67 = some (21, Tryz.l_actioncache_combine,[.t 4]) := by kernel_rfl
def q20_0 : LReg := rG [oO 2 (.box 53 3 (.t 0)),oO 3 (.box 25 1 (.t 1)),oO 4 (mK (kI 0)),oO 5 (.alloc 31 2 [.int .i64 0,.int .i64 0])]
def q20_1 : LReg := rG [oO 17 (lA 3 2),oO 18 (lA 1 3),oO 19 (cA 63 [17,18]),oO 6 (.alloc 31 2 [.int .i64 0,.int .i64 0]),oX (sT 2 6 19)]
def q20_2 : LReg := rG [oO 20 (lA 2 6),oO 21 (.build [.int .i64 0,.int .i64 0] []),oO 22 (.eqs true [0,0] (.t 20) (.t 21))]
def q20_3 : LReg := ⟨[oO 23 (lA 2 6),oO 4 (mK (kI 0)),oX (sT 2 5 23)],true,[]⟩
def q20_4 : LReg := rG [oO 7 (mK (.c (.fn 64 [] [])))]
def q20_5 : LReg := rG [oO 25 (fA 0 2),oO 26 (lV 1 25),oO 27 (cA 26 [26]),oM 24 27,oO 28 (eX 0 24),oO 29 (eX 1 24),oO 9 (.alloc 31 2 [.int .i64 0,.int .i64 0]),oM 8 28,oX (sT 2 9 29)]
def q20_6 : LReg := rG [oO 30 (fA 0 2),oO 31 (lV 1 30),oO 32 (lN 31),oO 33 (mK (kI 0))]
def q20_7 : LReg := rG [oO 34 (bT .lss 33 32)]
def q20_8 : LReg := rG [oO 35 (iX 1 31 33),oO 36 (lV 1 35),oM 11 36]
def q20_9 : LReg := rG [oO 12 (mK (kI 0))]
def q20_10 : LReg := rG [oO 38 (fA 0 3),oO 39 (lV 1 38),oM 40 11,oO 41 (cA 66 [39,40]),oM 37 41,oO 42 (eX 0 37),oO 43 (eX 1 37),oM 13 42,oM 14 43]
def q20_11 : LReg := rG [oM 44 14]
def q20_12 : LReg := rG [oO 46 (fA 0 3),oO 47 (lV 1 46),oM 48 13,oO 49 (iX 2 47 48),oO 50 (fA 1 49),oO 51 (lV 1 50),oO 52 (cA 26 [51]),oM 45 52,oO 53 (eX 0 45),oO 54 (eX 1 45),oM 12 53]
def q20_13 : LReg := rG [oM 55 8,oM 56 12,oO 57 (.mkSlice 3 1 1 [.int .i64 0] [(0,(.t 56))]),oO 58 (cA 67 [55,57]),oM 8 58]
def q20_14 : LReg := rG [oO 59 (bK .add 33 1),oM 33 59]
def q20_15 : LReg := rG [oO 60 (fA 1 2),oO 61 (lV 1 60),oO 62 (lN 61),oO 63 (mK (kI 0))]
def q20_16 : LReg := rG [oO 64 (bT .lss 63 62)]
def q20_17 : LReg := rG [oO 65 (iX 2 61 63),oO 66 (lA 2 65),oO 16 (.alloc 109 2 [.int .i64 0,.str []]),oX (sT 2 16 66)]
def q20_18 : LReg := ⟨[oM 67 8,oO 68 (fA 0 16),oO 69 (lV 1 68),oM 70 7,oO 71 (fA 1 16),oO 72 (lV 1 71),oO 73 (.callv (.t 70) [(.t 72)]),oO 74 (.mkSlice 3 1 1 [.int .i64 0] [(0,(.t 73))]),oO 75 (cA 67 [69,74]),oO 76 (.mkSlice 3 1 1 [.int .i64 0] [(0,(.t 75))]),oO 77 (cA 67 [67,76]),oM 8 77],true,[(1,4),(2,4),(1,5),(2,5),(1,6),(2,6),(1,7),(2,7)]⟩
def q20_19 : LReg := rG [oO 78 (bK .add 63 1),oM 63 78]
def q20_20 : LReg := rG [oM 79 8,oM 80 7,oO 81 (fA 2 2),oO 82 (lV 1 81),oO 83 (.callv (.t 80) [(.t 82)]),oO 84 (.mkSlice 3 1 1 [.int .i64 0] [(0,(.t 83))]),oO 85 (cA 67 [79,84]),oO 86 (.build [.int .i64 0,.int .i64 0] []),oM 4 85,oX (sT 2 5 86)]
def Tryz.l_actioncache_Key : LCode := (.seq (.reg q20_0) (.seq (.seq (.reg q20_1) (.seq (.reg q20_2) (.cond (.t 22) (.seq (.reg q20_3) .ret) .skip))) (.seq (.reg q20_4) (.seq (.reg q20_5) (.seq (.seq (.reg q20_6) (.block 0 (.loop (.seq (.reg q20_7) (.seq (.cond (.t 34) .skip (.exit 0)) (.seq (.block 1 (.seq (.reg q20_8) (.seq (.reg q20_9) (.seq (.seq (.reg q20_10) (.seq (.reg q20_11) (.cond (.t 44) (.reg q20_12) .skip))) (.reg q20_13))))) (.reg q20_14))))))) (.seq (.seq (.reg q20_15) (.block 2 (.loop (.seq (.reg q20_16) (.seq (.cond (.t 64) .skip (.exit 2)) (.seq (.block 3 (.seq (.reg q20_17) (.reg q20_18))) (.reg q20_19))))))) (.seq (.reg q20_20) .ret)))))))
theorem Tryz.c_actioncache_Key : fnComp Tryz.prog 20 = some (87, Tryz.l_actioncache_Key,[.t 4,.cell 5 2 true]) := by kernel_rfl
def q24_0 : LReg := rG [oO 4 (mK (kB false))]
def q24_1 : LReg := rG [oM 6 0,oO 7 (lN 6),oM 8 1,oO 9 (lN 8),oO 10 (bT .neq 7 9)]
def q24_2 : LReg := rG [oO 4 (mK (kB false))]
def q24_3 : LReg := rG [oO 5 (mK (kI 0))]
def q24_4 : LReg := rG [oM 11 5,oM 12 0,oO 13 (lN 12),oO 14 (bT .lss 11 13)]
def q24_5 : LReg := ⟨[oM 17 0,oM 18 5,oO 19 (iX 1 17 18),oO 20 (lV 1 19),oM 21 1,oM 22 5,oO 23 (iX 1 21 22),oO 24 (lV 1 23),oO 25 (bT .neq 20 24)],true,[(2,6),(3,6),(2,7),(3,7)]⟩
def q24_6 : LReg := rG [oO 4 (mK (kB false))]
def q24_7 : LReg := rG [oM 15 5,oO 16 (bK .add 15 1),oM 5 16]
def q24_8 : LReg := rG [oO 4 (mK (kB true))]
def Tryz.l_ref6_Strings : LCode := (.seq (.reg q24_0) (.seq (.seq (.reg q24_1) (.cond (.t 10) (.seq (.reg q24_2) .ret) .skip)) (.seq (.seq (.reg q24_3) (.block 0 (.loop (.seq (.seq (.reg q24_4) (.cond (.t 14) .skip (.exit 0))) (.seq (.block 1 (.seq (.reg q24_5) (.cond (.t 25) (.seq (.reg q24_6) .ret) .skip))) (.reg q24_7)))))) (.seq (.reg q24_8) .ret))))
theorem Tryz.c_ref6_Strings : fnComp Tryz.prog 24 = some (26, Tryz.l_ref6_Strings,[.t 4]) := by kernel_rfl
def q52_0 : LReg := rG [oO 0 (.alloc 53 3 [.nils,.nils,.str []])]
def q52_1 : LReg := rG [oO 1 (.mkSlice 9 1 1 [.str []] [(0,(.c (.str [97])))]),oO 2 (.build [.int .i64 0,.str []] [(0,1,(kI 1)),(1,1,(.c (.str [97])))]),oO 3 (.mkSlice 109 2 1 [.int .i64 0,.str []] [(0,(.t 2))]),oO 4 (.build [.nils,.nils,.str []] [(0,1,(.t 1)),(1,1,(.t 3)),(2,1,(.c (.str [98])))]),oX (sT 3 0 4)]
def Tryz.l_top_kernAction : LCode := (.seq (.reg q52_0) (.seq (.reg q52_1) .ret))
theorem Tryz.c_top_kernAction : fnComp Tryz.prog 52 = some (5, Tryz.l_top_kernAction,[.cell 0 3 true]) := by kernel_rfl
def q53_0 : LReg := rG [oO 0 (.alloc 25 1 [.nils])]
def q53_1 : LReg := rG [oO 1 (.mkSlice 9 1 1 [.str []] [(0,(.c (.str [120])))]),oO 2 (.build [.str [],.nils] [(0,1,(.c (.str [97]))),(1,1,(.t 1))]),oO 3 (.mkSlice 37 2 1 [.str [],.nils] [(0,(.t 2))]),oO 4 (.build [.nils] [(0,1,(.t 3))]),oX (sT 1 0 4)]
def Tryz.l_top_kernFiles : LCode := (.seq (.reg q53_0) (.seq (.reg q53_1) .ret))
theorem Tryz.c_top_kernFiles : fnComp Tryz.prog 53 = some (5, Tryz.l_top_kernFiles,[.cell 0 1 true]) := by kernel_rfl
def q13_0 : LReg := rG [oO 0 (mK (kB false))]
def q13_1 : LReg := rG [oO 10 (cA 52 []),oO 11 (cA 53 []),oO 12 (cA 25 [10,11]),oM 9 12,oO 13 (eX 0 9),oO 14 (eX 1 9),oO 2 (.alloc 31 2 [.int .i64 0,.int .i64 0]),oM 1 13,oX (sT 2 2 14)]
def q13_2 : LReg := rG [oO 16 (cA 52 []),oO 17 (.mkSlice 53 3 1 [.nils,.nils,.str []] [(0,(.t 16))]),oO 18 (cA 53 []),oO 19 (cA 14 [17,18]),oM 15 19,oO 20 (eX 0 15),oO 21 (eX 1 15),oO 3 (.alloc 29 3 [.nils,.nils,.nils]),oO 4 (.alloc 31 2 [.int .i64 0,.int .i64 0]),oX (sT 3 3 20),oX (sT 2 4 21)]
def q13_3 : LReg := rG [oO 23 (.mkSlice 9 1 1 [.str []] [(0,(.c (.str [97])))]),oO 24 (cA 53 []),oO 25 (cA 16 [23,24]),oM 22 25,oO 26 (eX 0 22),oO 27 (eX 1 22),oO 6 (.alloc 31 2 [.int .i64 0,.int .i64 0]),oM 5 26,oX (sT 2 6 27)]
def q13_4 : LReg := rG [oO 29 (cA 52 []),oO 30 (cA 53 []),oO 31 (cA 20 [29,30]),oM 28 31,oO 32 (eX 0 28),oO 33 (eX 1 28),oO 8 (.alloc 31 2 [.int .i64 0,.int .i64 0]),oM 7 32,oX (sT 2 8 33)]
def q13_5 : LReg := rG [oO 34 (fA 0 2),oO 35 (lV 1 34),oO 36 (bK .eql 35 0),oM 37 36,oT 38 37 (fA 0 4),oT 39 37 (lV 1 38),oT 40 37 (bK .eql 39 0),oO 41 (pK 37 40 (kB false)),oM 42 41,oT 43 42 (fA 0 6),oT 44 42 (lV 1 43),oT 45 42 (bK .eql 44 0),oO 46 (pK 42 45 (kB false)),oM 47 46,oT 48 47 (fA 0 8),oT 49 47 (lV 1 48),oT 50 47 (bK .eql 49 0),oO 51 (pK 47 50 (kB false)),oM 52 51,oT 53 52 (.mv (.t 1)),oT 54 52 (.mkSlice 9 1 1 [.str []] [(0,(.c (.str [120])))]),oT 55 52 (cA 24 [53,54]),oO 56 (pK 52 55 (kB false)),oM 57 56,oT 58 57 (fA 2 3),oT 59 57 (fA 0 58),oT 60 57 (lV 1 59),oT 61 57 (lN 60),oT 62 57 (bK .eql 61 1),oO 63 (pK 57 62 (kB false)),oM 64 63,oT 65 64 (.mv (.t 5)),oT 66 64 (lN 65),oT 67 64 (bK .eql 66 1),oO 68 (pK 64 67 (kB false)),oM 69 68,oT 70 69 (.mv (.t 7)),oT 71 69 (bK .neq 70 0),oO 72 (pK 69 71 (kB false)),oM 0 72]
def Tryz.l_top_kernBuilds : LCode := (.seq (.reg q13_0) (.seq (.reg q13_1) (.seq (.reg q13_2) (.seq (.reg q13_3) (.seq (.reg q13_4) (.seq (.reg q13_5) .ret))))))
theorem Tryz.c_top_kernBuilds : fnComp Tryz.prog 13 = some (73, Tryz.l_top_kernBuilds,[.t 0]) := by kernel_rfl
def q18_0 : LReg := rG [oO 6 (mK (kB false))]
def q18_1 : LReg := rG [oM 7 0,oM 8 1,oO 9 (bT .geq 7 8),oM 10 9,oT 11 10 (.mv (.t 0)),oT 12 10 (.mv (.t 2)),oT 13 10 (bT .leq 11 12),oO 14 (pK 10 13 (kB false)),oM 6 14]
def Tryz.l_top_kernIn : LCode := (.seq (.reg q18_0) (.seq (.reg q18_1) .ret))
theorem Tryz.c_top_kernIn : fnComp Tryz.prog 18 = some (15, Tryz.l_top_kernIn,[.t 6]) := by kernel_rfl
def q129_0 : LReg := rG [oO 4 (mK (.c (.nils)))]
def q129_1 : LReg := rG [oM 7 0,oO 8 (.make 3 1 8 [.int .i64 0] (.t 7)),oM 5 8]
def q129_2 : LReg := rG [oM 9 5,oO 10 (lN 9),oO 11 (mK (kI 0))]
def q129_3 : LReg := rG [oO 12 (bT .lss 11 10)]
def q129_4 : LReg := rG [oM 13 11,oM 6 13]
def q129_5 : LReg := rG [oM 14 5,oM 15 6,oM 16 1,oO 17 (iX 1 14 15),oX (sT 1 17 16)]
def q129_6 : LReg := rG [oO 18 (bK .add 11 1),oM 11 18]
def q129_7 : LReg := rG [oM 19 5,oM 4 19]
def Tryz.l_workers_fill : LCode := (.seq (.reg q129_0) (.seq (.reg q129_1) (.seq (.seq (.reg q129_2) (.block 0 (.loop (.seq (.reg q129_3) (.seq (.cond (.t 12) .skip (.exit 0)) (.seq (.block 1 (.seq (.reg q129_4) (.reg q129_5))) (.reg q129_6))))))) (.seq (.reg q129_7) .ret))))
theorem Tryz.c_workers_fill : fnComp Tryz.prog 129 = some (20, Tryz.l_workers_fill,[.t 4]) := by kernel_rfl
def q159_0 : LReg := rG [oO 3 (.box 66 4 (.t 1)),oO 4 (mK (kI 0))]
def q159_1 : LReg := ⟨[oO 7 (fA 0 3),oO 8 (lV 1 7),oO 9 (bK .eql 8 1),oO 10 (fA 0 3),oO 11 (lV 1 10),oO 12 (bK .eql 11 2),oM 5 9,oM 6 12],true,[(0,3),(1,3),(0,4),(1,4)]⟩
def q159_2 : LReg := rG [oO 14 (fA 0 3),oO 15 (lV 1 14),oO 16 (bK .lss 15 1),oM 17 16,oF 18 17 (fA 0 3),oF 19 17 (lV 1 18),oF 20 17 (bK .gtr 19 4),oO 21 (pL 17 (kB true) 20),oM 13 21]
def q159_3 : LReg := rG [oO 4 (mK (kI 4))]
def q159_4 : LReg := ⟨[oO 23 (fA 1 3),oO 24 (lV 1 23),oO 25 (bK .lss 24 0),oM 26 25,oF 27 26 (fA 1 3),oF 28 26 (lV 1 27),oF 29 26 (.mv (.t 0)),oF 30 26 (.nilCheck (.t 29)),oF 31 26 (fA 1 30),oF 32 26 (lV 1 31),oF 33 26 (lN 32),oF 34 26 (bT .geq 28 33),oO 35 (pL 26 (kB true) 34),oM 22 35],true,[(4,7),(5,7),(4,8),(5,8),(4,9),(5,9),(4,10),(5,10)]⟩
def q159_5 : LReg := rG [oO 4 (mK (kI 3))]
def q159_6 : LReg := rG [oM 37 5,oO 38 (.un .not (.t 37)),oM 39 38,oT 40 39 (fA 2 3),oT 41 39 (lV 1 40),oT 42 39 (bK .neq 41 0),oO 43 (pK 39 42 (kB false)),oM 44 43,oF 45 44 (.mv (.t 6)),oF 46 44 (.un .not (.t 45)),oF 47 44 (.mv (.t 46)),oT 48 47 (fA 3 3),oT 49 47 (lV 1 48),oT 50 47 (bK .neq 49 0),oF 51 44 (pK 47 50 (kB false)),oO 52 (pL 44 (kB true) 51),oM 36 52]
def q159_7 : LReg := rG [oO 4 (mK (kI 5))]
def q159_8 : LReg := ⟨[oM 54 5,oM 55 54,oT 56 55 (fA 2 3),oT 57 55 (lV 1 56),oT 58 55 (bK .lss 57 0),oT 59 55 (.mv (.t 58)),oF 60 59 (fA 2 3),oF 61 59 (lV 1 60),oF 62 59 (.mv (.t 0)),oF 63 59 (.nilCheck (.t 62)),oF 64 59 (fA 3 63),oF 65 59 (lV 1 64),oF 66 59 (lN 65),oF 67 59 (bT .geq 61 66),oT 68 55 (pL 59 (kB true) 67),oO 69 (pK 55 68 (kB false)),oM 70 69,oF 71 70 (.mv (.t 6)),oF 72 70 (.mv (.t 71)),oT 73 72 (fA 3 3),oT 74 72 (lV 1 73),oT 75 72 (bK .lss 74 0),oT 76 72 (.mv (.t 75)),oF 77 76 (fA 3 3),oF 78 76 (lV 1 77),oF 79 76 (bK .gtr 78 1000000000),oT 80 72 (pL 76 (kB true) 79),oF 81 70 (pK 72 80 (kB false)),oO 82 (pL 70 (kB true) 81),oM 53 82],true,[(6,9),(7,9),(6,10),(7,10),(6,11),(7,11),(6,12),(7,12)]⟩
def q159_9 : LReg := rG [oO 4 (mK (kI 3))]
def q159_10 : LReg := rG [oO 4 (mK (kI 0))]
def Tryz.l_workers_farm_form : LCode := (.seq (.reg q159_0) (.seq (.reg q159_1) (.seq (.block 0 (.seq (.reg q159_2) (.cond (.t 13) (.seq (.reg q159_3) .ret) (.seq (.reg q159_4) (.cond (.t 22) (.seq (.reg q159_5) .ret) (.seq (.reg q159_6) (.cond (.t 36) (.seq (.reg q159_7) .ret) (.seq (.reg q159_8) (.cond (.t 53) (.seq (.reg q159_9) .ret) .skip))))))))) (.seq (.reg q159_10) .ret))))
theorem Tryz.c_workers_farm_form : fnComp Tryz.prog 159 = some (83, Tryz.l_workers_farm_form,[.t 4]) := by kernel_rfl
def q160_0 : LReg := rG [oO 6 (mK (kI 0))]
def q160_1 : LReg := rG [oM 9 0,oO 10 (.nilCheck (.t 9)),oO 11 (fA 2 10),oO 12 (lV 1 11),oM 13 1,oO 14 (iX 1 12 13),oO 15 (lV 1 14),oO 16 (lN 15),oO 17 (mK (kI 0))]
def q160_2 : LReg := rG [oO 18 (bT .lss 17 16)]
def q160_3 : LReg := rG [oO 19 (iX 1 15 17),oO 20 (lV 1 19),oM 8 20]
def q160_4 : LReg := rG [oM 21 8,oM 22 2,oO 23 (bT .eql 21 22)]
def q160_5 : LReg := rG [oM 24 6,oO 25 (bK .add 24 1),oM 6 25]
def q160_6 : LReg := rG [oO 26 (bK .add 17 1),oM 17 26]
def q160_7 : LReg := rG [oM 27 6,oM 28 0,oO 29 (.nilCheck (.t 28)),oO 30 (fA 0 29),oO 31 (lV 1 30),oO 32 (bT .geq 27 31),oM 33 32,oT 34 33 (.mv (.t 0)),oT 35 33 (.nilCheck (.t 34)),oT 36 33 (fA 3 35),oT 37 33 (lV 1 36),oT 38 33 (.mv (.t 1)),oT 39 33 (iX 1 37 38),oT 40 33 (lV 1 39),oT 41 33 (bK .lss 40 0),oO 42 (pK 33 41 (kB false))]
def q160_8 : LReg := rG [oM 43 0,oO 44 (.nilCheck (.t 43)),oO 45 (fA 3 44),oO 46 (lV 1 45),oM 47 1,oM 48 2,oO 49 (iX 1 46 47),oX (sT 1 49 48)]
def Tryz.l_workers_farm_accept : LCode := (.seq (.reg q160_0) (.seq (.seq (.reg q160_1) (.block 0 (.loop (.seq (.reg q160_2) (.seq (.cond (.t 18) .skip (.exit 0)) (.seq (.block 1 (.seq (.reg q160_3) (.seq (.reg q160_4) (.cond (.t 23) (.reg q160_5) .skip)))) (.reg q160_6))))))) (.seq (.reg q160_7) (.cond (.t 42) (.reg q160_8) .skip))))
theorem Tryz.c_workers_farm_accept : fnComp Tryz.prog 160 = some (50, Tryz.l_workers_farm_accept,[]) := by kernel_rfl
def q130_0 : LReg := rG [oO 3 (.box 66 4 (.t 1)),oO 4 (mK (kI 0))]
def q130_1 : LReg := rG [oM 8 0,oO 9 (lA 4 3),oO 10 (cA 159 [8,9]),oM 5 10]
def q130_2 : LReg := rG [oM 11 5,oO 12 (bK .neq 11 0)]
def q130_3 : LReg := rG [oM 13 5,oM 4 13]
def q130_4 : LReg := ⟨[oM 14 0,oO 15 (.nilCheck (.t 14)),oO 16 (fA 1 15),oO 17 (lV 1 16),oO 18 (fA 1 3),oO 19 (lV 1 18),oO 20 (iX 1 17 19),oM 6 20],true,[(1,4),(2,4),(3,4),(1,5),(2,5),(3,5)]⟩
def q130_5 : LReg := rG [oO 21 (fA 0 3),oO 22 (lV 1 21)]
def q130_6 : LReg := rG [oO 30 (bK .eql 22 1),oM 29 30]
def q130_7 : LReg := rG [oM 31 6,oO 32 (.nilCheck (.t 31)),oO 33 (lV 1 32),oO 34 (bK .neq 33 (-1))]
def q130_8 : LReg := rG [oO 4 (mK (kI 11))]
def q130_9 : LReg := ⟨[oM 35 0,oO 36 (.nilCheck (.t 35)),oO 37 (fA 2 36),oO 38 (lV 1 37),oO 39 (fA 2 3),oO 40 (lV 1 39),oO 41 (iX 1 38 40),oO 42 (lV 1 41),oO 43 (fA 1 3),oO 44 (lV 1 43),oO 45 (iX 1 42 44),oO 46 (lV 1 45),oO 47 (bK .geq 46 0)],true,[(1,4),(2,4),(3,4),(1,5),(2,5),(3,5),(1,8),(2,8),(3,8),(4,8),(5,8),(6,8),(7,8),(1,9),(2,9),(3,9),(4,9),(5,9),(6,9),(7,9)]⟩
def q130_10 : LReg := rG [oO 4 (mK (kI 7))]
def q130_11 : LReg := rG [oM 48 6,oO 49 (fA 2 3),oO 50 (lV 1 49),oO 51 (.nilCheck (.t 48)),oX (sT 1 51 50)]
def q130_12 : LReg := rG [oO 53 (bK .eql 22 2),oM 52 53]
def q130_13 : LReg := rG [oM 54 6,oO 55 (.nilCheck (.t 54)),oO 56 (lV 1 55),oO 57 (bK .lss 56 0)]
def q130_14 : LReg := rG [oO 4 (mK (kI 11))]
def q130_15 : LReg := rG [oM 58 6,oO 59 (.nilCheck (.t 58)),oO 60 (lV 1 59),oM 7 60]
def q130_16 : LReg := ⟨[oM 61 0,oO 62 (.nilCheck (.t 61)),oO 63 (fA 2 62),oO 64 (lV 1 63),oM 65 7,oO 66 (iX 1 64 65),oO 67 (lV 1 66),oO 68 (fA 1 3),oO 69 (lV 1 68),oO 70 (fA 3 3),oO 71 (lV 1 70),oO 72 (iX 1 67 69),oX (sT 1 72 71)],true,[(1,7),(2,7),(3,7),(5,7),(6,7),(1,8),(2,8),(3,8),(5,8),(6,8),(1,9),(2,9),(3,9),(5,9),(6,9),(7,9),(8,9),(1,10),(2,10),(3,10),(5,10),(6,10),(7,10),(8,10)]⟩
def q130_17 : LReg := rG [oM 73 6,oO 74 (.nilCheck (.t 73)),oX (.store 1 (.t 74) (kI (-1)))]
def q130_18 : LReg := rG [oM 75 0,oM 76 7,oO 77 (fA 3 3),oO 78 (lV 1 77),oO 79 (cA 160 [75,76,78])]
def q130_19 : LReg := rG [oO 81 (bK .eql 22 3),oM 80 81]
def q130_20 : LReg := rG [oM 82 6,oO 83 (.nilCheck (.t 82)),oO 84 (lV 1 83),oO 85 (bK .eql 84 (-2))]
def q130_21 : LReg := rG [oO 4 (mK (kI 11))]
def q130_22 : LReg := rG [oM 86 6,oO 87 (.nilCheck (.t 86)),oX (.store 1 (.t 87) (kI (-2)))]
def q130_23 : LReg := rG [oM 23 6,oO 24 (.nilCheck (.t 23)),oO 25 (lV 1 24),oO 26 (bK .neq 25 (-2))]
def q130_24 : LReg := rG [oO 4 (mK (kI 11))]
def q130_25 : LReg := rG [oM 27 6,oO 28 (.nilCheck (.t 27)),oX (.store 1 (.t 28) (kI (-1)))]
def q130_26 : LReg := rG [oO 4 (mK (kI 0))]
def Tryz.l_workers_farm_step : LCode := (.seq (.reg q130_0) (.seq (.seq (.reg q130_1) (.seq (.reg q130_2) (.cond (.t 12) (.seq (.reg q130_3) .ret) .skip))) (.seq (.reg q130_4) (.seq (.seq (.reg q130_5) (.block 0 (.seq (.reg q130_6) (.cond (.t 29) (.seq (.seq (.reg q130_7) (.cond (.t 34) (.seq (.reg q130_8) .ret) .skip)) (.seq (.seq (.reg q130_9) (.cond (.t 47) (.seq (.reg q130_10) .ret) .skip)) (.reg q130_11))) (.seq (.reg q130_12) (.cond (.t 52) (.seq (.seq (.reg q130_13) (.cond (.t 57) (.seq (.reg q130_14) .ret) .skip)) (.seq (.reg q130_15) (.seq (.reg q130_16) (.seq (.reg q130_17) (.reg q130_18))))) (.seq (.reg q130_19) (.cond (.t 80) (.seq (.seq (.reg q130_20) (.cond (.t 85) (.seq (.reg q130_21) .ret) .skip)) (.reg q130_22)) (.seq (.seq (.reg q130_23) (.cond (.t 26) (.seq (.reg q130_24) .ret) .skip)) (.reg q130_25)))))))))) (.seq (.reg q130_26) .ret)))))
theorem Tryz.c_workers_farm_step : fnComp Tryz.prog 130 = some (88, Tryz.l_workers_farm_step,[.t 4]) := by kernel_rfl
def q76_0 : LReg := rG [oO 8 (mK (.c (.pnil))),oO 9 (.alloc 31 2 [.int .i64 0,.int .i64 0])]
def q76_1 : LReg := rG [oM 14 0,oO 15 (bK .lss 14 0),oM 16 15,oF 17 16 (.mv (.t 0)),oF 18 16 (bK .gtr 17 12),oO 19 (pL 16 (kB true) 18),oM 20 19,oF 21 20 (.mv (.t 1)),oF 22 20 (bK .lss 21 1),oO 23 (pL 20 (kB true) 22),oM 24 23,oF 25 24 (.mv (.t 1)),oF 26 24 (bK .gtr 25 8),oO 27 (pL 24 (kB true) 26),oM 28 27,oF 29 28 (.mv (.t 2)),oF 30 28 (bK .lss 29 1),oO 31 (pL 28 (kB true) 30),oM 32 31,oF 33 32 (.mv (.t 2)),oF 34 32 (.mv (.t 1)),oF 35 32 (bT .gtr 33 34),oO 36 (pL 32 (kB true) 35)]
def q76_2 : LReg := rG [oO 37 (.build [.int .i64 0,.int .i64 0] [(0,1,(kI 3)),(1,1,(kI (-1)))]),oO 8 (mK (.c (.pnil))),oX (sT 2 9 37)]
def q76_3 : LReg := rG [oM 38 3,oO 39 (lN 38),oO 40 (bK .gtr 39 40)]
def q76_4 : LReg := rG [oO 41 (.build [.int .i64 0,.int .i64 0] [(0,1,(kI 2)),(1,1,(kI (-1)))]),oO 8 (mK (.c (.pnil))),oX (sT 2 9 41)]
def q76_5 : LReg := rG [oM 42 2,oM 43 1,oO 44 (.call 129 [(.t 43),(kI (-1))]),oM 45 0,oO 46 (.call 129 [(.t 45),(kI (-1))]),oO 47 (.build [.int .i64 0,.nils,.nils,.nils] [(0,1,(.t 42)),(1,1,(.t 44)),(3,1,(.t 46))]),oO 48 (.box 126 4 (.t 47)),oM 10 48]
def q76_6 : LReg := rG [oM 49 0,oO 50 (mK (kI 0))]
def q76_7 : LReg := rG [oO 51 (bT .lss 50 49)]
def q76_8 : LReg := ⟨[oM 52 10,oM 53 10,oO 54 (.nilCheck (.t 53)),oO 55 (fA 2 54),oO 56 (lV 1 55),oM 57 1,oO 58 (.call 129 [(.t 57),(kI (-1))]),oO 59 (.mkSlice 40 1 1 [.nils] [(0,(.t 58))]),oO 60 (.append 40 1 24 (.t 56) (.t 59)),oO 61 (.nilCheck (.t 52)),oO 62 (fA 2 61),oX (sT 1 62 60)],true,[(2,6),(3,6),(4,6),(2,7),(3,7),(4,7)]⟩
def q76_9 : LReg := rG [oO 63 (bK .add 50 1),oM 50 63]
def q76_10 : LReg := rG [oM 64 3,oO 65 (lN 64),oO 66 (mK (kI 0))]
def q76_11 : LReg := rG [oO 67 (bT .lss 66 65)]
def q76_12 : LReg := rG [oM 68 66,oO 69 (iX 4 64 66),oO 70 (lA 4 69),oO 12 (.alloc 66 4 [.int .i64 0,.int .i64 0,.int .i64 0,.int .i64 0]),oM 11 68,oX (sT 4 12 70)]
def q76_13 : LReg := rG [oM 71 10,oO 72 (lA 4 12),oO 73 (cA 130 [71,72]),oM 13 73]
def q76_14 : LReg := rG [oM 74 13,oO 75 (bK .neq 74 0)]
def q76_15 : LReg := rG [oM 76 13,oM 77 11,oO 78 (.build [.int .i64 0,.int .i64 0] [(0,1,(.t 76)),(1,1,(.t 77))]),oO 8 (mK (.c (.pnil))),oX (sT 2 9 78)]
def q76_16 : LReg := rG [oO 79 (bK .add 66 1),oM 66 79]
def q76_17 : LReg := rG [oM 80 10,oO 81 (.build [.int .i64 0,.int .i64 0] []),oM 8 80,oX (sT 2 9 81)]
def Tryz.l_workers_play : LCode := (.seq (.reg q76_0) (.seq (.seq (.reg q76_1) (.cond (.t 36) (.seq (.reg q76_2) .ret) .skip)) (.seq (.seq (.reg q76_3) (.cond (.t 40) (.seq (.reg q76_4) .ret) .skip)) (.seq (.reg q76_5) (.seq (.seq (.reg q76_6) (.block 0 (.loop (.seq (.reg q76_7) (.seq (.cond (.t 51) .skip (.exit 0)) (.seq (.block 1 (.reg q76_8)) (.reg q76_9))))))) (.seq (.seq (.reg q76_10) (.block 2 (.loop (.seq (.reg q76_11) (.seq (.cond (.t 67) .skip (.exit 2)) (.seq (.block 3 (.seq (.reg q76_12) (.seq (.reg q76_13) (.seq (.reg q76_14) (.cond (.t 75) (.seq (.reg q76_15) .ret) .skip))))) (.reg q76_16))))))) (.seq (.reg q76_17) .ret)))))))
theorem Tryz.c_workers_play : fnComp Tryz.prog 76 = some (82, Tryz.l_workers_play,[.t 8,.cell 9 2 true]) := by kernel_rfl
def q27_0 : LReg := rG [oO 8 (mK (.c (.nils))),oO 9 (.alloc 31 2 [.int .i64 0,.int .i64 0])]
def q27_1 : LReg := rG [oM 13 0,oM 14 1,oM 15 2,oM 16 3,oO 17 (cA 76 [13,14,15,16]),oM 12 17,oO 18 (eX 0 12),oO 19 (eX 1 12),oO 11 (.alloc 31 2 [.int .i64 0,.int .i64 0]),oM 10 18,oX (sT 2 11 19)]
def q27_2 : LReg := rG [oO 20 (lA 2 11),oO 21 (.build [.int .i64 0,.int .i64 0] []),oO 22 (.eqs true [0,0] (.t 20) (.t 21))]
def q27_3 : LReg := ⟨[oO 23 (lA 2 11),oO 8 (mK (.c (.nils))),oX (sT 2 9 23)],true,[]⟩
def q27_4 : LReg := rG [oM 24 10,oO 25 (.nilCheck (.t 24)),oO 26 (fA 3 25),oO 27 (lV 1 26),oO 28 (.build [.int .i64 0,.int .i64 0] []),oM 8 27,oX (sT 2 9 28)]
def Tryz.l_workers_Play : LCode := (.seq (.reg q27_0) (.seq (.reg q27_1) (.seq (.seq (.reg q27_2) (.cond (.t 22) (.seq (.reg q27_3) .ret) .skip)) (.seq (.reg q27_4) .ret))))
theorem Tryz.c_workers_Play : fnComp Tryz.prog 27 = some (29, Tryz.l_workers_Play,[.t 8,.cell 9 2 true]) := by kernel_rfl
def q28_0 : LReg := rG [oO 4 (mK (kB false))]
def q28_1 : LReg := rG [oM 6 0,oO 7 (lN 6),oM 8 1,oO 9 (lN 8),oO 10 (bT .neq 7 9)]
def q28_2 : LReg := rG [oO 4 (mK (kB false))]
def q28_3 : LReg := rG [oO 5 (mK (kI 0))]
def q28_4 : LReg := rG [oM 11 5,oM 12 0,oO 13 (lN 12),oO 14 (bT .lss 11 13)]
def q28_5 : LReg := ⟨[oM 17 0,oM 18 5,oO 19 (iX 1 17 18),oO 20 (lV 1 19),oM 21 1,oM 22 5,oO 23 (iX 1 21 22),oO 24 (lV 1 23),oO 25 (bT .neq 20 24)],true,[(2,6),(3,6),(2,7),(3,7)]⟩
def q28_6 : LReg := rG [oO 4 (mK (kB false))]
def q28_7 : LReg := rG [oM 15 5,oO 16 (bK .add 15 1),oM 5 16]
def q28_8 : LReg := rG [oO 4 (mK (kB true))]
def Tryz.l_ref5_Ints : LCode := (.seq (.reg q28_0) (.seq (.seq (.reg q28_1) (.cond (.t 10) (.seq (.reg q28_2) .ret) .skip)) (.seq (.seq (.reg q28_3) (.block 0 (.loop (.seq (.seq (.reg q28_4) (.cond (.t 14) .skip (.exit 0))) (.seq (.block 1 (.seq (.reg q28_5) (.cond (.t 25) (.seq (.reg q28_6) .ret) .skip))) (.reg q28_7)))))) (.seq (.reg q28_8) .ret))))
theorem Tryz.c_ref5_Ints : fnComp Tryz.prog 28 = some (26, Tryz.l_ref5_Ints,[.t 4]) := by kernel_rfl
def q5_0 : LReg := rG [oO 4 (.box 53 3 (.t 0)),oO 5 (.box 25 1 (.t 1)),oO 8 (mK (kB false))]
def q5_1 : LReg := rG [oO 20 (cA 13 []),oO 21 (.un .not (.t 20))]
def q5_2 : LReg := rG [oO 8 (mK (kB false))]
def q5_3 : LReg := rG [oO 23 (lA 3 4),oO 24 (lA 1 5),oO 25 (cA 25 [23,24]),oM 22 25,oO 26 (eX 0 22),oO 27 (eX 1 22),oO 10 (.alloc 31 2 [.int .i64 0,.int .i64 0]),oM 9 26,oX (sT 2 10 27)]
def q5_4 : LReg := rG [oO 28 (fA 0 10),oO 29 (lV 1 28),oO 30 (bK .neq 29 0),oM 31 30,oF 32 31 (.mv (.t 2)),oF 33 31 (.call 18 [(.t 32),(kI 1),(kI 4)]),oF 34 31 (.un .not (.t 33)),oO 35 (pL 31 (kB true) 34),oM 36 35,oF 37 36 (.mv (.t 3)),oF 38 36 (lN 37),oF 39 36 (.mv (.t 2)),oF 40 36 (bT .geq 38 39),oO 41 (pL 36 (kB true) 40)]
def q5_5 : LReg := rG [oO 42 (fA 0 10),oO 43 (lV 1 42),oO 44 (bK .eql 43 0),oM 45 44,oF 46 45 (.mv (.t 9)),oF 47 45 (lN 46),oF 48 45 (bK .eql 47 0),oO 49 (pL 45 (kB true) 48),oM 8 49]
def q5_6 : LReg := rG [oM 51 9,oO 52 (cA 26 [51]),oM 50 52,oO 53 (eX 0 50),oO 54 (eX 1 50),oO 12 (.alloc 31 2 [.int .i64 0,.int .i64 0]),oM 11 53,oX (sT 2 12 54)]
def q5_7 : LReg := rG [oM 55 11,oO 56 (bK .rem 55 1000000000),oM 13 56]
def q5_8 : LReg := rG [oO 14 (mK (.c (.nils)))]
def q5_9 : LReg := rG [oO 15 (mK (kI 0))]
def q5_10 : LReg := rG [oM 57 15,oM 58 3,oO 59 (lN 58),oO 60 (bT .lss 57 59)]
def q5_11 : LReg := rG [oM 63 3,oM 64 15,oO 65 (iX 1 63 64),oO 66 (lV 1 65),oO 67 (.call 18 [(.t 66),(kI 0),(kI 1000000000)]),oO 68 (.un .not (.t 67))]
def q5_12 : LReg := rG [oO 8 (mK (kB true))]
def q5_13 : LReg := rG [oM 69 14,oM 70 15,oO 71 (.build [.int .i64 0,.int .i64 0,.int .i64 0,.int .i64 0] [(0,1,(kI 1)),(1,1,(.t 70))]),oO 72 (.mkSlice 66 4 1 [.int .i64 0,.int .i64 0,.int .i64 0,.int .i64 0] [(0,(.t 71))]),oO 73 (.append 66 4 32 (.t 69) (.t 72)),oM 14 73]
def q5_14 : LReg := rG [oM 74 14,oM 75 15,oM 76 3,oM 77 15,oO 78 (iX 1 76 77),oO 79 (lV 1 78),oO 80 (.build [.int .i64 0,.int .i64 0,.int .i64 0,.int .i64 0] [(0,1,(kI 2)),(1,1,(.t 75)),(3,1,(.t 79))]),oO 81 (.mkSlice 66 4 1 [.int .i64 0,.int .i64 0,.int .i64 0,.int .i64 0] [(0,(.t 80))]),oO 82 (.append 66 4 32 (.t 74) (.t 81)),oM 14 82]
def q5_15 : LReg := rG [oM 61 15,oO 62 (bK .add 61 1),oM 15 62]
def q5_16 : LReg := rG [oM 83 3,oO 84 (lN 83),oM 85 2,oO 86 (bT .add 84 85),oM 16 86]
def q5_17 : LReg := rG [oM 87 3,oO 88 (lN 87),oM 17 88]
def q5_18 : LReg := rG [oM 89 17,oM 90 16,oO 91 (bT .lss 89 90)]
def q5_19 : LReg := rG [oM 94 14,oM 95 17,oO 96 (.build [.int .i64 0,.int .i64 0,.int .i64 0,.int .i64 0] [(0,1,(kI 1)),(1,1,(.t 95))]),oO 97 (.mkSlice 66 4 1 [.int .i64 0,.int .i64 0,.int .i64 0,.int .i64 0] [(0,(.t 96))]),oO 98 (.append 66 4 32 (.t 94) (.t 97)),oM 14 98]
def q5_20 : LReg := rG [oM 99 14,oM 100 17,oM 101 13,oO 102 (.build [.int .i64 0,.int .i64 0,.int .i64 0,.int .i64 0] [(0,1,(kI 2)),(1,1,(.t 100)),(3,1,(.t 101))]),oO 103 (.mkSlice 66 4 1 [.int .i64 0,.int .i64 0,.int .i64 0,.int .i64 0] [(0,(.t 102))]),oO 104 (.append 66 4 32 (.t 99) (.t 103)),oM 14 104]
def q5_21 : LReg := rG [oM 92 17,oO 93 (bK .add 92 1),oM 17 93]
def q5_22 : LReg := rG [oM 106 16,oM 107 2,oM 108 14,oO 109 (.call 27 [(kI 1),(.t 106),(.t 107),(.t 108)]),oM 105 109,oO 110 (eX 0 105),oO 111 (eX 1 105),oO 19 (.alloc 31 2 [.int .i64 0,.int .i64 0]),oM 18 110,oX (sT 2 19 111)]
def q5_23 : LReg := rG [oO 112 (fA 0 12),oO 113 (lV 1 112),oO 114 (bK .eql 113 0),oM 115 114,oT 116 115 (fA 0 19),oT 117 115 (lV 1 116),oT 118 115 (bK .eql 117 0),oO 119 (pK 115 118 (kB false)),oM 120 119,oT 121 120 (.mv (.t 18)),oT 122 120 (.mv (.t 13)),oT 123 120 (.mkSlice 3 1 1 [.int .i64 0] [(0,(.t 122))]),oT 124 120 (cA 28 [121,123]),oO 125 (pK 120 124 (kB false)),oM 8 125]
def Tryz.l_top_TopHonestReplaysDecide : LCode := (.seq (.reg q5_0) (.seq (.seq (.reg q5_1) (.cond (.t 21) (.seq (.reg q5_2) .ret) .skip)) (.seq (.reg q5_3) (.seq (.seq (.reg q5_4) (.cond (.t 41) (.seq (.reg q5_5) .ret) .skip)) (.seq (.reg q5_6) (.seq (.reg q5_7) (.seq (.reg q5_8) (.seq (.seq (.reg q5_9) (.block 0 (.loop (.seq (.seq (.reg q5_10) (.cond (.t 60) .skip (.exit 0))) (.seq (.block 1 (.seq (.seq (.reg q5_11) (.cond (.t 68) (.seq (.reg q5_12) .ret) .skip)) (.seq (.reg q5_13) (.reg q5_14)))) (.reg q5_15)))))) (.seq (.reg q5_16) (.seq (.seq (.reg q5_17) (.block 2 (.loop (.seq (.seq (.reg q5_18) (.cond (.t 91) .skip (.exit 2))) (.seq (.block 3 (.seq (.reg q5_19) (.reg q5_20))) (.reg q5_21)))))) (.seq (.reg q5_22) (.seq (.reg q5_23) .ret))))))))))))
theorem Tryz.c_top_TopHonestReplaysDecide : fnComp Tryz.prog 5 = some (126, Tryz.l_top_TopHonestReplaysDecide,[.t 8]) := by kernel_rfl
end Go.Proofs.YtlkknmhhefjmjaaGreatDoor
