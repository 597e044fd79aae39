/- The code of the functions, as the evaluator reads it. Laid by a program (wip/gen/dec.py). -/
import Derived.Test.YtlkknmhhefjmjaaGreatDoorProg
import Derived.Test.YtlkknmhhefjmjaaGreatDoorPwFam
import Derived.KernelRfl
namespace Go.Proofs.YtlkknmhhefjmjaaGreatDoor
open Go.PW Go
theorem hm : Tryz.prog.follows .mixedOrders = true := by kernel_rfl
def Tryz.r0_0 : LReg := ⟨[⟨some 4,none,.mv (.c (.int .i64 0))⟩],false,[]⟩
def Tryz.r0_1 : LReg := ⟨[⟨some 5,none,.mv (.c (.int .i64 0))⟩],false,[]⟩
def Tryz.r0_2 : LReg := ⟨[⟨some 6,none,.mv (.t 1)⟩,⟨some 7,none,.bin .gtr (.t 6) (.c (.int .i64 0))⟩],false,[]⟩
def Tryz.r0_3 : LReg := ⟨[⟨some 10,none,.mv (.t 1)⟩,⟨some 11,none,.bin .and (.t 10) (.c (.int .i64 1))⟩,⟨some 12,none,.bin .eql (.t 11) (.c (.int .i64 1))⟩],false,[]⟩
def Tryz.r0_4 : LReg := ⟨[⟨some 13,none,.mv (.t 5)⟩,⟨some 14,none,.mv (.t 0)⟩,⟨some 15,none,.bin .add (.t 13) (.t 14)⟩,⟨some 16,none,.bin .rem (.t 15) (.c (.int .i64 2305843009213693951))⟩,⟨some 5,none,.mv (.t 16)⟩],false,[]⟩
def Tryz.r0_5 : LReg := ⟨[⟨some 17,none,.mv (.t 0)⟩,⟨some 18,none,.bin .mul (.c (.int .i64 2)) (.t 17)⟩,⟨some 19,none,.bin .rem (.t 18) (.c (.int .i64 2305843009213693951))⟩,⟨some 0,none,.mv (.t 19)⟩],false,[]⟩
def Tryz.r0_6 : LReg := ⟨[⟨some 8,none,.mv (.t 1)⟩,⟨some 9,none,.bin .shr (.t 8) (.c (.int .u64 1))⟩,⟨some 1,none,.mv (.t 9)⟩],false,[]⟩
def Tryz.r0_7 : LReg := ⟨[⟨some 20,none,.mv (.t 5)⟩,⟨some 4,none,.mv (.t 20)⟩],false,[]⟩
def Tryz.l_digest_mul : LCode := (.seq (.reg Tryz.r0_0) (.seq (.reg Tryz.r0_1) (.seq (.block 0 (.loop (.seq (.seq (.reg Tryz.r0_2) (.cond (.t 7) .skip (.exit 0))) (.seq (.block 1 (.seq (.seq (.reg Tryz.r0_3) (.cond (.t 12) (.reg Tryz.r0_4) .skip)) (.reg Tryz.r0_5))) (.reg Tryz.r0_6))))) (.seq (.reg Tryz.r0_7) .ret))))
theorem Tryz.c_digest_mul : fnComp Tryz.prog 153 = some (21, Tryz.l_digest_mul,[.t 4]) := by kernel_rfl
def Tryz.r1_0 : LReg := ⟨[⟨some 2,none,.box 149 2 (.t 0)⟩,⟨some 4,none,.mv (.c (.int .i64 0))⟩],false,[]⟩
def Tryz.r1_1 : LReg := ⟨[⟨some 5,none,.idxA 2 1 (.t 2) (.c (.int .i64 0))⟩,⟨some 6,none,.load 1 false (.t 5)⟩,⟨some 7,none,.mv (.t 1)⟩,⟨some 8,none,.call 153 [(.t 6),(.t 7)]⟩,⟨some 9,none,.idxA 2 1 (.t 2) (.c (.int .i64 1))⟩,⟨some 10,none,.load 1 false (.t 9)⟩,⟨some 11,none,.bin .add (.t 8) (.t 10)⟩,⟨some 12,none,.bin .rem (.t 11) (.c (.int .i64 2305843009213693951))⟩,⟨some 4,none,.mv (.t 12)⟩],true,[(0,4),(1,4),(3,4),(0,5),(1,5),(3,5)]⟩
def Tryz.l_digest_next : LCode := (.seq (.reg Tryz.r1_0) (.seq (.reg Tryz.r1_1) .ret))
theorem Tryz.c_digest_next : fnComp Tryz.prog 117 = some (13, Tryz.l_digest_next,[.t 4]) := by kernel_rfl
def Tryz.r2_0 : LReg := ⟨[⟨some 2,none,.mv (.c (.int .i64 0))⟩,⟨some 3,none,.alloc 31 2 [.int .i64 0,.int .i64 0]⟩],false,[]⟩
def Tryz.r2_1 : LReg := ⟨[⟨some 7,none,.mv (.t 0)⟩,⟨some 8,none,.len (.t 7)⟩,⟨some 9,none,.bin .gtr (.t 8) (.c (.int .i64 4096))⟩],false,[]⟩
def Tryz.r2_2 : LReg := ⟨[⟨some 10,none,.build [.int .i64 0,.int .i64 0] [(0,1,(.c (.int .i64 2)))]⟩,⟨some 2,none,.mv (.c (.int .i64 0))⟩,⟨none,none,.store 2 (.t 3) (.t 10)⟩],false,[]⟩
def Tryz.r2_3 : LReg := ⟨[⟨some 4,none,.mv (.c (.int .i64 1))⟩],false,[]⟩
def Tryz.r2_4 : LReg := ⟨[⟨some 11,none,.mv (.t 0)⟩,⟨some 12,none,.len (.t 11)⟩,⟨some 13,none,.mv (.c (.int .i64 0))⟩],false,[]⟩
def Tryz.r2_5 : LReg := ⟨[⟨some 14,none,.bin .lss (.t 13) (.t 12)⟩],false,[]⟩
def Tryz.r2_6 : LReg := ⟨[⟨some 15,none,.idx 1 (.t 11) (.t 13)⟩,⟨some 16,none,.load 1 false (.t 15)⟩,⟨some 6,none,.mv (.t 16)⟩],false,[]⟩
def Tryz.r2_7 : LReg := ⟨[⟨some 17,none,.mv (.t 4)⟩,⟨some 18,none,.mv (.t 6)⟩,⟨some 19,none,.conv .i64 (.t 18)⟩,⟨some 20,none,.bin .add (.t 19) (.c (.int .i64 1))⟩,⟨some 21,none,.build [.int .i64 0,.int .i64 0] [(0,1,(.t 17)),(1,1,(.t 20))]⟩,⟨some 22,none,.call 117 [(.t 21),(.c (.int .i64 257))]⟩,⟨some 4,none,.mv (.t 22)⟩],false,[]⟩
def Tryz.r2_8 : LReg := ⟨[⟨some 23,none,.bin .add (.t 13) (.c (.int .i64 1))⟩,⟨some 13,none,.mv (.t 23)⟩],false,[]⟩
def Tryz.r2_9 : LReg := ⟨[⟨some 24,none,.mv (.t 4)⟩,⟨some 25,none,.build [.int .i64 0,.int .i64 0] []⟩,⟨some 2,none,.mv (.t 24)⟩,⟨none,none,.store 2 (.t 3) (.t 25)⟩],false,[]⟩
def Tryz.l_digest_Of : LCode := (.seq (.reg Tryz.r2_0) (.seq (.seq (.reg Tryz.r2_1) (.cond (.t 9) (.seq (.reg Tryz.r2_2) .ret) .skip)) (.seq (.reg Tryz.r2_3) (.seq (.seq (.reg Tryz.r2_4) (.block 0 (.loop (.seq (.reg Tryz.r2_5) (.seq (.cond (.t 14) .skip (.exit 0)) (.seq (.block 1 (.seq (.reg Tryz.r2_6) (.reg Tryz.r2_7))) (.reg Tryz.r2_8))))))) (.seq (.reg Tryz.r2_9) .ret)))))
theorem Tryz.c_digest_Of : fnComp Tryz.prog 65 = some (26, Tryz.l_digest_Of,[.t 2,.cell 3 2 true]) := by kernel_rfl
def Tryz.r3_0 : LReg := ⟨[⟨some 4,none,.mv (.c (.int .i64 0))⟩],false,[]⟩
def Tryz.r3_1 : LReg := ⟨[⟨some 5,none,.mv (.t 0)⟩,⟨some 6,none,.mv (.t 1)⟩,⟨some 7,none,.build [.int .i64 0,.int .i64 0] [(0,1,(.t 6)),(1,1,(.c (.int .i64 7)))]⟩,⟨some 8,none,.call 117 [(.t 7),(.c (.int .i64 31))]⟩,⟨some 9,none,.build [.int .i64 0,.int .i64 0] [(0,1,(.t 5)),(1,1,(.t 8))]⟩,⟨some 10,none,.call 117 [(.t 9),(.c (.int .i64 1000003))]⟩,⟨some 4,none,.mv (.t 10)⟩],false,[]⟩
def Tryz.l_digest_pair : LCode := (.seq (.reg Tryz.r3_0) (.seq (.reg Tryz.r3_1) .ret))
theorem Tryz.c_digest_pair : fnComp Tryz.prog 75 = some (11, Tryz.l_digest_pair,[.t 4]) := by kernel_rfl
def Tryz.r4_0 : LReg := ⟨[⟨some 2,none,.mv (.c (.int .i64 0))⟩,⟨some 3,none,.alloc 31 2 [.int .i64 0,.int .i64 0]⟩],false,[]⟩
def Tryz.r4_1 : LReg := ⟨[⟨some 9,none,.mv (.t 0)⟩,⟨some 10,none,.len (.t 9)⟩,⟨some 11,none,.bin .gtr (.t 10) (.c (.int .i64 120))⟩],false,[]⟩
def Tryz.r4_2 : LReg := ⟨[⟨some 12,none,.build [.int .i64 0,.int .i64 0] [(0,1,(.c (.int .i64 2))),(1,1,(.c (.int .i64 (-1))))]⟩,⟨some 2,none,.mv (.c (.int .i64 0))⟩,⟨none,none,.store 2 (.t 3) (.t 12)⟩],false,[]⟩
def Tryz.r4_3 : LReg := ⟨[⟨some 4,none,.mv (.c (.int .i64 2))⟩],false,[]⟩
def Tryz.r4_4 : LReg := ⟨[⟨some 13,none,.mv (.t 0)⟩,⟨some 14,none,.len (.t 13)⟩,⟨some 15,none,.mv (.c (.int .i64 0))⟩],false,[]⟩
def Tryz.r4_5 : LReg := ⟨[⟨some 16,none,.bin .lss (.t 15) (.t 14)⟩],false,[]⟩
def Tryz.r4_6 : LReg := ⟨[⟨some 17,none,.mv (.t 15)⟩,⟨some 18,none,.idx 1 (.t 13) (.t 15)⟩,⟨some 19,none,.load 1 false (.t 18)⟩,⟨some 5,none,.mv (.t 17)⟩,⟨some 6,none,.mv (.t 19)⟩],false,[]⟩
def Tryz.r4_7 : LReg := ⟨[⟨some 21,none,.mv (.t 6)⟩,⟨some 22,none,.toBytes 5 (.t 21)⟩,⟨some 23,none,.call 65 [(.t 22)]⟩,⟨some 20,none,.mv (.t 23)⟩,⟨some 24,none,.extract 0 (.t 20)⟩,⟨some 25,none,.extract 1 (.t 20)⟩,⟨some 8,none,.alloc 31 2 [.int .i64 0,.int .i64 0]⟩,⟨some 7,none,.mv (.t 24)⟩,⟨none,none,.store 2 (.t 8) (.t 25)⟩],false,[]⟩
def Tryz.r4_8 : LReg := ⟨[⟨some 26,none,.load 2 true (.t 8)⟩,⟨some 27,none,.build [.int .i64 0,.int .i64 0] []⟩,⟨some 28,none,.eqs true [0,0] (.t 26) (.t 27)⟩],false,[]⟩
def Tryz.r4_9 : LReg := ⟨[⟨some 29,none,.fieldAddr 0 (.t 8)⟩,⟨some 30,none,.load 1 false (.t 29)⟩,⟨some 31,none,.mv (.t 5)⟩,⟨some 32,none,.build [.int .i64 0,.int .i64 0] [(0,1,(.t 30)),(1,1,(.t 31))]⟩,⟨some 2,none,.mv (.c (.int .i64 0))⟩,⟨none,none,.store 2 (.t 3) (.t 32)⟩],true,[]⟩
def Tryz.r4_10 : LReg := ⟨[⟨some 33,none,.mv (.t 4)⟩,⟨some 34,none,.mv (.t 7)⟩,⟨some 35,none,.call 75 [(.t 33),(.t 34)]⟩,⟨some 4,none,.mv (.t 35)⟩],false,[]⟩
def Tryz.r4_11 : LReg := ⟨[⟨some 36,none,.bin .add (.t 15) (.c (.int .i64 1))⟩,⟨some 15,none,.mv (.t 36)⟩],false,[]⟩
def Tryz.r4_12 : LReg := ⟨[⟨some 37,none,.mv (.t 4)⟩,⟨some 38,none,.build [.int .i64 0,.int .i64 0] []⟩,⟨some 2,none,.mv (.t 37)⟩,⟨none,none,.store 2 (.t 3) (.t 38)⟩],false,[]⟩
def Tryz.l_digest_Strings : LCode := (.seq (.reg Tryz.r4_0) (.seq (.seq (.reg Tryz.r4_1) (.cond (.t 11) (.seq (.reg Tryz.r4_2) .ret) .skip)) (.seq (.reg Tryz.r4_3) (.seq (.seq (.reg Tryz.r4_4) (.block 0 (.loop (.seq (.reg Tryz.r4_5) (.seq (.cond (.t 16) .skip (.exit 0)) (.seq (.block 1 (.seq (.reg Tryz.r4_6) (.seq (.reg Tryz.r4_7) (.seq (.seq (.reg Tryz.r4_8) (.cond (.t 28) (.seq (.reg Tryz.r4_9) .ret) .skip)) (.reg Tryz.r4_10))))) (.reg Tryz.r4_11))))))) (.seq (.reg Tryz.r4_12) .ret)))))
theorem Tryz.c_digest_Strings : fnComp Tryz.prog 26 = some (39, Tryz.l_digest_Strings,[.t 2,.cell 3 2 true]) := by kernel_rfl
def Tryz.r5_0 : LReg := ⟨[⟨some 4,none,.mv (.c (.bool false))⟩],false,[]⟩
def Tryz.r5_1 : LReg := ⟨[⟨some 5,none,.mv (.t 0)⟩,⟨some 6,none,.slen (.t 5)⟩,⟨some 7,none,.mv (.t 1)⟩,⟨some 8,none,.slen (.t 7)⟩,⟨some 9,none,.bin .geq (.t 6) (.t 8)⟩,⟨some 10,none,.mv (.t 9)⟩,⟨some 11,some (10,true),.mv (.t 0)⟩,⟨some 12,some (10,true),.mv (.t 1)⟩,⟨some 13,some (10,true),.slen (.t 12)⟩,⟨some 14,some (10,true),.sslice (.t 11) none (some (.t 13))⟩,⟨some 15,some (10,true),.mv (.t 1)⟩,⟨some 16,some (10,true),.bin .eql (.t 14) (.t 15)⟩,⟨some 17,none,.pick (.t 10) (.t 16) (.c (.bool false))⟩,⟨some 4,none,.mv (.t 17)⟩],false,[]⟩
def Tryz.l_internal_stringslite_HasPrefix : LCode := (.seq (.reg Tryz.r5_0) (.seq (.reg Tryz.r5_1) .ret))
theorem Tryz.c_internal_stringslite_HasPrefix : fnComp Tryz.prog 185 = some (18, Tryz.l_internal_stringslite_HasPrefix,[.t 4]) := by kernel_rfl
def Tryz.r6_0 : LReg := ⟨[⟨some 4,none,.mv (.c (.bool false))⟩],false,[]⟩
def Tryz.r6_1 : LReg := ⟨[⟨some 5,none,.mv (.t 0)⟩,⟨some 6,none,.mv (.t 1)⟩,⟨some 7,none,.call 185 [(.t 5),(.t 6)]⟩,⟨some 4,none,.mv (.t 7)⟩],false,[]⟩
def Tryz.l_strings_HasPrefix : LCode := (.seq (.reg Tryz.r6_0) (.seq (.reg Tryz.r6_1) .ret))
theorem Tryz.c_strings_HasPrefix : fnComp Tryz.prog 172 = some (8, Tryz.l_strings_HasPrefix,[.t 4]) := by kernel_rfl
def Tryz.r7_0 : LReg := ⟨[⟨some 4,none,.mv (.c (.bool false))⟩],false,[]⟩
def Tryz.r7_1 : LReg := ⟨[⟨some 5,none,.mv (.t 0)⟩,⟨some 6,none,.mv (.t 1)⟩,⟨some 7,none,.bin .eql (.t 5) (.t 6)⟩,⟨some 8,none,.mv (.t 7)⟩,⟨some 9,some (8,false),.mv (.t 0)⟩,⟨some 10,some (8,false),.mv (.t 1)⟩,⟨some 11,some (8,false),.bin .add (.t 10) (.c (.str [47]))⟩,⟨some 12,some (8,false),.call 172 [(.t 9),(.t 11)]⟩,⟨some 13,none,.pick (.t 8) (.c (.bool true)) (.t 12)⟩,⟨some 14,none,.mv (.t 13)⟩,⟨some 15,some (14,false),.mv (.t 1)⟩,⟨some 16,some (14,false),.mv (.t 0)⟩,⟨some 17,some (14,false),.bin .add (.t 16) (.c (.str [47]))⟩,⟨some 18,some (14,false),.call 172 [(.t 15),(.t 17)]⟩,⟨some 19,none,.pick (.t 14) (.c (.bool true)) (.t 18)⟩,⟨some 4,none,.mv (.t 19)⟩],false,[]⟩
def Tryz.l_treepatch_Related : LCode := (.seq (.reg Tryz.r7_0) (.seq (.reg Tryz.r7_1) .ret))
theorem Tryz.c_treepatch_Related : fnComp Tryz.prog 149 = some (20, Tryz.l_treepatch_Related,[.t 4]) := by kernel_rfl
def Tryz.r8_0 : LReg := ⟨[⟨some 6,none,.mv (.c (.bool false))⟩],false,[]⟩
def Tryz.r8_1 : LReg := ⟨[⟨some 9,none,.mv (.t 0)⟩,⟨some 10,none,.len (.t 9)⟩,⟨some 11,none,.mv (.c (.int .i64 0))⟩],false,[]⟩
def Tryz.r8_2 : LReg := ⟨[⟨some 12,none,.bin .lss (.t 11) (.t 10)⟩],false,[]⟩
def Tryz.r8_3 : LReg := ⟨[⟨some 13,none,.mv (.t 11)⟩,⟨some 14,none,.idx 2 (.t 9) (.t 11)⟩,⟨some 15,none,.load 2 true (.t 14)⟩,⟨some 8,none,.alloc 37 2 [.str [],.nils]⟩,⟨some 7,none,.mv (.t 13)⟩,⟨none,none,.store 2 (.t 8) (.t 15)⟩],false,[]⟩
def Tryz.r8_4 : LReg := ⟨[⟨some 16,none,.mv (.t 7)⟩,⟨some 17,none,.mv (.t 2)⟩,⟨some 18,none,.bin .neq (.t 16) (.t 17)⟩,⟨some 19,none,.mv (.t 18)⟩,⟨some 20,some (19,true),.fieldAddr 0 (.t 8)⟩,⟨some 21,some (19,true),.load 1 false (.t 20)⟩,⟨some 22,some (19,true),.mv (.t 1)⟩,⟨some 23,some (19,true),.call 149 [(.t 21),(.t 22)]⟩,⟨some 24,none,.pick (.t 19) (.t 23) (.c (.bool false))⟩],false,[]⟩
def Tryz.r8_5 : LReg := ⟨[⟨some 6,none,.mv (.c (.bool true))⟩],false,[]⟩
def Tryz.r8_6 : LReg := ⟨[⟨some 25,none,.bin .add (.t 11) (.c (.int .i64 1))⟩,⟨some 11,none,.mv (.t 25)⟩],false,[]⟩
def Tryz.r8_7 : LReg := ⟨[⟨some 6,none,.mv (.c (.bool false))⟩],false,[]⟩
def Tryz.l_treepatch_Clash : LCode := (.seq (.reg Tryz.r8_0) (.seq (.seq (.reg Tryz.r8_1) (.block 0 (.loop (.seq (.reg Tryz.r8_2) (.seq (.cond (.t 12) .skip (.exit 0)) (.seq (.block 1 (.seq (.reg Tryz.r8_3) (.seq (.reg Tryz.r8_4) (.cond (.t 24) (.seq (.reg Tryz.r8_5) .ret) .skip)))) (.reg Tryz.r8_6))))))) (.seq (.reg Tryz.r8_7) .ret)))
theorem Tryz.c_treepatch_Clash : fnComp Tryz.prog 112 = some (26, Tryz.l_treepatch_Clash,[.t 6]) := by kernel_rfl
def Tryz.r9_0 : LReg := ⟨[⟨some 2,none,.alloc 31 2 [.int .i64 0,.int .i64 0]⟩],false,[]⟩
def Tryz.r9_1 : LReg := ⟨[⟨some 5,none,.mv (.t 0)⟩,⟨some 6,none,.len (.t 5)⟩,⟨some 7,none,.bin .gtr (.t 6) (.c (.int .i64 120))⟩],false,[]⟩
def Tryz.r9_2 : LReg := ⟨[⟨some 8,none,.build [.int .i64 0,.int .i64 0] [(0,1,(.c (.int .i64 2))),(1,1,(.c (.int .i64 (-1))))]⟩,⟨none,none,.store 2 (.t 2) (.t 8)⟩],false,[]⟩
def Tryz.r9_3 : LReg := ⟨[⟨some 9,none,.mv (.t 0)⟩,⟨some 10,none,.len (.t 9)⟩,⟨some 11,none,.mv (.c (.int .i64 0))⟩],false,[]⟩
def Tryz.r9_4 : LReg := ⟨[⟨some 12,none,.bin .lss (.t 11) (.t 10)⟩],false,[]⟩
def Tryz.r9_5 : LReg := ⟨[⟨some 13,none,.mv (.t 11)⟩,⟨some 14,none,.idx 1 (.t 9) (.t 11)⟩,⟨some 15,none,.load 1 false (.t 14)⟩,⟨some 3,none,.mv (.t 13)⟩,⟨some 4,none,.mv (.t 15)⟩],false,[]⟩
def Tryz.r9_6 : LReg := ⟨[⟨some 16,none,.mv (.t 4)⟩,⟨some 17,none,.slen (.t 16)⟩,⟨some 18,none,.bin .gtr (.t 17) (.c (.int .i64 80))⟩],false,[]⟩
def Tryz.r9_7 : LReg := ⟨[⟨some 19,none,.mv (.t 3)⟩,⟨some 20,none,.build [.int .i64 0,.int .i64 0] [(0,1,(.c (.int .i64 2))),(1,1,(.t 19))]⟩,⟨none,none,.store 2 (.t 2) (.t 20)⟩],false,[]⟩
def Tryz.r9_8 : LReg := ⟨[⟨some 21,none,.mv (.t 4)⟩,⟨some 22,none,.call 177 [(.t 21),(.c (.int .u8 10))]⟩,⟨some 23,none,.bin .geq (.t 22) (.c (.int .i64 0))⟩],false,[]⟩
def Tryz.r9_9 : LReg := ⟨[⟨some 24,none,.mv (.t 3)⟩,⟨some 25,none,.build [.int .i64 0,.int .i64 0] [(0,1,(.c (.int .i64 5))),(1,1,(.t 24))]⟩,⟨none,none,.store 2 (.t 2) (.t 25)⟩],false,[]⟩
def Tryz.r9_10 : LReg := ⟨[⟨some 26,none,.bin .add (.t 11) (.c (.int .i64 1))⟩,⟨some 11,none,.mv (.t 26)⟩],false,[]⟩
def Tryz.r9_11 : LReg := ⟨[⟨some 27,none,.build [.int .i64 0,.int .i64 0] []⟩,⟨none,none,.store 2 (.t 2) (.t 27)⟩],false,[]⟩
def Tryz.l_lines_Validate : LCode := (.seq (.reg Tryz.r9_0) (.seq (.seq (.reg Tryz.r9_1) (.cond (.t 7) (.seq (.reg Tryz.r9_2) .ret) .skip)) (.seq (.seq (.reg Tryz.r9_3) (.block 0 (.loop (.seq (.reg Tryz.r9_4) (.seq (.cond (.t 12) .skip (.exit 0)) (.seq (.block 1 (.seq (.reg Tryz.r9_5) (.seq (.seq (.reg Tryz.r9_6) (.cond (.t 18) (.seq (.reg Tryz.r9_7) .ret) .skip)) (.seq (.reg Tryz.r9_8) (.cond (.t 23) (.seq (.reg Tryz.r9_9) .ret) .skip))))) (.reg Tryz.r9_10))))))) (.seq (.reg Tryz.r9_11) .ret))))
theorem Tryz.c_lines_Validate : fnComp Tryz.prog 156 = some (28, Tryz.l_lines_Validate,[.cell 2 2 true]) := by kernel_rfl
def Tryz.r10_0 : LReg := ⟨[⟨some 4,none,.alloc 31 2 [.int .i64 0,.int .i64 0]⟩],false,[]⟩
def Tryz.r10_1 : LReg := ⟨[⟨some 6,none,.mv (.t 0)⟩,⟨some 7,none,.call 156 [(.t 6)]⟩,⟨some 5,none,.alloc 31 2 [.int .i64 0,.int .i64 0]⟩,⟨none,none,.store 2 (.t 5) (.t 7)⟩],false,[]⟩
def Tryz.r10_2 : LReg := ⟨[⟨some 8,none,.load 2 true (.t 5)⟩,⟨some 9,none,.build [.int .i64 0,.int .i64 0] []⟩,⟨some 10,none,.eqs true [0,0] (.t 8) (.t 9)⟩],false,[]⟩
def Tryz.r10_3 : LReg := ⟨[⟨some 11,none,.fieldAddr 0 (.t 5)⟩,⟨some 12,none,.load 1 false (.t 11)⟩,⟨some 13,none,.mv (.t 1)⟩,⟨some 14,none,.build [.int .i64 0,.int .i64 0] [(0,1,(.t 12)),(1,1,(.t 13))]⟩,⟨none,none,.store 2 (.t 4) (.t 14)⟩],false,[]⟩
def Tryz.r10_4 : LReg := ⟨[⟨some 15,none,.build [.int .i64 0,.int .i64 0] []⟩,⟨none,none,.store 2 (.t 4) (.t 15)⟩],false,[]⟩
def Tryz.l_lines_Second : LCode := (.seq (.reg Tryz.r10_0) (.seq (.seq (.reg Tryz.r10_1) (.seq (.reg Tryz.r10_2) (.cond (.t 10) (.seq (.reg Tryz.r10_3) .ret) .skip))) (.seq (.reg Tryz.r10_4) .ret)))
theorem Tryz.c_lines_Second : fnComp Tryz.prog 122 = some (16, Tryz.l_lines_Second,[.cell 4 2 true]) := by kernel_rfl
def Tryz.r11_0 : LReg := ⟨[⟨some 1,none,.box 25 1 (.t 0)⟩,⟨some 2,none,.alloc 31 2 [.int .i64 0,.int .i64 0]⟩],false,[]⟩
def Tryz.r11_1 : LReg := ⟨[⟨some 6,none,.fieldAddr 0 (.t 1)⟩,⟨some 7,none,.load 1 false (.t 6)⟩,⟨some 8,none,.len (.t 7)⟩,⟨some 9,none,.bin .gtr (.t 8) (.c (.int .i64 24))⟩],false,[]⟩
def Tryz.r11_2 : LReg := ⟨[⟨some 10,none,.build [.int .i64 0,.int .i64 0] [(0,1,(.c (.int .i64 2))),(1,1,(.c (.int .i64 (-1))))]⟩,⟨none,none,.store 2 (.t 2) (.t 10)⟩],false,[]⟩
def Tryz.r11_3 : LReg := ⟨[⟨some 11,none,.fieldAddr 0 (.t 1)⟩,⟨some 12,none,.load 1 false (.t 11)⟩,⟨some 13,none,.len (.t 12)⟩,⟨some 14,none,.mv (.c (.int .i64 0))⟩],false,[]⟩
def Tryz.r11_4 : LReg := ⟨[⟨some 15,none,.bin .lss (.t 14) (.t 13)⟩],false,[]⟩
def Tryz.r11_5 : LReg := ⟨[⟨some 16,none,.mv (.t 14)⟩,⟨some 17,none,.idx 2 (.t 12) (.t 14)⟩,⟨some 18,none,.load 2 true (.t 17)⟩,⟨some 4,none,.alloc 37 2 [.str [],.nils]⟩,⟨some 3,none,.mv (.t 16)⟩,⟨none,none,.store 2 (.t 4) (.t 18)⟩],false,[]⟩
def Tryz.r11_6 : LReg := ⟨[⟨some 20,none,.fieldAddr 0 (.t 4)⟩,⟨some 21,none,.load 1 false (.t 20)⟩,⟨some 22,none,.call 115 [(.t 21)]⟩,⟨some 23,none,.un .not (.t 22)⟩,⟨some 19,none,.mv (.t 23)⟩],false,[]⟩
def Tryz.r11_7 : LReg := ⟨[⟨some 24,none,.mv (.t 3)⟩,⟨some 25,none,.build [.int .i64 0,.int .i64 0] [(0,1,(.c (.int .i64 12))),(1,1,(.t 24))]⟩,⟨none,none,.store 2 (.t 2) (.t 25)⟩],false,[]⟩
def Tryz.r11_8 : LReg := ⟨[⟨some 27,none,.mv (.t 3)⟩,⟨some 28,none,.bin .gtr (.t 27) (.c (.int .i64 0))⟩,⟨some 29,none,.mv (.t 28)⟩,⟨some 30,some (29,true),.fieldAddr 0 (.t 4)⟩,⟨some 31,some (29,true),.load 1 false (.t 30)⟩,⟨some 32,some (29,true),.fieldAddr 0 (.t 1)⟩,⟨some 33,some (29,true),.load 1 false (.t 32)⟩,⟨some 34,some (29,true),.mv (.t 3)⟩,⟨some 35,some (29,true),.bin .sub (.t 34) (.c (.int .i64 1))⟩,⟨some 36,some (29,true),.idx 2 (.t 33) (.t 35)⟩,⟨some 37,some (29,true),.fieldAddr 0 (.t 36)⟩,⟨some 38,some (29,true),.load 1 false (.t 37)⟩,⟨some 39,some (29,true),.bin .leq (.t 31) (.t 38)⟩,⟨some 40,none,.pick (.t 29) (.t 39) (.c (.bool false))⟩,⟨some 26,none,.mv (.t 40)⟩],true,[(3,5),(4,5),(3,6),(4,6),(3,9),(4,9),(3,10),(4,10),(3,11),(4,11)]⟩
def Tryz.r11_9 : LReg := ⟨[⟨some 41,none,.mv (.t 3)⟩,⟨some 42,none,.build [.int .i64 0,.int .i64 0] [(0,1,(.c (.int .i64 5))),(1,1,(.t 41))]⟩,⟨none,none,.store 2 (.t 2) (.t 42)⟩],false,[]⟩
def Tryz.r11_10 : LReg := ⟨[⟨some 44,none,.fieldAddr 0 (.t 1)⟩,⟨some 45,none,.load 1 false (.t 44)⟩,⟨some 46,none,.mv (.t 3)⟩,⟨some 47,none,.slice 2 (.t 45) none (some (.t 46))⟩,⟨some 48,none,.fieldAddr 0 (.t 4)⟩,⟨some 49,none,.load 1 false (.t 48)⟩,⟨some 50,none,.call 112 [(.t 47),(.t 49),(.c (.int .i64 (-1)))]⟩,⟨some 43,none,.mv (.t 50)⟩],true,[(0,4),(1,4),(3,4),(0,5),(1,5),(3,5)]⟩
def Tryz.r11_11 : LReg := ⟨[⟨some 51,none,.mv (.t 3)⟩,⟨some 52,none,.build [.int .i64 0,.int .i64 0] [(0,1,(.c (.int .i64 7))),(1,1,(.t 51))]⟩,⟨none,none,.store 2 (.t 2) (.t 52)⟩],false,[]⟩
def Tryz.r11_12 : LReg := ⟨[⟨some 53,none,.fieldAddr 1 (.t 4)⟩,⟨some 54,none,.load 1 false (.t 53)⟩,⟨some 55,none,.mv (.t 3)⟩,⟨some 56,none,.call 122 [(.t 54),(.t 55)]⟩,⟨some 5,none,.alloc 31 2 [.int .i64 0,.int .i64 0]⟩,⟨none,none,.store 2 (.t 5) (.t 56)⟩],false,[]⟩
def Tryz.r11_13 : LReg := ⟨[⟨some 57,none,.load 2 true (.t 5)⟩,⟨some 58,none,.build [.int .i64 0,.int .i64 0] []⟩,⟨some 59,none,.eqs true [0,0] (.t 57) (.t 58)⟩],false,[]⟩
def Tryz.r11_14 : LReg := ⟨[⟨some 60,none,.load 2 true (.t 5)⟩,⟨none,none,.store 2 (.t 2) (.t 60)⟩],false,[]⟩
def Tryz.r11_15 : LReg := ⟨[⟨some 61,none,.bin .add (.t 14) (.c (.int .i64 1))⟩,⟨some 14,none,.mv (.t 61)⟩],false,[]⟩
def Tryz.r11_16 : LReg := ⟨[⟨some 62,none,.build [.int .i64 0,.int .i64 0] []⟩,⟨none,none,.store 2 (.t 2) (.t 62)⟩],false,[]⟩
def Tryz.l_treepatch_Validate : LCode := (.seq (.reg Tryz.r11_0) (.seq (.seq (.reg Tryz.r11_1) (.cond (.t 9) (.seq (.reg Tryz.r11_2) .ret) .skip)) (.seq (.seq (.reg Tryz.r11_3) (.block 0 (.loop (.seq (.reg Tryz.r11_4) (.seq (.cond (.t 15) .skip (.exit 0)) (.seq (.block 1 (.seq (.reg Tryz.r11_5) (.seq (.block 2 (.seq (.reg Tryz.r11_6) (.cond (.t 19) (.seq (.reg Tryz.r11_7) .ret) (.seq (.reg Tryz.r11_8) (.cond (.t 26) (.seq (.reg Tryz.r11_9) .ret) (.seq (.reg Tryz.r11_10) (.cond (.t 43) (.seq (.reg Tryz.r11_11) .ret) .skip))))))) (.seq (.reg Tryz.r11_12) (.seq (.reg Tryz.r11_13) (.cond (.t 59) (.seq (.reg Tryz.r11_14) .ret) .skip)))))) (.reg Tryz.r11_15))))))) (.seq (.reg Tryz.r11_16) .ret))))
theorem Tryz.c_treepatch_Validate : fnComp Tryz.prog 108 = some (63, Tryz.l_treepatch_Validate,[.cell 2 2 true]) := by kernel_rfl
def Tryz.r12_0 : LReg := ⟨[⟨some 2,none,.box 25 1 (.t 0)⟩,⟨some 4,none,.alloc 31 2 [.int .i64 0,.int .i64 0]⟩],false,[]⟩
def Tryz.r12_1 : LReg := ⟨[⟨some 6,none,.load 1 true (.t 2)⟩,⟨some 7,none,.call 108 [(.t 6)]⟩,⟨some 5,none,.alloc 31 2 [.int .i64 0,.int .i64 0]⟩,⟨none,none,.store 2 (.t 5) (.t 7)⟩],false,[]⟩
def Tryz.r12_2 : LReg := ⟨[⟨some 8,none,.load 2 true (.t 5)⟩,⟨some 9,none,.build [.int .i64 0,.int .i64 0] []⟩,⟨some 10,none,.eqs true [0,0] (.t 8) (.t 9)⟩],false,[]⟩
def Tryz.r12_3 : LReg := ⟨[⟨some 11,none,.fieldAddr 0 (.t 5)⟩,⟨some 12,none,.load 1 false (.t 11)⟩,⟨some 13,none,.mv (.t 1)⟩,⟨some 14,none,.build [.int .i64 0,.int .i64 0] [(0,1,(.t 12)),(1,1,(.t 13))]⟩,⟨none,none,.store 2 (.t 4) (.t 14)⟩],false,[]⟩
def Tryz.r12_4 : LReg := ⟨[⟨some 15,none,.build [.int .i64 0,.int .i64 0] []⟩,⟨none,none,.store 2 (.t 4) (.t 15)⟩],false,[]⟩
def Tryz.l_treepatch_Second : LCode := (.seq (.reg Tryz.r12_0) (.seq (.seq (.reg Tryz.r12_1) (.seq (.reg Tryz.r12_2) (.cond (.t 10) (.seq (.reg Tryz.r12_3) .ret) .skip))) (.seq (.reg Tryz.r12_4) .ret)))
theorem Tryz.c_treepatch_Second : fnComp Tryz.prog 55 = some (16, Tryz.l_treepatch_Second,[.cell 4 2 true]) := by kernel_rfl
def Tryz.r13_0 : LReg := ⟨[⟨some 1,none,.box 109 2 (.t 0)⟩,⟨some 2,none,.mv (.c (.int .i64 0))⟩],false,[]⟩
def Tryz.r13_1 : LReg := ⟨[⟨some 3,none,.fieldAddr 0 (.t 1)⟩,⟨some 4,none,.load 1 false (.t 3)⟩],false,[]⟩
def Tryz.r13_2 : LReg := ⟨[⟨some 6,none,.bin .eql (.t 4) (.c (.int .i64 1))⟩,⟨some 5,none,.mv (.t 6)⟩],false,[]⟩
def Tryz.r13_3 : LReg := ⟨[⟨some 7,none,.bin .eql (.t 4) (.c (.int .i64 2))⟩,⟨some 5,none,.mv (.t 7)⟩],false,[]⟩
def Tryz.r13_4 : LReg := ⟨[⟨some 8,none,.fieldAddr 1 (.t 1)⟩,⟨some 9,none,.load 1 false (.t 8)⟩,⟨some 10,none,.call 115 [(.t 9)]⟩,⟨some 11,none,.un .not (.t 10)⟩],false,[]⟩
def Tryz.r13_5 : LReg := ⟨[⟨some 2,none,.mv (.c (.int .i64 12))⟩],false,[]⟩
def Tryz.r13_6 : LReg := ⟨[⟨some 13,none,.bin .eql (.t 4) (.c (.int .i64 3))⟩,⟨some 12,none,.mv (.t 13)⟩],false,[]⟩
def Tryz.r13_7 : LReg := ⟨[⟨some 14,none,.fieldAddr 1 (.t 1)⟩,⟨some 15,none,.load 1 false (.t 14)⟩,⟨some 16,none,.mkSlice 9 1 1 [.str []] [(0,(.t 15))]⟩,⟨some 17,none,.call 156 [(.t 16)]⟩,⟨some 18,none,.field 0 1 false (.t 17)⟩,⟨some 2,none,.mv (.t 18)⟩],false,[]⟩
def Tryz.r13_8 : LReg := ⟨[⟨some 20,none,.bin .eql (.t 4) (.c (.int .i64 4))⟩,⟨some 19,none,.mv (.t 20)⟩],false,[]⟩
def Tryz.r13_9 : LReg := ⟨[⟨some 21,none,.bin .eql (.t 4) (.c (.int .i64 5))⟩,⟨some 19,none,.mv (.t 21)⟩],false,[]⟩
def Tryz.r13_10 : LReg := ⟨[⟨some 22,none,.fieldAddr 1 (.t 1)⟩,⟨some 23,none,.load 1 false (.t 22)⟩,⟨some 24,none,.bin .neq (.t 23) (.c (.str []))⟩],false,[]⟩
def Tryz.r13_11 : LReg := ⟨[⟨some 2,none,.mv (.c (.int .i64 5))⟩],false,[]⟩
def Tryz.r13_12 : LReg := ⟨[⟨some 2,none,.mv (.c (.int .i64 4))⟩],false,[]⟩
def Tryz.r13_13 : LReg := ⟨[⟨some 2,none,.mv (.c (.int .i64 0))⟩],false,[]⟩
def Tryz.l_sandbox_checkOp : LCode := (.seq (.reg Tryz.r13_0) (.seq (.seq (.reg Tryz.r13_1) (.block 0 (.seq (.seq (.reg Tryz.r13_2) (.cond (.t 5) .skip (.reg Tryz.r13_3))) (.cond (.t 5) (.seq (.reg Tryz.r13_4) (.cond (.t 11) (.seq (.reg Tryz.r13_5) .ret) .skip)) (.seq (.reg Tryz.r13_6) (.cond (.t 12) (.seq (.reg Tryz.r13_7) .ret) (.seq (.seq (.reg Tryz.r13_8) (.cond (.t 19) .skip (.reg Tryz.r13_9))) (.cond (.t 19) (.seq (.reg Tryz.r13_10) (.cond (.t 24) (.seq (.reg Tryz.r13_11) .ret) .skip)) (.seq (.reg Tryz.r13_12) .ret))))))))) (.seq (.reg Tryz.r13_13) .ret)))
theorem Tryz.c_sandbox_checkOp : fnComp Tryz.prog 145 = some (25, Tryz.l_sandbox_checkOp,[.t 2]) := by kernel_rfl
def Tryz.r14_0 : LReg := ⟨[⟨some 1,none,.box 53 3 (.t 0)⟩,⟨some 2,none,.alloc 31 2 [.int .i64 0,.int .i64 0]⟩],false,[]⟩
def Tryz.r14_1 : LReg := ⟨[⟨some 8,none,.fieldAddr 0 (.t 1)⟩,⟨some 9,none,.load 1 false (.t 8)⟩,⟨some 10,none,.len (.t 9)⟩,⟨some 11,none,.bin .gtr (.t 10) (.c (.int .i64 8))⟩,⟨some 12,none,.mv (.t 11)⟩,⟨some 13,some (12,false),.fieldAddr 1 (.t 1)⟩,⟨some 14,some (12,false),.load 1 false (.t 13)⟩,⟨some 15,some (12,false),.len (.t 14)⟩,⟨some 16,some (12,false),.bin .gtr (.t 15) (.c (.int .i64 16))⟩,⟨some 17,none,.pick (.t 12) (.c (.bool true)) (.t 16)⟩],false,[]⟩
def Tryz.r14_2 : LReg := ⟨[⟨some 18,none,.build [.int .i64 0,.int .i64 0] [(0,1,(.c (.int .i64 2))),(1,1,(.c (.int .i64 (-1))))]⟩,⟨none,none,.store 2 (.t 2) (.t 18)⟩],false,[]⟩
def Tryz.r14_3 : LReg := ⟨[⟨some 19,none,.fieldAddr 0 (.t 1)⟩,⟨some 20,none,.load 1 false (.t 19)⟩,⟨some 21,none,.len (.t 20)⟩,⟨some 22,none,.mv (.c (.int .i64 0))⟩],false,[]⟩
def Tryz.r14_4 : LReg := ⟨[⟨some 23,none,.bin .lss (.t 22) (.t 21)⟩],false,[]⟩
def Tryz.r14_5 : LReg := ⟨[⟨some 24,none,.mv (.t 22)⟩,⟨some 25,none,.idx 1 (.t 20) (.t 22)⟩,⟨some 26,none,.load 1 false (.t 25)⟩,⟨some 3,none,.mv (.t 24)⟩,⟨some 4,none,.mv (.t 26)⟩],false,[]⟩
def Tryz.r14_6 : LReg := ⟨[⟨some 27,none,.mv (.t 4)⟩,⟨some 28,none,.call 115 [(.t 27)]⟩,⟨some 29,none,.un .not (.t 28)⟩],false,[]⟩
def Tryz.r14_7 : LReg := ⟨[⟨some 30,none,.mv (.t 3)⟩,⟨some 31,none,.build [.int .i64 0,.int .i64 0] [(0,1,(.c (.int .i64 12))),(1,1,(.t 30))]⟩,⟨none,none,.store 2 (.t 2) (.t 31)⟩],false,[]⟩
def Tryz.r14_8 : LReg := ⟨[⟨some 32,none,.mv (.t 3)⟩,⟨some 33,none,.bin .gtr (.t 32) (.c (.int .i64 0))⟩,⟨some 34,none,.mv (.t 33)⟩,⟨some 35,some (34,true),.mv (.t 4)⟩,⟨some 36,some (34,true),.fieldAddr 0 (.t 1)⟩,⟨some 37,some (34,true),.load 1 false (.t 36)⟩,⟨some 38,some (34,true),.mv (.t 3)⟩,⟨some 39,some (34,true),.bin .sub (.t 38) (.c (.int .i64 1))⟩,⟨some 40,some (34,true),.idx 1 (.t 37) (.t 39)⟩,⟨some 41,some (34,true),.load 1 false (.t 40)⟩,⟨some 42,some (34,true),.bin .leq (.t 35) (.t 41)⟩,⟨some 43,none,.pick (.t 34) (.t 42) (.c (.bool false))⟩],false,[]⟩
def Tryz.r14_9 : LReg := ⟨[⟨some 44,none,.mv (.t 3)⟩,⟨some 45,none,.build [.int .i64 0,.int .i64 0] [(0,1,(.c (.int .i64 5))),(1,1,(.t 44))]⟩,⟨none,none,.store 2 (.t 2) (.t 45)⟩],false,[]⟩
def Tryz.r14_10 : LReg := ⟨[⟨some 46,none,.bin .add (.t 22) (.c (.int .i64 1))⟩,⟨some 22,none,.mv (.t 46)⟩],false,[]⟩
def Tryz.r14_11 : LReg := ⟨[⟨some 47,none,.fieldAddr 2 (.t 1)⟩,⟨some 48,none,.load 1 false (.t 47)⟩,⟨some 49,none,.call 115 [(.t 48)]⟩,⟨some 50,none,.un .not (.t 49)⟩],false,[]⟩
def Tryz.r14_12 : LReg := ⟨[⟨some 51,none,.build [.int .i64 0,.int .i64 0] [(0,1,(.c (.int .i64 12))),(1,1,(.c (.int .i64 (-2))))]⟩,⟨none,none,.store 2 (.t 2) (.t 51)⟩],false,[]⟩
def Tryz.r14_13 : LReg := ⟨[⟨some 52,none,.fieldAddr 1 (.t 1)⟩,⟨some 53,none,.load 1 false (.t 52)⟩,⟨some 54,none,.len (.t 53)⟩,⟨some 55,none,.mv (.c (.int .i64 0))⟩],false,[]⟩
def Tryz.r14_14 : LReg := ⟨[⟨some 56,none,.bin .lss (.t 55) (.t 54)⟩],false,[]⟩
def Tryz.r14_15 : LReg := ⟨[⟨some 57,none,.mv (.t 55)⟩,⟨some 58,none,.idx 2 (.t 53) (.t 55)⟩,⟨some 59,none,.load 2 true (.t 58)⟩,⟨some 6,none,.alloc 109 2 [.int .i64 0,.str []]⟩,⟨some 5,none,.mv (.t 57)⟩,⟨none,none,.store 2 (.t 6) (.t 59)⟩],false,[]⟩
def Tryz.r14_16 : LReg := ⟨[⟨some 60,none,.load 2 true (.t 6)⟩,⟨some 61,none,.call 145 [(.t 60)]⟩,⟨some 7,none,.mv (.t 61)⟩],false,[]⟩
def Tryz.r14_17 : LReg := ⟨[⟨some 62,none,.mv (.t 7)⟩,⟨some 63,none,.bin .neq (.t 62) (.c (.int .i64 0))⟩],false,[]⟩
def Tryz.r14_18 : LReg := ⟨[⟨some 64,none,.mv (.t 7)⟩,⟨some 65,none,.mv (.t 5)⟩,⟨some 66,none,.bin .sub (.c (.int .i64 (-3))) (.t 65)⟩,⟨some 67,none,.build [.int .i64 0,.int .i64 0] [(0,1,(.t 64)),(1,1,(.t 66))]⟩,⟨none,none,.store 2 (.t 2) (.t 67)⟩],false,[]⟩
def Tryz.r14_19 : LReg := ⟨[⟨some 68,none,.bin .add (.t 55) (.c (.int .i64 1))⟩,⟨some 55,none,.mv (.t 68)⟩],false,[]⟩
def Tryz.r14_20 : LReg := ⟨[⟨some 69,none,.build [.int .i64 0,.int .i64 0] []⟩,⟨none,none,.store 2 (.t 2) (.t 69)⟩],false,[]⟩
def Tryz.l_sandbox_Validate : LCode := (.seq (.reg Tryz.r14_0) (.seq (.seq (.reg Tryz.r14_1) (.cond (.t 17) (.seq (.reg Tryz.r14_2) .ret) .skip)) (.seq (.seq (.reg Tryz.r14_3) (.block 0 (.loop (.seq (.reg Tryz.r14_4) (.seq (.cond (.t 23) .skip (.exit 0)) (.seq (.block 1 (.seq (.reg Tryz.r14_5) (.seq (.seq (.reg Tryz.r14_6) (.cond (.t 29) (.seq (.reg Tryz.r14_7) .ret) .skip)) (.seq (.reg Tryz.r14_8) (.cond (.t 43) (.seq (.reg Tryz.r14_9) .ret) .skip))))) (.reg Tryz.r14_10))))))) (.seq (.seq (.reg Tryz.r14_11) (.cond (.t 50) (.seq (.reg Tryz.r14_12) .ret) .skip)) (.seq (.seq (.reg Tryz.r14_13) (.block 2 (.loop (.seq (.reg Tryz.r14_14) (.seq (.cond (.t 56) .skip (.exit 2)) (.seq (.block 3 (.seq (.reg Tryz.r14_15) (.seq (.reg Tryz.r14_16) (.seq (.reg Tryz.r14_17) (.cond (.t 63) (.seq (.reg Tryz.r14_18) .ret) .skip))))) (.reg Tryz.r14_19))))))) (.seq (.reg Tryz.r14_20) .ret))))))
theorem Tryz.c_sandbox_Validate : fnComp Tryz.prog 107 = some (70, Tryz.l_sandbox_Validate,[.cell 2 2 true]) := by kernel_rfl
def Tryz.r15_0 : LReg := ⟨[⟨some 2,none,.box 53 3 (.t 0)⟩,⟨some 3,none,.box 25 1 (.t 1)⟩,⟨some 4,none,.alloc 31 2 [.int .i64 0,.int .i64 0]⟩],false,[]⟩
def Tryz.r15_1 : LReg := ⟨[⟨some 6,none,.load 3 true (.t 2)⟩,⟨some 7,none,.call 107 [(.t 6)]⟩,⟨some 5,none,.alloc 31 2 [.int .i64 0,.int .i64 0]⟩,⟨none,none,.store 2 (.t 5) (.t 7)⟩],false,[]⟩
def Tryz.r15_2 : LReg := ⟨[⟨some 8,none,.load 2 true (.t 5)⟩,⟨some 9,none,.build [.int .i64 0,.int .i64 0] []⟩,⟨some 10,none,.eqs true [0,0] (.t 8) (.t 9)⟩],false,[]⟩
def Tryz.r15_3 : LReg := ⟨[⟨some 11,none,.load 2 true (.t 5)⟩,⟨none,none,.store 2 (.t 4) (.t 11)⟩],false,[]⟩
def Tryz.r15_4 : LReg := ⟨[⟨some 12,none,.load 1 true (.t 3)⟩,⟨some 13,none,.call 55 [(.t 12),(.c (.int .i64 (-20)))]⟩,⟨none,none,.store 2 (.t 4) (.t 13)⟩],false,[]⟩
def Tryz.l_sandbox_Arguments : LCode := (.seq (.reg Tryz.r15_0) (.seq (.seq (.reg Tryz.r15_1) (.seq (.reg Tryz.r15_2) (.cond (.t 10) (.seq (.reg Tryz.r15_3) .ret) .skip))) (.seq (.reg Tryz.r15_4) .ret)))
theorem Tryz.c_sandbox_Arguments : fnComp Tryz.prog 63 = some (14, Tryz.l_sandbox_Arguments,[.cell 4 2 true]) := by kernel_rfl
theorem Tryz.b_actioncache_Key_1 : bodied Tryz.prog 64 = true := by kernel_rfl
def Tryz.r16_0 : LReg := ⟨[⟨some 2,none,.mv (.c (.int .i64 0))⟩],false,[]⟩
def Tryz.r16_1 : LReg := ⟨[⟨some 6,none,.mv (.t 0)⟩,⟨some 7,none,.toBytes 5 (.t 6)⟩,⟨some 8,none,.call 65 [(.t 7)]⟩,⟨some 5,none,.mv (.t 8)⟩,⟨some 9,none,.extract 0 (.t 5)⟩,⟨some 10,none,.extract 1 (.t 5)⟩,⟨some 4,none,.alloc 31 2 [.int .i64 0,.int .i64 0]⟩,⟨some 3,none,.mv (.t 9)⟩,⟨none,none,.store 2 (.t 4) (.t 10)⟩],false,[]⟩
def Tryz.r16_2 : LReg := ⟨[⟨some 11,none,.mv (.t 3)⟩,⟨some 2,none,.mv (.t 11)⟩],false,[]⟩
def Tryz.l_actioncache_Key_1 : LCode := (.seq (.reg Tryz.r16_0) (.seq (.reg Tryz.r16_1) (.seq (.reg Tryz.r16_2) .ret)))
theorem Tryz.c_actioncache_Key_1 : fnComp Tryz.prog 64 = some (12, Tryz.l_actioncache_Key_1,[.t 2]) := by kernel_rfl
def Tryz.r17_0 : LReg := ⟨[⟨some 6,none,.mv (.c (.int .i64 0))⟩,⟨some 7,none,.mv (.c (.bool false))⟩],false,[]⟩
def Tryz.r17_1 : LReg := ⟨[⟨some 12,none,.mv (.t 0)⟩,⟨some 13,none,.len (.t 12)⟩,⟨some 8,none,.mv (.t 13)⟩],false,[]⟩
def Tryz.r17_2 : LReg := ⟨[⟨some 14,none,.mv (.t 8)⟩,⟨some 9,none,.mv (.c (.int .i64 0))⟩,⟨some 10,none,.mv (.t 14)⟩],false,[]⟩
def Tryz.r17_3 : LReg := ⟨[⟨some 15,none,.mv (.t 9)⟩,⟨some 16,none,.mv (.t 10)⟩,⟨some 17,none,.bin .lss (.t 15) (.t 16)⟩],false,[]⟩
def Tryz.r17_4 : LReg := ⟨[⟨some 18,none,.mv (.t 9)⟩,⟨some 19,none,.mv (.t 10)⟩,⟨some 20,none,.bin .add (.t 18) (.t 19)⟩,⟨some 21,none,.conv .u64 (.t 20)⟩,⟨some 22,none,.bin .shr (.t 21) (.c (.int .u64 1))⟩,⟨some 23,none,.conv .i64 (.t 22)⟩,⟨some 11,none,.mv (.t 23)⟩],false,[]⟩
def Tryz.r17_5 : LReg := ⟨[⟨some 24,none,.mv (.t 2)⟩,⟨some 25,none,.mv (.t 0)⟩,⟨some 26,none,.mv (.t 11)⟩,⟨some 27,none,.idx 2 (.t 25) (.t 26)⟩,⟨some 28,none,.load 2 true (.t 27)⟩,⟨some 29,none,.mv (.t 1)⟩,⟨some 30,none,.callv (.t 24) [(.t 28),(.t 29)]⟩,⟨some 31,none,.bin .lss (.t 30) (.c (.int .i64 0))⟩],false,[]⟩
def Tryz.r17_6 : LReg := ⟨[⟨some 32,none,.mv (.t 11)⟩,⟨some 33,none,.bin .add (.t 32) (.c (.int .i64 1))⟩,⟨some 9,none,.mv (.t 33)⟩],false,[]⟩
def Tryz.r17_7 : LReg := ⟨[⟨some 34,none,.mv (.t 11)⟩,⟨some 10,none,.mv (.t 34)⟩],false,[]⟩
def Tryz.r17_8 : LReg := ⟨[⟨some 35,none,.mv (.t 9)⟩,⟨some 36,none,.mv (.t 9)⟩,⟨some 37,none,.mv (.t 8)⟩,⟨some 38,none,.bin .lss (.t 36) (.t 37)⟩,⟨some 39,none,.mv (.t 38)⟩,⟨some 40,some (39,true),.mv (.t 2)⟩,⟨some 41,some (39,true),.mv (.t 0)⟩,⟨some 42,some (39,true),.mv (.t 9)⟩,⟨some 43,some (39,true),.idx 2 (.t 41) (.t 42)⟩,⟨some 44,some (39,true),.load 2 true (.t 43)⟩,⟨some 45,some (39,true),.mv (.t 1)⟩,⟨some 46,some (39,true),.callv (.t 40) [(.t 44),(.t 45)]⟩,⟨some 47,some (39,true),.bin .eql (.t 46) (.c (.int .i64 0))⟩,⟨some 48,none,.pick (.t 39) (.t 47) (.c (.bool false))⟩,⟨some 6,none,.mv (.t 35)⟩,⟨some 7,none,.mv (.t 48)⟩],false,[]⟩
def Tryz.l_slices_BinarySearchFunc_api_File_api_File_string : LCode := (.seq (.reg Tryz.r17_0) (.seq (.reg Tryz.r17_1) (.seq (.reg Tryz.r17_2) (.seq (.block 0 (.loop (.seq (.seq (.reg Tryz.r17_3) (.cond (.t 17) .skip (.exit 0))) (.block 1 (.seq (.reg Tryz.r17_4) (.seq (.reg Tryz.r17_5) (.cond (.t 31) (.reg Tryz.r17_6) (.reg Tryz.r17_7)))))))) (.seq (.reg Tryz.r17_8) .ret)))))
theorem Tryz.c_slices_BinarySearchFunc_api_File_api_File_string : fnComp Tryz.prog 118 = some (49, Tryz.l_slices_BinarySearchFunc_api_File_api_File_string,[.t 6,.t 7]) := by kernel_rfl
theorem Tryz.b_treepatch_Find_1 : bodied Tryz.prog 119 = true := by kernel_rfl
def Tryz.r18_0 : LReg := ⟨[⟨some 2,none,.box 37 2 (.t 0)⟩,⟨some 4,none,.mv (.c (.int .i64 0))⟩],false,[]⟩
def Tryz.r18_1 : LReg := ⟨[⟨some 5,none,.fieldAddr 0 (.t 2)⟩,⟨some 6,none,.load 1 false (.t 5)⟩,⟨some 7,none,.mv (.t 1)⟩,⟨some 8,none,.call 120 [(.t 6),(.t 7)]⟩,⟨some 4,none,.mv (.t 8)⟩],false,[]⟩
def Tryz.l_treepatch_Find_1 : LCode := (.seq (.reg Tryz.r18_0) (.seq (.reg Tryz.r18_1) .ret))
theorem Tryz.c_treepatch_Find_1 : fnComp Tryz.prog 119 = some (9, Tryz.l_treepatch_Find_1,[.t 4]) := by kernel_rfl
def Tryz.r19_0 : LReg := ⟨[⟨some 4,none,.mv (.c (.int .i64 0))⟩,⟨some 5,none,.mv (.c (.bool false))⟩],false,[]⟩
def Tryz.r19_1 : LReg := ⟨[⟨some 6,none,.mv (.t 0)⟩,⟨some 7,none,.mv (.t 1)⟩,⟨some 8,none,.call 118 [(.t 6),(.t 7),(.c (.fn 119 [] []))]⟩,⟨some 9,none,.extract 0 (.t 8)⟩,⟨some 10,none,.extract 1 (.t 8)⟩,⟨some 4,none,.mv (.t 9)⟩,⟨some 5,none,.mv (.t 10)⟩],false,[]⟩
def Tryz.l_treepatch_Find : LCode := (.seq (.reg Tryz.r19_0) (.seq (.reg Tryz.r19_1) .ret))
theorem Tryz.c_treepatch_Find : fnComp Tryz.prog 66 = some (11, Tryz.l_treepatch_Find,[.t 4,.t 5]) := by kernel_rfl
def Tryz.r20_0 : LReg := ⟨[⟨some 2,none,.mv (.c (.bool false))⟩],false,[]⟩
def Tryz.r20_1 : LReg := ⟨[⟨some 3,none,.mv (.t 0)⟩,⟨some 4,none,.bin .geq (.t 3) (.c (.int .i64 0))⟩,⟨some 5,none,.mv (.t 4)⟩,⟨some 6,some (5,true),.mv (.t 0)⟩,⟨some 7,some (5,true),.bin .lss (.t 6) (.c (.int .i64 2305843009213693951))⟩,⟨some 8,none,.pick (.t 5) (.t 7) (.c (.bool false))⟩,⟨some 2,none,.mv (.t 8)⟩],false,[]⟩
def Tryz.l_digest_is : LCode := (.seq (.reg Tryz.r20_0) (.seq (.reg Tryz.r20_1) .ret))
theorem Tryz.c_digest_is : fnComp Tryz.prog 155 = some (9, Tryz.l_digest_is,[.t 2]) := by kernel_rfl
def Tryz.r21_0 : LReg := ⟨[⟨some 4,none,.mv (.c (.int .i64 0))⟩,⟨some 5,none,.alloc 31 2 [.int .i64 0,.int .i64 0]⟩],false,[]⟩
def Tryz.r21_1 : LReg := ⟨[⟨some 8,none,.mv (.t 0)⟩,⟨some 9,none,.mv (.t 1)⟩,⟨some 10,none,.build [.int .i64 0,.int .i64 0] [(0,1,(.t 8)),(1,1,(.t 9))]⟩,⟨some 11,none,.mv (.c (.int .i64 0))⟩],false,[]⟩
def Tryz.r21_2 : LReg := ⟨[⟨some 12,none,.bin .lss (.t 11) (.c (.int .i64 2))⟩],false,[]⟩
def Tryz.r21_3 : LReg := ⟨[⟨some 13,none,.mv (.t 11)⟩,⟨some 14,none,.vidx 2 1 false (.t 10) (.t 11)⟩,⟨some 6,none,.mv (.t 13)⟩,⟨some 7,none,.mv (.t 14)⟩],false,[]⟩
def Tryz.r21_4 : LReg := ⟨[⟨some 15,none,.mv (.t 7)⟩,⟨some 16,none,.call 155 [(.t 15)]⟩,⟨some 17,none,.un .not (.t 16)⟩],false,[]⟩
def Tryz.r21_5 : LReg := ⟨[⟨some 18,none,.mv (.t 6)⟩,⟨some 19,none,.build [.int .i64 0,.int .i64 0] [(0,1,(.c (.int .i64 3))),(1,1,(.t 18))]⟩,⟨some 4,none,.mv (.c (.int .i64 0))⟩,⟨none,none,.store 2 (.t 5) (.t 19)⟩],false,[]⟩
def Tryz.r21_6 : LReg := ⟨[⟨some 20,none,.bin .add (.t 11) (.c (.int .i64 1))⟩,⟨some 11,none,.mv (.t 20)⟩],false,[]⟩
def Tryz.r21_7 : LReg := ⟨[⟨some 21,none,.mv (.t 0)⟩,⟨some 22,none,.mv (.t 1)⟩,⟨some 23,none,.call 75 [(.t 21),(.t 22)]⟩,⟨some 24,none,.build [.int .i64 0,.int .i64 0] []⟩,⟨some 4,none,.mv (.t 23)⟩,⟨none,none,.store 2 (.t 5) (.t 24)⟩],false,[]⟩
def Tryz.l_digest_Pair : LCode := (.seq (.reg Tryz.r21_0) (.seq (.seq (.reg Tryz.r21_1) (.block 0 (.loop (.seq (.reg Tryz.r21_2) (.seq (.cond (.t 12) .skip (.exit 0)) (.seq (.block 1 (.seq (.reg Tryz.r21_3) (.seq (.reg Tryz.r21_4) (.cond (.t 17) (.seq (.reg Tryz.r21_5) .ret) .skip)))) (.reg Tryz.r21_6))))))) (.seq (.reg Tryz.r21_7) .ret)))
theorem Tryz.c_digest_Pair : fnComp Tryz.prog 121 = some (25, Tryz.l_digest_Pair,[.t 4,.cell 5 2 true]) := by kernel_rfl
def Tryz.r22_0 : LReg := ⟨[⟨some 4,none,.mv (.c (.int .i64 0))⟩],false,[]⟩
def Tryz.r22_1 : LReg := ⟨[⟨some 7,none,.mv (.t 1)⟩,⟨some 8,none,.len (.t 7)⟩,⟨some 9,none,.mv (.c (.int .i64 0))⟩],false,[]⟩
def Tryz.r22_2 : LReg := ⟨[⟨some 10,none,.bin .lss (.t 9) (.t 8)⟩],false,[]⟩
def Tryz.r22_3 : LReg := ⟨[⟨some 11,none,.idx 1 (.t 7) (.t 9)⟩,⟨some 12,none,.load 1 false (.t 11)⟩,⟨some 6,none,.mv (.t 12)⟩],false,[]⟩
def Tryz.r22_4 : LReg := ⟨[⟨some 14,none,.mv (.t 0)⟩,⟨some 15,none,.mv (.t 6)⟩,⟨some 16,none,.call 121 [(.t 14),(.t 15)]⟩,⟨some 13,none,.mv (.t 16)⟩,⟨some 17,none,.extract 0 (.t 13)⟩,⟨some 18,none,.extract 1 (.t 13)⟩,⟨some 0,none,.mv (.t 17)⟩],false,[]⟩
def Tryz.r22_5 : LReg := ⟨[⟨some 19,none,.bin .add (.t 9) (.c (.int .i64 1))⟩,⟨some 9,none,.mv (.t 19)⟩],false,[]⟩
def Tryz.r22_6 : LReg := ⟨[⟨some 20,none,.mv (.t 0)⟩,⟨some 4,none,.mv (.t 20)⟩],false,[]⟩
def Tryz.l_actioncache_combine : LCode := (.seq (.reg Tryz.r22_0) (.seq (.seq (.reg Tryz.r22_1) (.block 0 (.loop (.seq (.reg Tryz.r22_2) (.seq (.cond (.t 10) .skip (.exit 0)) (.seq (.block 1 (.seq (.reg Tryz.r22_3) (.reg Tryz.r22_4))) (.reg Tryz.r22_5))))))) (.seq (.reg Tryz.r22_6) .ret)))
theorem Tryz.c_actioncache_combine : fnComp Tryz.prog 67 = some (21, Tryz.l_actioncache_combine,[.t 4]) := by kernel_rfl
def Tryz.r23_0 : LReg := ⟨[⟨some 2,none,.box 53 3 (.t 0)⟩,⟨some 3,none,.box 25 1 (.t 1)⟩,⟨some 4,none,.mv (.c (.int .i64 0))⟩,⟨some 5,none,.alloc 31 2 [.int .i64 0,.int .i64 0]⟩],false,[]⟩
def Tryz.r23_1 : LReg := ⟨[⟨some 17,none,.load 3 true (.t 2)⟩,⟨some 18,none,.load 1 true (.t 3)⟩,⟨some 19,none,.call 63 [(.t 17),(.t 18)]⟩,⟨some 6,none,.alloc 31 2 [.int .i64 0,.int .i64 0]⟩,⟨none,none,.store 2 (.t 6) (.t 19)⟩],false,[]⟩
def Tryz.r23_2 : LReg := ⟨[⟨some 20,none,.load 2 true (.t 6)⟩,⟨some 21,none,.build [.int .i64 0,.int .i64 0] []⟩,⟨some 22,none,.eqs true [0,0] (.t 20) (.t 21)⟩],false,[]⟩
def Tryz.r23_3 : LReg := ⟨[⟨some 23,none,.load 2 true (.t 6)⟩,⟨some 4,none,.mv (.c (.int .i64 0))⟩,⟨none,none,.store 2 (.t 5) (.t 23)⟩],true,[]⟩
def Tryz.r23_4 : LReg := ⟨[⟨some 7,none,.mv (.c (.fn 64 [] []))⟩],false,[]⟩
def Tryz.r23_5 : LReg := ⟨[⟨some 25,none,.fieldAddr 0 (.t 2)⟩,⟨some 26,none,.load 1 false (.t 25)⟩,⟨some 27,none,.call 26 [(.t 26)]⟩,⟨some 24,none,.mv (.t 27)⟩,⟨some 28,none,.extract 0 (.t 24)⟩,⟨some 29,none,.extract 1 (.t 24)⟩,⟨some 9,none,.alloc 31 2 [.int .i64 0,.int .i64 0]⟩,⟨some 8,none,.mv (.t 28)⟩,⟨none,none,.store 2 (.t 9) (.t 29)⟩],false,[]⟩
def Tryz.r23_6 : LReg := ⟨[⟨some 30,none,.fieldAddr 0 (.t 2)⟩,⟨some 31,none,.load 1 false (.t 30)⟩,⟨some 32,none,.len (.t 31)⟩,⟨some 33,none,.mv (.c (.int .i64 0))⟩],false,[]⟩
def Tryz.r23_7 : LReg := ⟨[⟨some 34,none,.bin .lss (.t 33) (.t 32)⟩],false,[]⟩
def Tryz.r23_8 : LReg := ⟨[⟨some 35,none,.idx 1 (.t 31) (.t 33)⟩,⟨some 36,none,.load 1 false (.t 35)⟩,⟨some 11,none,.mv (.t 36)⟩],false,[]⟩
def Tryz.r23_9 : LReg := ⟨[⟨some 12,none,.mv (.c (.int .i64 0))⟩],false,[]⟩
def Tryz.r23_10 : LReg := ⟨[⟨some 38,none,.fieldAddr 0 (.t 3)⟩,⟨some 39,none,.load 1 false (.t 38)⟩,⟨some 40,none,.mv (.t 11)⟩,⟨some 41,none,.call 66 [(.t 39),(.t 40)]⟩,⟨some 37,none,.mv (.t 41)⟩,⟨some 42,none,.extract 0 (.t 37)⟩,⟨some 43,none,.extract 1 (.t 37)⟩,⟨some 13,none,.mv (.t 42)⟩,⟨some 14,none,.mv (.t 43)⟩],false,[]⟩
def Tryz.r23_11 : LReg := ⟨[⟨some 44,none,.mv (.t 14)⟩],false,[]⟩
def Tryz.r23_12 : LReg := ⟨[⟨some 46,none,.fieldAddr 0 (.t 3)⟩,⟨some 47,none,.load 1 false (.t 46)⟩,⟨some 48,none,.mv (.t 13)⟩,⟨some 49,none,.idx 2 (.t 47) (.t 48)⟩,⟨some 50,none,.fieldAddr 1 (.t 49)⟩,⟨some 51,none,.load 1 false (.t 50)⟩,⟨some 52,none,.call 26 [(.t 51)]⟩,⟨some 45,none,.mv (.t 52)⟩,⟨some 53,none,.extract 0 (.t 45)⟩,⟨some 54,none,.extract 1 (.t 45)⟩,⟨some 12,none,.mv (.t 53)⟩],false,[]⟩
def Tryz.r23_13 : LReg := ⟨[⟨some 55,none,.mv (.t 8)⟩,⟨some 56,none,.mv (.t 12)⟩,⟨some 57,none,.mkSlice 3 1 1 [.int .i64 0] [(0,(.t 56))]⟩,⟨some 58,none,.call 67 [(.t 55),(.t 57)]⟩,⟨some 8,none,.mv (.t 58)⟩],false,[]⟩
def Tryz.r23_14 : LReg := ⟨[⟨some 59,none,.bin .add (.t 33) (.c (.int .i64 1))⟩,⟨some 33,none,.mv (.t 59)⟩],false,[]⟩
def Tryz.r23_15 : LReg := ⟨[⟨some 60,none,.fieldAddr 1 (.t 2)⟩,⟨some 61,none,.load 1 false (.t 60)⟩,⟨some 62,none,.len (.t 61)⟩,⟨some 63,none,.mv (.c (.int .i64 0))⟩],false,[]⟩
def Tryz.r23_16 : LReg := ⟨[⟨some 64,none,.bin .lss (.t 63) (.t 62)⟩],false,[]⟩
def Tryz.r23_17 : LReg := ⟨[⟨some 65,none,.idx 2 (.t 61) (.t 63)⟩,⟨some 66,none,.load 2 true (.t 65)⟩,⟨some 16,none,.alloc 109 2 [.int .i64 0,.str []]⟩,⟨none,none,.store 2 (.t 16) (.t 66)⟩],false,[]⟩
def Tryz.r23_18 : LReg := ⟨[⟨some 67,none,.mv (.t 8)⟩,⟨some 68,none,.fieldAddr 0 (.t 16)⟩,⟨some 69,none,.load 1 false (.t 68)⟩,⟨some 70,none,.mv (.t 7)⟩,⟨some 71,none,.fieldAddr 1 (.t 16)⟩,⟨some 72,none,.load 1 false (.t 71)⟩,⟨some 73,none,.callv (.t 70) [(.t 72)]⟩,⟨some 74,none,.mkSlice 3 1 1 [.int .i64 0] [(0,(.t 73))]⟩,⟨some 75,none,.call 67 [(.t 69),(.t 74)]⟩,⟨some 76,none,.mkSlice 3 1 1 [.int .i64 0] [(0,(.t 75))]⟩,⟨some 77,none,.call 67 [(.t 67),(.t 76)]⟩,⟨some 8,none,.mv (.t 77)⟩],true,[(1,4),(2,4),(1,5),(2,5),(1,6),(2,6),(1,7),(2,7)]⟩
def Tryz.r23_19 : LReg := ⟨[⟨some 78,none,.bin .add (.t 63) (.c (.int .i64 1))⟩,⟨some 63,none,.mv (.t 78)⟩],false,[]⟩
def Tryz.r23_20 : LReg := ⟨[⟨some 79,none,.mv (.t 8)⟩,⟨some 80,none,.mv (.t 7)⟩,⟨some 81,none,.fieldAddr 2 (.t 2)⟩,⟨some 82,none,.load 1 false (.t 81)⟩,⟨some 83,none,.callv (.t 80) [(.t 82)]⟩,⟨some 84,none,.mkSlice 3 1 1 [.int .i64 0] [(0,(.t 83))]⟩,⟨some 85,none,.call 67 [(.t 79),(.t 84)]⟩,⟨some 86,none,.build [.int .i64 0,.int .i64 0] []⟩,⟨some 4,none,.mv (.t 85)⟩,⟨none,none,.store 2 (.t 5) (.t 86)⟩],false,[]⟩
def Tryz.l_actioncache_Key : LCode := (.seq (.reg Tryz.r23_0) (.seq (.seq (.reg Tryz.r23_1) (.seq (.reg Tryz.r23_2) (.cond (.t 22) (.seq (.reg Tryz.r23_3) .ret) .skip))) (.seq (.reg Tryz.r23_4) (.seq (.reg Tryz.r23_5) (.seq (.seq (.reg Tryz.r23_6) (.block 0 (.loop (.seq (.reg Tryz.r23_7) (.seq (.cond (.t 34) .skip (.exit 0)) (.seq (.block 1 (.seq (.reg Tryz.r23_8) (.seq (.reg Tryz.r23_9) (.seq (.seq (.reg Tryz.r23_10) (.seq (.reg Tryz.r23_11) (.cond (.t 44) (.reg Tryz.r23_12) .skip))) (.reg Tryz.r23_13))))) (.reg Tryz.r23_14))))))) (.seq (.seq (.reg Tryz.r23_15) (.block 2 (.loop (.seq (.reg Tryz.r23_16) (.seq (.cond (.t 64) .skip (.exit 2)) (.seq (.block 3 (.seq (.reg Tryz.r23_17) (.reg Tryz.r23_18))) (.reg Tryz.r23_19))))))) (.seq (.reg Tryz.r23_20) .ret)))))))
theorem Tryz.c_actioncache_Key : fnComp Tryz.prog 20 = some (87, Tryz.l_actioncache_Key,[.t 4,.cell 5 2 true]) := by kernel_rfl
def Tryz.r24_0 : LReg := ⟨[⟨some 2,none,.mv (.c (.bool false))⟩],false,[]⟩
def Tryz.r24_1 : LReg := ⟨[⟨some 3,none,.mv (.t 0)⟩,⟨some 4,none,.bin .geq (.t 3) (.c (.int .i64 0))⟩,⟨some 5,none,.mv (.t 4)⟩,⟨some 6,some (5,true),.mv (.t 0)⟩,⟨some 7,some (5,true),.bin .lss (.t 6) (.c (.int .i64 2305843009213693951))⟩,⟨some 8,none,.pick (.t 5) (.t 7) (.c (.bool false))⟩,⟨some 2,none,.mv (.t 8)⟩],false,[]⟩
def Tryz.l_signing_IsDigest : LCode := (.seq (.reg Tryz.r24_0) (.seq (.reg Tryz.r24_1) .ret))
theorem Tryz.c_signing_IsDigest : fnComp Tryz.prog 69 = some (9, Tryz.l_signing_IsDigest,[.t 2]) := by kernel_rfl
def Tryz.r25_0 : LReg := ⟨[⟨some 2,none,.alloc 31 2 [.int .i64 0,.int .i64 0]⟩],false,[]⟩
def Tryz.r25_1 : LReg := ⟨[⟨some 6,none,.mv (.t 0)⟩,⟨some 7,none,.len (.t 6)⟩,⟨some 8,none,.bin .gtr (.t 7) (.c (.int .i64 16))⟩],false,[]⟩
def Tryz.r25_2 : LReg := ⟨[⟨some 9,none,.build [.int .i64 0,.int .i64 0] [(0,1,(.c (.int .i64 2))),(1,1,(.c (.int .i64 (-1))))]⟩,⟨none,none,.store 2 (.t 2) (.t 9)⟩],false,[]⟩
def Tryz.r25_3 : LReg := ⟨[⟨some 10,none,.mv (.t 0)⟩,⟨some 11,none,.len (.t 10)⟩,⟨some 12,none,.mv (.c (.int .i64 0))⟩],false,[]⟩
def Tryz.r25_4 : LReg := ⟨[⟨some 13,none,.bin .lss (.t 12) (.t 11)⟩],false,[]⟩
def Tryz.r25_5 : LReg := ⟨[⟨some 14,none,.mv (.t 12)⟩,⟨some 15,none,.idx 2 (.t 10) (.t 12)⟩,⟨some 16,none,.load 2 true (.t 15)⟩,⟨some 4,none,.alloc 114 2 [.int .i64 0,.nils]⟩,⟨some 3,none,.mv (.t 14)⟩,⟨none,none,.store 2 (.t 4) (.t 16)⟩],false,[]⟩
def Tryz.r25_6 : LReg := ⟨[⟨some 17,none,.fieldAddr 0 (.t 4)⟩,⟨some 18,none,.load 1 false (.t 17)⟩,⟨some 19,none,.call 69 [(.t 18)]⟩,⟨some 20,none,.un .not (.t 19)⟩],false,[]⟩
def Tryz.r25_7 : LReg := ⟨[⟨some 21,none,.mv (.t 3)⟩,⟨some 22,none,.build [.int .i64 0,.int .i64 0] [(0,1,(.c (.int .i64 3))),(1,1,(.t 21))]⟩,⟨none,none,.store 2 (.t 2) (.t 22)⟩],false,[]⟩
def Tryz.r25_8 : LReg := ⟨[⟨some 23,none,.mv (.t 3)⟩,⟨some 24,none,.bin .gtr (.t 23) (.c (.int .i64 0))⟩,⟨some 25,none,.mv (.t 24)⟩,⟨some 26,some (25,true),.fieldAddr 0 (.t 4)⟩,⟨some 27,some (25,true),.load 1 false (.t 26)⟩,⟨some 28,some (25,true),.mv (.t 0)⟩,⟨some 29,some (25,true),.mv (.t 3)⟩,⟨some 30,some (25,true),.bin .sub (.t 29) (.c (.int .i64 1))⟩,⟨some 31,some (25,true),.idx 2 (.t 28) (.t 30)⟩,⟨some 32,some (25,true),.fieldAddr 0 (.t 31)⟩,⟨some 33,some (25,true),.load 1 false (.t 32)⟩,⟨some 34,some (25,true),.bin .leq (.t 27) (.t 33)⟩,⟨some 35,none,.pick (.t 25) (.t 34) (.c (.bool false))⟩],true,[(3,8),(4,8),(3,9),(4,9),(3,10),(4,10)]⟩
def Tryz.r25_9 : LReg := ⟨[⟨some 36,none,.mv (.t 3)⟩,⟨some 37,none,.build [.int .i64 0,.int .i64 0] [(0,1,(.c (.int .i64 5))),(1,1,(.t 36))]⟩,⟨none,none,.store 2 (.t 2) (.t 37)⟩],false,[]⟩
def Tryz.r25_10 : LReg := ⟨[⟨some 38,none,.fieldAddr 1 (.t 4)⟩,⟨some 39,none,.load 1 false (.t 38)⟩,⟨some 40,none,.mv (.t 3)⟩,⟨some 41,none,.call 122 [(.t 39),(.t 40)]⟩,⟨some 5,none,.alloc 31 2 [.int .i64 0,.int .i64 0]⟩,⟨none,none,.store 2 (.t 5) (.t 41)⟩],false,[]⟩
def Tryz.r25_11 : LReg := ⟨[⟨some 42,none,.load 2 true (.t 5)⟩,⟨some 43,none,.build [.int .i64 0,.int .i64 0] []⟩,⟨some 44,none,.eqs true [0,0] (.t 42) (.t 43)⟩],false,[]⟩
def Tryz.r25_12 : LReg := ⟨[⟨some 45,none,.load 2 true (.t 5)⟩,⟨none,none,.store 2 (.t 2) (.t 45)⟩],false,[]⟩
def Tryz.r25_13 : LReg := ⟨[⟨some 46,none,.bin .add (.t 12) (.c (.int .i64 1))⟩,⟨some 12,none,.mv (.t 46)⟩],false,[]⟩
def Tryz.r25_14 : LReg := ⟨[⟨some 47,none,.build [.int .i64 0,.int .i64 0] []⟩,⟨none,none,.store 2 (.t 2) (.t 47)⟩],false,[]⟩
def Tryz.l_actioncache_Validate : LCode := (.seq (.reg Tryz.r25_0) (.seq (.seq (.reg Tryz.r25_1) (.cond (.t 8) (.seq (.reg Tryz.r25_2) .ret) .skip)) (.seq (.seq (.reg Tryz.r25_3) (.block 0 (.loop (.seq (.reg Tryz.r25_4) (.seq (.cond (.t 13) .skip (.exit 0)) (.seq (.block 1 (.seq (.reg Tryz.r25_5) (.seq (.seq (.reg Tryz.r25_6) (.cond (.t 20) (.seq (.reg Tryz.r25_7) .ret) .skip)) (.seq (.seq (.reg Tryz.r25_8) (.cond (.t 35) (.seq (.reg Tryz.r25_9) .ret) .skip)) (.seq (.reg Tryz.r25_10) (.seq (.reg Tryz.r25_11) (.cond (.t 44) (.seq (.reg Tryz.r25_12) .ret) .skip))))))) (.reg Tryz.r25_13))))))) (.seq (.reg Tryz.r25_14) .ret))))
theorem Tryz.c_actioncache_Validate : fnComp Tryz.prog 68 = some (48, Tryz.l_actioncache_Validate,[.cell 2 2 true]) := by kernel_rfl
def Tryz.r26_0 : LReg := ⟨[⟨some 6,none,.mv (.c (.int .i64 0))⟩,⟨some 7,none,.mv (.c (.bool false))⟩],false,[]⟩
def Tryz.r26_1 : LReg := ⟨[⟨some 12,none,.mv (.t 0)⟩,⟨some 13,none,.len (.t 12)⟩,⟨some 8,none,.mv (.t 13)⟩],false,[]⟩
def Tryz.r26_2 : LReg := ⟨[⟨some 14,none,.mv (.t 8)⟩,⟨some 9,none,.mv (.c (.int .i64 0))⟩,⟨some 10,none,.mv (.t 14)⟩],false,[]⟩
def Tryz.r26_3 : LReg := ⟨[⟨some 15,none,.mv (.t 9)⟩,⟨some 16,none,.mv (.t 10)⟩,⟨some 17,none,.bin .lss (.t 15) (.t 16)⟩],false,[]⟩
def Tryz.r26_4 : LReg := ⟨[⟨some 18,none,.mv (.t 9)⟩,⟨some 19,none,.mv (.t 10)⟩,⟨some 20,none,.bin .add (.t 18) (.t 19)⟩,⟨some 21,none,.conv .u64 (.t 20)⟩,⟨some 22,none,.bin .shr (.t 21) (.c (.int .u64 1))⟩,⟨some 23,none,.conv .i64 (.t 22)⟩,⟨some 11,none,.mv (.t 23)⟩],false,[]⟩
def Tryz.r26_5 : LReg := ⟨[⟨some 24,none,.mv (.t 2)⟩,⟨some 25,none,.mv (.t 0)⟩,⟨some 26,none,.mv (.t 11)⟩,⟨some 27,none,.idx 2 (.t 25) (.t 26)⟩,⟨some 28,none,.load 2 true (.t 27)⟩,⟨some 29,none,.mv (.t 1)⟩,⟨some 30,none,.callv (.t 24) [(.t 28),(.t 29)]⟩,⟨some 31,none,.bin .lss (.t 30) (.c (.int .i64 0))⟩],false,[]⟩
def Tryz.r26_6 : LReg := ⟨[⟨some 32,none,.mv (.t 11)⟩,⟨some 33,none,.bin .add (.t 32) (.c (.int .i64 1))⟩,⟨some 9,none,.mv (.t 33)⟩],false,[]⟩
def Tryz.r26_7 : LReg := ⟨[⟨some 34,none,.mv (.t 11)⟩,⟨some 10,none,.mv (.t 34)⟩],false,[]⟩
def Tryz.r26_8 : LReg := ⟨[⟨some 35,none,.mv (.t 9)⟩,⟨some 36,none,.mv (.t 9)⟩,⟨some 37,none,.mv (.t 8)⟩,⟨some 38,none,.bin .lss (.t 36) (.t 37)⟩,⟨some 39,none,.mv (.t 38)⟩,⟨some 40,some (39,true),.mv (.t 2)⟩,⟨some 41,some (39,true),.mv (.t 0)⟩,⟨some 42,some (39,true),.mv (.t 9)⟩,⟨some 43,some (39,true),.idx 2 (.t 41) (.t 42)⟩,⟨some 44,some (39,true),.load 2 true (.t 43)⟩,⟨some 45,some (39,true),.mv (.t 1)⟩,⟨some 46,some (39,true),.callv (.t 40) [(.t 44),(.t 45)]⟩,⟨some 47,some (39,true),.bin .eql (.t 46) (.c (.int .i64 0))⟩,⟨some 48,none,.pick (.t 39) (.t 47) (.c (.bool false))⟩,⟨some 6,none,.mv (.t 35)⟩,⟨some 7,none,.mv (.t 48)⟩],false,[]⟩
def Tryz.l_slices_BinarySearchFunc_api_CacheEntry_api_CacheEntry_int : LCode := (.seq (.reg Tryz.r26_0) (.seq (.reg Tryz.r26_1) (.seq (.reg Tryz.r26_2) (.seq (.block 0 (.loop (.seq (.seq (.reg Tryz.r26_3) (.cond (.t 17) .skip (.exit 0))) (.block 1 (.seq (.reg Tryz.r26_4) (.seq (.reg Tryz.r26_5) (.cond (.t 31) (.reg Tryz.r26_6) (.reg Tryz.r26_7)))))))) (.seq (.reg Tryz.r26_8) .ret)))))
theorem Tryz.c_slices_BinarySearchFunc_api_CacheEntry_api_CacheEntry_int : fnComp Tryz.prog 123 = some (49, Tryz.l_slices_BinarySearchFunc_api_CacheEntry_api_CacheEntry_int,[.t 6,.t 7]) := by kernel_rfl
theorem Tryz.b_actioncache_find_1 : bodied Tryz.prog 124 = true := by kernel_rfl
def Tryz.r27_0 : LReg := ⟨[⟨some 2,none,.box 114 2 (.t 0)⟩,⟨some 4,none,.mv (.c (.int .i64 0))⟩],false,[]⟩
def Tryz.r27_1 : LReg := ⟨[⟨some 6,none,.fieldAddr 0 (.t 2)⟩,⟨some 7,none,.load 1 false (.t 6)⟩,⟨some 8,none,.mv (.t 1)⟩,⟨some 9,none,.bin .lss (.t 7) (.t 8)⟩,⟨some 5,none,.mv (.t 9)⟩],false,[]⟩
def Tryz.r27_2 : LReg := ⟨[⟨some 4,none,.mv (.c (.int .i64 (-1)))⟩],false,[]⟩
def Tryz.r27_3 : LReg := ⟨[⟨some 11,none,.fieldAddr 0 (.t 2)⟩,⟨some 12,none,.load 1 false (.t 11)⟩,⟨some 13,none,.mv (.t 1)⟩,⟨some 14,none,.bin .gtr (.t 12) (.t 13)⟩,⟨some 10,none,.mv (.t 14)⟩],false,[]⟩
def Tryz.r27_4 : LReg := ⟨[⟨some 4,none,.mv (.c (.int .i64 1))⟩],false,[]⟩
def Tryz.r27_5 : LReg := ⟨[⟨some 4,none,.mv (.c (.int .i64 0))⟩],false,[]⟩
def Tryz.l_actioncache_find_1 : LCode := (.seq (.reg Tryz.r27_0) (.seq (.block 0 (.seq (.reg Tryz.r27_1) (.cond (.t 5) (.seq (.reg Tryz.r27_2) .ret) (.seq (.reg Tryz.r27_3) (.cond (.t 10) (.seq (.reg Tryz.r27_4) .ret) .skip))))) (.seq (.reg Tryz.r27_5) .ret)))
theorem Tryz.c_actioncache_find_1 : fnComp Tryz.prog 124 = some (15, Tryz.l_actioncache_find_1,[.t 4]) := by kernel_rfl
def Tryz.r28_0 : LReg := ⟨[⟨some 4,none,.mv (.c (.int .i64 0))⟩,⟨some 5,none,.mv (.c (.bool false))⟩],false,[]⟩
def Tryz.r28_1 : LReg := ⟨[⟨some 6,none,.mv (.t 0)⟩,⟨some 7,none,.mv (.t 1)⟩,⟨some 8,none,.call 123 [(.t 6),(.t 7),(.c (.fn 124 [] []))]⟩,⟨some 9,none,.extract 0 (.t 8)⟩,⟨some 10,none,.extract 1 (.t 8)⟩,⟨some 4,none,.mv (.t 9)⟩,⟨some 5,none,.mv (.t 10)⟩],false,[]⟩
def Tryz.l_actioncache_find : LCode := (.seq (.reg Tryz.r28_0) (.seq (.reg Tryz.r28_1) .ret))
theorem Tryz.c_actioncache_find : fnComp Tryz.prog 70 = some (11, Tryz.l_actioncache_find,[.t 4,.t 5]) := by kernel_rfl
def Tryz.r29_0 : LReg := ⟨[⟨some 2,none,.mv (.c (.nils))⟩],false,[]⟩
def Tryz.r29_1 : LReg := ⟨[⟨some 3,none,.mv (.t 0)⟩,⟨some 4,none,.isnil false (.t 3)⟩],false,[]⟩
def Tryz.r29_2 : LReg := ⟨[⟨some 2,none,.mv (.c (.nils))⟩],false,[]⟩
def Tryz.r29_3 : LReg := ⟨[⟨some 5,none,.mkSlice 9 1 0 [.str []] []⟩,⟨some 6,none,.mv (.t 0)⟩,⟨some 7,none,.append 9 1 16 (.t 5) (.t 6)⟩,⟨some 2,none,.mv (.t 7)⟩],false,[]⟩
def Tryz.l_slices_Clone_string : LCode := (.seq (.reg Tryz.r29_0) (.seq (.seq (.reg Tryz.r29_1) (.cond (.t 4) (.seq (.reg Tryz.r29_2) .ret) .skip)) (.seq (.reg Tryz.r29_3) .ret)))
theorem Tryz.c_slices_Clone_string : fnComp Tryz.prog 71 = some (8, Tryz.l_slices_Clone_string,[.t 2]) := by kernel_rfl
def Tryz.r30_0 : LReg := ⟨[⟨some 4,none,.mv (.c (.nils))⟩,⟨some 5,none,.mv (.c (.bool false))⟩,⟨some 6,none,.alloc 31 2 [.int .i64 0,.int .i64 0]⟩],false,[]⟩
def Tryz.r30_1 : LReg := ⟨[⟨some 10,none,.mv (.t 0)⟩,⟨some 11,none,.call 68 [(.t 10)]⟩,⟨some 7,none,.alloc 31 2 [.int .i64 0,.int .i64 0]⟩,⟨none,none,.store 2 (.t 7) (.t 11)⟩],false,[]⟩
def Tryz.r30_2 : LReg := ⟨[⟨some 12,none,.load 2 true (.t 7)⟩,⟨some 13,none,.build [.int .i64 0,.int .i64 0] []⟩,⟨some 14,none,.eqs true [0,0] (.t 12) (.t 13)⟩],false,[]⟩
def Tryz.r30_3 : LReg := ⟨[⟨some 15,none,.load 2 true (.t 7)⟩,⟨some 4,none,.mv (.c (.nils))⟩,⟨some 5,none,.mv (.c (.bool false))⟩,⟨none,none,.store 2 (.t 6) (.t 15)⟩],true,[]⟩
def Tryz.r30_4 : LReg := ⟨[⟨some 16,none,.mv (.t 1)⟩,⟨some 17,none,.call 69 [(.t 16)]⟩,⟨some 18,none,.un .not (.t 17)⟩],false,[]⟩
def Tryz.r30_5 : LReg := ⟨[⟨some 19,none,.build [.int .i64 0,.int .i64 0] [(0,1,(.c (.int .i64 3))),(1,1,(.c (.int .i64 (-2))))]⟩,⟨some 4,none,.mv (.c (.nils))⟩,⟨some 5,none,.mv (.c (.bool false))⟩,⟨none,none,.store 2 (.t 6) (.t 19)⟩],false,[]⟩
def Tryz.r30_6 : LReg := ⟨[⟨some 21,none,.mv (.t 0)⟩,⟨some 22,none,.mv (.t 1)⟩,⟨some 23,none,.call 70 [(.t 21),(.t 22)]⟩,⟨some 20,none,.mv (.t 23)⟩,⟨some 24,none,.extract 0 (.t 20)⟩,⟨some 25,none,.extract 1 (.t 20)⟩,⟨some 8,none,.mv (.t 24)⟩,⟨some 9,none,.mv (.t 25)⟩],false,[]⟩
def Tryz.r30_7 : LReg := ⟨[⟨some 26,none,.mv (.t 9)⟩,⟨some 27,none,.un .not (.t 26)⟩],false,[]⟩
def Tryz.r30_8 : LReg := ⟨[⟨some 28,none,.build [.int .i64 0,.int .i64 0] []⟩,⟨some 4,none,.mv (.c (.nils))⟩,⟨some 5,none,.mv (.c (.bool false))⟩,⟨none,none,.store 2 (.t 6) (.t 28)⟩],false,[]⟩
def Tryz.r30_9 : LReg := ⟨[⟨some 29,none,.mv (.t 0)⟩,⟨some 30,none,.mv (.t 8)⟩,⟨some 31,none,.idx 2 (.t 29) (.t 30)⟩,⟨some 32,none,.fieldAddr 1 (.t 31)⟩,⟨some 33,none,.load 1 false (.t 32)⟩,⟨some 34,none,.call 71 [(.t 33)]⟩,⟨some 35,none,.build [.int .i64 0,.int .i64 0] []⟩,⟨some 4,none,.mv (.t 34)⟩,⟨some 5,none,.mv (.c (.bool true))⟩,⟨none,none,.store 2 (.t 6) (.t 35)⟩],false,[]⟩
def Tryz.l_actioncache_Lookup : LCode := (.seq (.reg Tryz.r30_0) (.seq (.seq (.reg Tryz.r30_1) (.seq (.reg Tryz.r30_2) (.cond (.t 14) (.seq (.reg Tryz.r30_3) .ret) .skip))) (.seq (.seq (.reg Tryz.r30_4) (.cond (.t 18) (.seq (.reg Tryz.r30_5) .ret) .skip)) (.seq (.reg Tryz.r30_6) (.seq (.seq (.reg Tryz.r30_7) (.cond (.t 27) (.seq (.reg Tryz.r30_8) .ret) .skip)) (.seq (.reg Tryz.r30_9) .ret))))))
theorem Tryz.c_actioncache_Lookup : fnComp Tryz.prog 21 = some (36, Tryz.l_actioncache_Lookup,[.t 4,.t 5,.cell 6 2 true]) := by kernel_rfl
def Tryz.r31_0 : LReg := ⟨[⟨some 4,none,.mv (.c (.int .i64 0))⟩],false,[]⟩
def Tryz.r31_1 : LReg := ⟨[⟨some 6,none,.mv (.t 0)⟩,⟨some 7,none,.len (.t 6)⟩,⟨some 8,none,.mv (.c (.int .i64 0))⟩],false,[]⟩
def Tryz.r31_2 : LReg := ⟨[⟨some 9,none,.bin .lss (.t 8) (.t 7)⟩],false,[]⟩
def Tryz.r31_3 : LReg := ⟨[⟨some 10,none,.mv (.t 8)⟩,⟨some 5,none,.mv (.t 10)⟩],false,[]⟩
def Tryz.r31_4 : LReg := ⟨[⟨some 11,none,.mv (.t 1)⟩,⟨some 12,none,.mv (.t 0)⟩,⟨some 13,none,.mv (.t 5)⟩,⟨some 14,none,.idx 1 (.t 12) (.t 13)⟩,⟨some 15,none,.load 1 false (.t 14)⟩,⟨some 16,none,.bin .eql (.t 11) (.t 15)⟩],false,[]⟩
def Tryz.r31_5 : LReg := ⟨[⟨some 17,none,.mv (.t 5)⟩,⟨some 4,none,.mv (.t 17)⟩],false,[]⟩
def Tryz.r31_6 : LReg := ⟨[⟨some 18,none,.bin .add (.t 8) (.c (.int .i64 1))⟩,⟨some 8,none,.mv (.t 18)⟩],false,[]⟩
def Tryz.r31_7 : LReg := ⟨[⟨some 4,none,.mv (.c (.int .i64 (-1)))⟩],false,[]⟩
def Tryz.l_slices_Index_string : LCode := (.seq (.reg Tryz.r31_0) (.seq (.seq (.reg Tryz.r31_1) (.block 0 (.loop (.seq (.reg Tryz.r31_2) (.seq (.cond (.t 9) .skip (.exit 0)) (.seq (.block 1 (.seq (.reg Tryz.r31_3) (.seq (.reg Tryz.r31_4) (.cond (.t 16) (.seq (.reg Tryz.r31_5) .ret) .skip)))) (.reg Tryz.r31_6))))))) (.seq (.reg Tryz.r31_7) .ret)))
theorem Tryz.c_slices_Index_string : fnComp Tryz.prog 146 = some (19, Tryz.l_slices_Index_string,[.t 4]) := by kernel_rfl
def Tryz.r32_0 : LReg := ⟨[⟨some 4,none,.mv (.c (.bool false))⟩],false,[]⟩
def Tryz.r32_1 : LReg := ⟨[⟨some 5,none,.mv (.t 0)⟩,⟨some 6,none,.mv (.t 1)⟩,⟨some 7,none,.call 146 [(.t 5),(.t 6)]⟩,⟨some 8,none,.bin .geq (.t 7) (.c (.int .i64 0))⟩,⟨some 4,none,.mv (.t 8)⟩],false,[]⟩
def Tryz.l_slices_Contains_string : LCode := (.seq (.reg Tryz.r32_0) (.seq (.reg Tryz.r32_1) .ret))
theorem Tryz.c_slices_Contains_string : fnComp Tryz.prog 109 = some (9, Tryz.l_slices_Contains_string,[.t 4]) := by kernel_rfl
theorem Tryz.b_sandbox_step_1 : bodied Tryz.prog 126 = true := by kernel_rfl
def Tryz.r33_0 : LReg := ⟨[⟨some 3,none,.mv (.c (.nils))⟩,⟨some 4,none,.mv (.c (.int .i64 0))⟩],false,[]⟩
def Tryz.r33_1 : LReg := ⟨[⟨some 5,none,.load 1 false (.t 1)⟩,⟨some 6,none,.len (.t 5)⟩,⟨some 7,none,.mv (.t 0)⟩,⟨some 8,none,.len (.t 7)⟩,⟨some 9,none,.bin .add (.t 6) (.t 8)⟩,⟨some 10,none,.bin .gtr (.t 9) (.c (.int .i64 120))⟩],false,[]⟩
def Tryz.r33_2 : LReg := ⟨[⟨some 3,none,.mv (.c (.nils))⟩,⟨some 4,none,.mv (.c (.int .i64 10))⟩],false,[]⟩
def Tryz.r33_3 : LReg := ⟨[⟨some 11,none,.load 1 false (.t 1)⟩,⟨some 12,none,.mv (.t 0)⟩,⟨some 13,none,.append 9 1 16 (.t 11) (.t 12)⟩,⟨some 3,none,.mv (.t 13)⟩,⟨some 4,none,.mv (.c (.int .i64 0))⟩],false,[]⟩
def Tryz.l_sandbox_step_1 : LCode := (.seq (.reg Tryz.r33_0) (.seq (.seq (.reg Tryz.r33_1) (.cond (.t 10) (.seq (.reg Tryz.r33_2) .ret) .skip)) (.seq (.reg Tryz.r33_3) .ret)))
theorem Tryz.c_sandbox_step_1 : fnComp Tryz.prog 126 = some (14, Tryz.l_sandbox_step_1,[.t 3,.t 4]) := by kernel_rfl
def Tryz.r34_0 : LReg := ⟨[⟨some 4,none,.mv (.t 0)⟩,⟨some 5,none,.len (.t 4)⟩,⟨some 6,none,.bin .sub (.t 5) (.c (.int .i64 1))⟩,⟨some 2,none,.mv (.c (.int .i64 0))⟩,⟨some 3,none,.mv (.t 6)⟩],false,[]⟩
def Tryz.r34_1 : LReg := ⟨[⟨some 7,none,.mv (.t 2)⟩,⟨some 8,none,.mv (.t 3)⟩,⟨some 9,none,.bin .lss (.t 7) (.t 8)⟩],false,[]⟩
def Tryz.r34_2 : LReg := ⟨[⟨some 14,none,.mv (.t 0)⟩,⟨some 15,none,.mv (.t 2)⟩,⟨some 16,none,.mv (.t 0)⟩,⟨some 17,none,.mv (.t 3)⟩,⟨some 18,none,.mv (.t 0)⟩,⟨some 19,none,.mv (.t 3)⟩,⟨some 20,none,.idx 1 (.t 18) (.t 19)⟩,⟨some 21,none,.load 1 false (.t 20)⟩,⟨some 22,none,.mv (.t 0)⟩,⟨some 23,none,.mv (.t 2)⟩,⟨some 24,none,.idx 1 (.t 22) (.t 23)⟩,⟨some 25,none,.load 1 false (.t 24)⟩,⟨some 26,none,.idx 1 (.t 14) (.t 15)⟩,⟨none,none,.store 1 (.t 26) (.t 21)⟩,⟨some 27,none,.idx 1 (.t 16) (.t 17)⟩,⟨none,none,.store 1 (.t 27) (.t 25)⟩],true,[(6,10),(7,10),(6,11),(7,11)]⟩
def Tryz.r34_3 : LReg := ⟨[⟨some 10,none,.mv (.t 2)⟩,⟨some 11,none,.bin .add (.t 10) (.c (.int .i64 1))⟩,⟨some 12,none,.mv (.t 3)⟩,⟨some 13,none,.bin .sub (.t 12) (.c (.int .i64 1))⟩,⟨some 2,none,.mv (.t 11)⟩,⟨some 3,none,.mv (.t 13)⟩],false,[]⟩
def Tryz.l_slices_Reverse_string : LCode := (.seq (.reg Tryz.r34_0) (.block 0 (.loop (.seq (.seq (.reg Tryz.r34_1) (.cond (.t 9) .skip (.exit 0))) (.seq (.block 1 (.reg Tryz.r34_2)) (.reg Tryz.r34_3))))))
theorem Tryz.c_slices_Reverse_string : fnComp Tryz.prog 127 = some (28, Tryz.l_slices_Reverse_string,[]) := by kernel_rfl
def Tryz.r35_0 : LReg := ⟨[⟨some 2,none,.mv (.c (.nils))⟩],false,[]⟩
def Tryz.r35_1 : LReg := ⟨[⟨some 3,none,.mv (.c (.nils))⟩],false,[]⟩
def Tryz.r35_2 : LReg := ⟨[⟨some 6,none,.mv (.t 0)⟩,⟨some 7,none,.len (.t 6)⟩,⟨some 8,none,.mv (.c (.int .i64 0))⟩],false,[]⟩
def Tryz.r35_3 : LReg := ⟨[⟨some 9,none,.bin .lss (.t 8) (.t 7)⟩],false,[]⟩
def Tryz.r35_4 : LReg := ⟨[⟨some 10,none,.idx 1 (.t 6) (.t 8)⟩,⟨some 11,none,.load 1 false (.t 10)⟩,⟨some 5,none,.mv (.t 11)⟩],false,[]⟩
def Tryz.r35_5 : LReg := ⟨[⟨some 12,none,.mv (.t 3)⟩,⟨some 13,none,.mv (.t 5)⟩,⟨some 14,none,.call 109 [(.t 12),(.t 13)]⟩,⟨some 15,none,.un .not (.t 14)⟩],false,[]⟩
def Tryz.r35_6 : LReg := ⟨[⟨some 16,none,.mv (.t 3)⟩,⟨some 17,none,.mv (.t 5)⟩,⟨some 18,none,.mkSlice 9 1 1 [.str []] [(0,(.t 17))]⟩,⟨some 19,none,.append 9 1 16 (.t 16) (.t 18)⟩,⟨some 3,none,.mv (.t 19)⟩],false,[]⟩
def Tryz.r35_7 : LReg := ⟨[⟨some 20,none,.bin .add (.t 8) (.c (.int .i64 1))⟩,⟨some 8,none,.mv (.t 20)⟩],false,[]⟩
def Tryz.r35_8 : LReg := ⟨[⟨some 21,none,.mv (.t 3)⟩,⟨some 2,none,.mv (.t 21)⟩],false,[]⟩
def Tryz.l_sandbox_unique : LCode := (.seq (.reg Tryz.r35_0) (.seq (.reg Tryz.r35_1) (.seq (.seq (.reg Tryz.r35_2) (.block 0 (.loop (.seq (.reg Tryz.r35_3) (.seq (.cond (.t 9) .skip (.exit 0)) (.seq (.block 1 (.seq (.reg Tryz.r35_4) (.seq (.reg Tryz.r35_5) (.cond (.t 15) (.reg Tryz.r35_6) .skip)))) (.reg Tryz.r35_7))))))) (.seq (.reg Tryz.r35_8) .ret))))
theorem Tryz.c_sandbox_unique : fnComp Tryz.prog 128 = some (22, Tryz.l_sandbox_unique,[.t 2]) := by kernel_rfl
def Tryz.r36_0 : LReg := ⟨[⟨some 4,none,.box 53 3 (.t 0)⟩,⟨some 5,none,.box 109 2 (.t 1)⟩,⟨some 6,none,.box 25 1 (.t 2)⟩,⟨some 7,none,.box 34 1 (.t 3)⟩,⟨some 8,none,.mv (.c (.nils))⟩,⟨some 9,none,.mv (.c (.int .i64 0))⟩],false,[]⟩
def Tryz.r36_1 : LReg := ⟨[⟨some 14,none,.fieldAddr 0 (.t 6)⟩,⟨some 15,none,.load 1 false (.t 14)⟩,⟨some 16,none,.fieldAddr 1 (.t 5)⟩,⟨some 17,none,.load 1 false (.t 16)⟩,⟨some 18,none,.call 66 [(.t 15),(.t 17)]⟩,⟨some 13,none,.mv (.t 18)⟩,⟨some 19,none,.extract 0 (.t 13)⟩,⟨some 20,none,.extract 1 (.t 13)⟩,⟨some 10,none,.mv (.t 19)⟩,⟨some 11,none,.mv (.t 20)⟩],false,[]⟩
def Tryz.r36_2 : LReg := ⟨[⟨some 21,none,.mkfn 126 [] [(.t 7)]⟩,⟨some 12,none,.mv (.t 21)⟩],false,[]⟩
def Tryz.r36_3 : LReg := ⟨[⟨some 22,none,.fieldAddr 0 (.t 5)⟩,⟨some 23,none,.load 1 false (.t 22)⟩,⟨some 24,none,.bin .eql (.t 23) (.c (.int .i64 1))⟩,⟨some 25,none,.mv (.t 24)⟩,⟨some 26,some (25,false),.fieldAddr 0 (.t 5)⟩,⟨some 27,some (25,false),.load 1 false (.t 26)⟩,⟨some 28,some (25,false),.bin .eql (.t 27) (.c (.int .i64 2))⟩,⟨some 29,none,.pick (.t 25) (.c (.bool true)) (.t 28)⟩,⟨some 30,none,.mv (.t 29)⟩,⟨some 31,some (30,true),.fieldAddr 0 (.t 4)⟩,⟨some 32,some (30,true),.load 1 false (.t 31)⟩,⟨some 33,some (30,true),.fieldAddr 1 (.t 5)⟩,⟨some 34,some (30,true),.load 1 false (.t 33)⟩,⟨some 35,some (30,true),.call 109 [(.t 32),(.t 34)]⟩,⟨some 36,some (30,true),.un .not (.t 35)⟩,⟨some 37,none,.pick (.t 30) (.t 36) (.c (.bool false))⟩],false,[]⟩
def Tryz.r36_4 : LReg := ⟨[⟨some 8,none,.mv (.c (.nils))⟩,⟨some 9,none,.mv (.c (.int .i64 13))⟩],false,[]⟩
def Tryz.r36_5 : LReg := ⟨[⟨some 38,none,.fieldAddr 0 (.t 5)⟩,⟨some 39,none,.load 1 false (.t 38)⟩],false,[]⟩
def Tryz.r36_6 : LReg := ⟨[⟨some 41,none,.bin .eql (.t 39) (.c (.int .i64 1))⟩,⟨some 40,none,.mv (.t 41)⟩],false,[]⟩
def Tryz.r36_7 : LReg := ⟨[⟨some 42,none,.mv (.t 11)⟩,⟨some 43,none,.un .not (.t 42)⟩],false,[]⟩
def Tryz.r36_8 : LReg := ⟨[⟨some 8,none,.mv (.c (.nils))⟩,⟨some 9,none,.mv (.c (.int .i64 6))⟩],false,[]⟩
def Tryz.r36_9 : LReg := ⟨[⟨some 44,none,.mv (.t 12)⟩,⟨some 45,none,.fieldAddr 0 (.t 6)⟩,⟨some 46,none,.load 1 false (.t 45)⟩,⟨some 47,none,.mv (.t 10)⟩,⟨some 48,none,.idx 2 (.t 46) (.t 47)⟩,⟨some 49,none,.fieldAddr 1 (.t 48)⟩,⟨some 50,none,.load 1 false (.t 49)⟩,⟨some 51,none,.callv (.t 44) [(.t 50)]⟩,⟨some 52,none,.extract 0 (.t 51)⟩,⟨some 53,none,.extract 1 (.t 51)⟩,⟨some 8,none,.mv (.t 52)⟩,⟨some 9,none,.mv (.t 53)⟩],false,[]⟩
def Tryz.r36_10 : LReg := ⟨[⟨some 55,none,.bin .eql (.t 39) (.c (.int .i64 2))⟩,⟨some 54,none,.mv (.t 55)⟩],false,[]⟩
def Tryz.r36_11 : LReg := ⟨[⟨some 56,none,.mv (.t 11)⟩],false,[]⟩
def Tryz.r36_12 : LReg := ⟨[⟨some 57,none,.mv (.t 12)⟩,⟨some 58,none,.mkSlice 9 1 1 [.str []] [(0,(.c (.str [121,101,115])))]⟩,⟨some 59,none,.callv (.t 57) [(.t 58)]⟩,⟨some 60,none,.extract 0 (.t 59)⟩,⟨some 61,none,.extract 1 (.t 59)⟩,⟨some 8,none,.mv (.t 60)⟩,⟨some 9,none,.mv (.t 61)⟩],false,[]⟩
def Tryz.r36_13 : LReg := ⟨[⟨some 62,none,.mv (.t 12)⟩,⟨some 63,none,.mkSlice 9 1 1 [.str []] [(0,(.c (.str [110,111])))]⟩,⟨some 64,none,.callv (.t 62) [(.t 63)]⟩,⟨some 65,none,.extract 0 (.t 64)⟩,⟨some 66,none,.extract 1 (.t 64)⟩,⟨some 8,none,.mv (.t 65)⟩,⟨some 9,none,.mv (.t 66)⟩],false,[]⟩
def Tryz.r36_14 : LReg := ⟨[⟨some 68,none,.bin .eql (.t 39) (.c (.int .i64 3))⟩,⟨some 67,none,.mv (.t 68)⟩],false,[]⟩
def Tryz.r36_15 : LReg := ⟨[⟨some 69,none,.mv (.t 12)⟩,⟨some 70,none,.fieldAddr 1 (.t 5)⟩,⟨some 71,none,.load 1 false (.t 70)⟩,⟨some 72,none,.mkSlice 9 1 1 [.str []] [(0,(.t 71))]⟩,⟨some 73,none,.callv (.t 69) [(.t 72)]⟩,⟨some 74,none,.extract 0 (.t 73)⟩,⟨some 75,none,.extract 1 (.t 73)⟩,⟨some 8,none,.mv (.t 74)⟩,⟨some 9,none,.mv (.t 75)⟩],false,[]⟩
def Tryz.r36_16 : LReg := ⟨[⟨some 77,none,.bin .eql (.t 39) (.c (.int .i64 4))⟩,⟨some 76,none,.mv (.t 77)⟩],false,[]⟩
def Tryz.r36_17 : LReg := ⟨[⟨some 78,none,.load 1 false (.t 7)⟩,⟨some 79,none,.call 127 [(.t 78)]⟩],false,[]⟩
def Tryz.r36_18 : LReg := ⟨[⟨some 80,none,.load 1 false (.t 7)⟩,⟨some 8,none,.mv (.t 80)⟩,⟨some 9,none,.mv (.c (.int .i64 0))⟩],false,[]⟩
def Tryz.r36_19 : LReg := ⟨[⟨some 81,none,.load 1 false (.t 7)⟩,⟨some 82,none,.call 128 [(.t 81)]⟩,⟨some 8,none,.mv (.t 82)⟩,⟨some 9,none,.mv (.c (.int .i64 0))⟩],false,[]⟩
def Tryz.l_sandbox_step : LCode := (.seq (.reg Tryz.r36_0) (.seq (.reg Tryz.r36_1) (.seq (.reg Tryz.r36_2) (.seq (.seq (.reg Tryz.r36_3) (.cond (.t 37) (.seq (.reg Tryz.r36_4) .ret) .skip)) (.seq (.seq (.reg Tryz.r36_5) (.block 0 (.seq (.reg Tryz.r36_6) (.cond (.t 40) (.seq (.seq (.reg Tryz.r36_7) (.cond (.t 43) (.seq (.reg Tryz.r36_8) .ret) .skip)) (.seq (.reg Tryz.r36_9) .ret)) (.seq (.reg Tryz.r36_10) (.cond (.t 54) (.seq (.seq (.reg Tryz.r36_11) (.cond (.t 56) (.seq (.reg Tryz.r36_12) .ret) .skip)) (.seq (.reg Tryz.r36_13) .ret)) (.seq (.reg Tryz.r36_14) (.cond (.t 67) (.seq (.reg Tryz.r36_15) .ret) (.seq (.reg Tryz.r36_16) (.cond (.t 76) (.seq (.reg Tryz.r36_17) (.seq (.reg Tryz.r36_18) .ret)) .skip)))))))))) (.seq (.reg Tryz.r36_19) .ret))))))
theorem Tryz.c_sandbox_step : fnComp Tryz.prog 74 = some (83, Tryz.l_sandbox_step,[.t 8,.t 9]) := by kernel_rfl
def Tryz.r37_0 : LReg := ⟨[⟨some 2,none,.box 53 3 (.t 0)⟩,⟨some 3,none,.box 25 1 (.t 1)⟩,⟨some 4,none,.mv (.c (.nils))⟩,⟨some 5,none,.alloc 31 2 [.int .i64 0,.int .i64 0]⟩],false,[]⟩
def Tryz.r37_1 : LReg := ⟨[⟨some 12,none,.load 3 true (.t 2)⟩,⟨some 13,none,.load 1 true (.t 3)⟩,⟨some 14,none,.call 63 [(.t 12),(.t 13)]⟩,⟨some 6,none,.alloc 31 2 [.int .i64 0,.int .i64 0]⟩,⟨none,none,.store 2 (.t 6) (.t 14)⟩],false,[]⟩
def Tryz.r37_2 : LReg := ⟨[⟨some 15,none,.load 2 true (.t 6)⟩,⟨some 16,none,.build [.int .i64 0,.int .i64 0] []⟩,⟨some 17,none,.eqs true [0,0] (.t 15) (.t 16)⟩],false,[]⟩
def Tryz.r37_3 : LReg := ⟨[⟨some 18,none,.load 2 true (.t 6)⟩,⟨some 4,none,.mv (.c (.nils))⟩,⟨none,none,.store 2 (.t 5) (.t 18)⟩],true,[]⟩
def Tryz.r37_4 : LReg := ⟨[⟨some 7,none,.mv (.c (.nils))⟩],false,[]⟩
def Tryz.r37_5 : LReg := ⟨[⟨some 19,none,.fieldAddr 1 (.t 2)⟩,⟨some 20,none,.load 1 false (.t 19)⟩,⟨some 21,none,.len (.t 20)⟩,⟨some 22,none,.mv (.c (.int .i64 0))⟩],false,[]⟩
def Tryz.r37_6 : LReg := ⟨[⟨some 23,none,.bin .lss (.t 22) (.t 21)⟩],false,[]⟩
def Tryz.r37_7 : LReg := ⟨[⟨some 24,none,.mv (.t 22)⟩,⟨some 25,none,.idx 2 (.t 20) (.t 22)⟩,⟨some 26,none,.load 2 true (.t 25)⟩,⟨some 9,none,.alloc 109 2 [.int .i64 0,.str []]⟩,⟨some 8,none,.mv (.t 24)⟩,⟨none,none,.store 2 (.t 9) (.t 26)⟩],false,[]⟩
def Tryz.r37_8 : LReg := ⟨[⟨some 28,none,.load 3 true (.t 2)⟩,⟨some 29,none,.load 2 true (.t 9)⟩,⟨some 30,none,.load 1 true (.t 3)⟩,⟨some 31,none,.mv (.t 7)⟩,⟨some 32,none,.call 74 [(.t 28),(.t 29),(.t 30),(.t 31)]⟩,⟨some 27,none,.mv (.t 32)⟩,⟨some 33,none,.extract 0 (.t 27)⟩,⟨some 34,none,.extract 1 (.t 27)⟩,⟨some 10,none,.mv (.t 33)⟩,⟨some 11,none,.mv (.t 34)⟩],false,[]⟩
def Tryz.r37_9 : LReg := ⟨[⟨some 35,none,.mv (.t 11)⟩,⟨some 36,none,.bin .neq (.t 35) (.c (.int .i64 0))⟩],false,[]⟩
def Tryz.r37_10 : LReg := ⟨[⟨some 37,none,.mv (.t 11)⟩,⟨some 38,none,.mv (.t 8)⟩,⟨some 39,none,.bin .sub (.c (.int .i64 (-3))) (.t 38)⟩,⟨some 40,none,.build [.int .i64 0,.int .i64 0] [(0,1,(.t 37)),(1,1,(.t 39))]⟩,⟨some 4,none,.mv (.c (.nils))⟩,⟨none,none,.store 2 (.t 5) (.t 40)⟩],false,[]⟩
def Tryz.r37_11 : LReg := ⟨[⟨some 41,none,.mv (.t 10)⟩,⟨some 7,none,.mv (.t 41)⟩],false,[]⟩
def Tryz.r37_12 : LReg := ⟨[⟨some 42,none,.bin .add (.t 22) (.c (.int .i64 1))⟩,⟨some 22,none,.mv (.t 42)⟩],false,[]⟩
def Tryz.r37_13 : LReg := ⟨[⟨some 43,none,.mv (.t 7)⟩,⟨some 44,none,.build [.int .i64 0,.int .i64 0] []⟩,⟨some 4,none,.mv (.t 43)⟩,⟨none,none,.store 2 (.t 5) (.t 44)⟩],false,[]⟩
def Tryz.l_sandbox_Run : LCode := (.seq (.reg Tryz.r37_0) (.seq (.seq (.reg Tryz.r37_1) (.seq (.reg Tryz.r37_2) (.cond (.t 17) (.seq (.reg Tryz.r37_3) .ret) .skip))) (.seq (.reg Tryz.r37_4) (.seq (.seq (.reg Tryz.r37_5) (.block 0 (.loop (.seq (.reg Tryz.r37_6) (.seq (.cond (.t 23) .skip (.exit 0)) (.seq (.block 1 (.seq (.reg Tryz.r37_7) (.seq (.reg Tryz.r37_8) (.seq (.seq (.reg Tryz.r37_9) (.cond (.t 36) (.seq (.reg Tryz.r37_10) .ret) .skip)) (.reg Tryz.r37_11))))) (.reg Tryz.r37_12))))))) (.seq (.reg Tryz.r37_13) .ret)))))
theorem Tryz.c_sandbox_Run : fnComp Tryz.prog 25 = some (45, Tryz.l_sandbox_Run,[.t 4,.cell 5 2 true]) := by kernel_rfl
def Tryz.r38_0 : LReg := ⟨[⟨some 2,none,.mv (.c (.nils))⟩],false,[]⟩
def Tryz.r38_1 : LReg := ⟨[⟨some 3,none,.mv (.c (.nils))⟩],false,[]⟩
def Tryz.r38_2 : LReg := ⟨[⟨some 6,none,.mv (.t 0)⟩,⟨some 7,none,.len (.t 6)⟩,⟨some 8,none,.mv (.c (.int .i64 0))⟩],false,[]⟩
def Tryz.r38_3 : LReg := ⟨[⟨some 9,none,.bin .lss (.t 8) (.t 7)⟩],false,[]⟩
def Tryz.r38_4 : LReg := ⟨[⟨some 10,none,.idx 2 (.t 6) (.t 8)⟩,⟨some 11,none,.load 2 true (.t 10)⟩,⟨some 5,none,.alloc 114 2 [.int .i64 0,.nils]⟩,⟨none,none,.store 2 (.t 5) (.t 11)⟩],false,[]⟩
def Tryz.r38_5 : LReg := ⟨[⟨some 12,none,.mv (.t 3)⟩,⟨some 13,none,.fieldAddr 0 (.t 5)⟩,⟨some 14,none,.load 1 false (.t 13)⟩,⟨some 15,none,.fieldAddr 1 (.t 5)⟩,⟨some 16,none,.load 1 false (.t 15)⟩,⟨some 17,none,.call 71 [(.t 16)]⟩,⟨some 18,none,.build [.int .i64 0,.nils] [(0,1,(.t 14)),(1,1,(.t 17))]⟩,⟨some 19,none,.mkSlice 114 2 1 [.int .i64 0,.nils] [(0,(.t 18))]⟩,⟨some 20,none,.append 114 2 32 (.t 12) (.t 19)⟩,⟨some 3,none,.mv (.t 20)⟩],true,[(1,3),(2,3),(1,4),(2,4),(1,5),(2,5)]⟩
def Tryz.r38_6 : LReg := ⟨[⟨some 21,none,.bin .add (.t 8) (.c (.int .i64 1))⟩,⟨some 8,none,.mv (.t 21)⟩],false,[]⟩
def Tryz.r38_7 : LReg := ⟨[⟨some 22,none,.mv (.t 3)⟩,⟨some 2,none,.mv (.t 22)⟩],false,[]⟩
def Tryz.l_actioncache_clone : LCode := (.seq (.reg Tryz.r38_0) (.seq (.reg Tryz.r38_1) (.seq (.seq (.reg Tryz.r38_2) (.block 0 (.loop (.seq (.reg Tryz.r38_3) (.seq (.cond (.t 9) .skip (.exit 0)) (.seq (.block 1 (.seq (.reg Tryz.r38_4) (.reg Tryz.r38_5))) (.reg Tryz.r38_6))))))) (.seq (.reg Tryz.r38_7) .ret))))
theorem Tryz.c_actioncache_clone : fnComp Tryz.prog 72 = some (23, Tryz.l_actioncache_clone,[.t 2]) := by kernel_rfl
def Tryz.r39_0 : LReg := ⟨[⟨some 6,none,.mv (.c (.nils))⟩,⟨some 7,none,.alloc 31 2 [.int .i64 0,.int .i64 0]⟩],false,[]⟩
def Tryz.r39_1 : LReg := ⟨[⟨some 16,none,.mv (.t 0)⟩,⟨some 17,none,.mv (.t 1)⟩,⟨some 18,none,.call 21 [(.t 16),(.t 17)]⟩,⟨some 15,none,.mv (.t 18)⟩,⟨some 19,none,.extract 0 (.t 15)⟩,⟨some 20,none,.extract 1 (.t 15)⟩,⟨some 21,none,.extract 2 (.t 15)⟩,⟨some 10,none,.alloc 31 2 [.int .i64 0,.int .i64 0]⟩,⟨some 8,none,.mv (.t 19)⟩,⟨some 9,none,.mv (.t 20)⟩,⟨none,none,.store 2 (.t 10) (.t 21)⟩],false,[]⟩
def Tryz.r39_2 : LReg := ⟨[⟨some 22,none,.load 2 true (.t 10)⟩,⟨some 23,none,.build [.int .i64 0,.int .i64 0] []⟩,⟨some 24,none,.eqs true [0,0] (.t 22) (.t 23)⟩],false,[]⟩
def Tryz.r39_3 : LReg := ⟨[⟨some 25,none,.load 2 true (.t 10)⟩,⟨some 6,none,.mv (.c (.nils))⟩,⟨none,none,.store 2 (.t 7) (.t 25)⟩],true,[]⟩
def Tryz.r39_4 : LReg := ⟨[⟨some 26,none,.mv (.t 2)⟩,⟨some 27,none,.call 122 [(.t 26),(.c (.int .i64 (-3)))]⟩,⟨some 11,none,.alloc 31 2 [.int .i64 0,.int .i64 0]⟩,⟨none,none,.store 2 (.t 11) (.t 27)⟩],false,[]⟩
def Tryz.r39_5 : LReg := ⟨[⟨some 28,none,.load 2 true (.t 11)⟩,⟨some 29,none,.build [.int .i64 0,.int .i64 0] []⟩,⟨some 30,none,.eqs true [0,0] (.t 28) (.t 29)⟩],false,[]⟩
def Tryz.r39_6 : LReg := ⟨[⟨some 31,none,.load 2 true (.t 11)⟩,⟨some 6,none,.mv (.c (.nils))⟩,⟨none,none,.store 2 (.t 7) (.t 31)⟩],true,[]⟩
def Tryz.r39_7 : LReg := ⟨[⟨some 32,none,.mv (.t 9)⟩,⟨some 33,none,.un .not (.t 32)⟩,⟨some 34,none,.mv (.t 33)⟩,⟨some 35,some (34,true),.mv (.t 0)⟩,⟨some 36,some (34,true),.len (.t 35)⟩,⟨some 37,some (34,true),.bin .geq (.t 36) (.c (.int .i64 16))⟩,⟨some 38,none,.pick (.t 34) (.t 37) (.c (.bool false))⟩],false,[]⟩
def Tryz.r39_8 : LReg := ⟨[⟨some 39,none,.build [.int .i64 0,.int .i64 0] [(0,1,(.c (.int .i64 14)))]⟩,⟨some 6,none,.mv (.c (.nils))⟩,⟨none,none,.store 2 (.t 7) (.t 39)⟩],false,[]⟩
def Tryz.r39_9 : LReg := ⟨[⟨some 40,none,.mv (.t 0)⟩,⟨some 41,none,.call 72 [(.t 40)]⟩,⟨some 12,none,.mv (.t 41)⟩],false,[]⟩
def Tryz.r39_10 : LReg := ⟨[⟨some 43,none,.mv (.t 12)⟩,⟨some 44,none,.mv (.t 1)⟩,⟨some 45,none,.call 70 [(.t 43),(.t 44)]⟩,⟨some 42,none,.mv (.t 45)⟩,⟨some 46,none,.extract 0 (.t 42)⟩,⟨some 47,none,.extract 1 (.t 42)⟩,⟨some 13,none,.mv (.t 46)⟩,⟨some 14,none,.mv (.t 47)⟩],false,[]⟩
def Tryz.r39_11 : LReg := ⟨[⟨some 48,none,.mv (.t 9)⟩,⟨some 49,none,.un .not (.t 48)⟩],false,[]⟩
def Tryz.r39_12 : LReg := ⟨[⟨some 50,none,.mv (.t 12)⟩,⟨some 51,none,.mv (.t 13)⟩,⟨some 52,none,.mv (.t 1)⟩,⟨some 53,none,.build [.int .i64 0,.nils] [(0,1,(.t 52))]⟩,⟨some 54,none,.mkSlice 114 2 1 [.int .i64 0,.nils] [(0,(.t 53))]⟩,⟨some 55,none,.call 125 [(.t 50),(.t 51),(.t 54)]⟩,⟨some 12,none,.mv (.t 55)⟩],false,[]⟩
def Tryz.r39_13 : LReg := ⟨[⟨some 56,none,.mv (.t 12)⟩,⟨some 57,none,.mv (.t 13)⟩,⟨some 58,none,.mv (.t 2)⟩,⟨some 59,none,.call 71 [(.t 58)]⟩,⟨some 60,none,.idx 2 (.t 56) (.t 57)⟩,⟨some 61,none,.fieldAddr 1 (.t 60)⟩,⟨none,none,.store 1 (.t 61) (.t 59)⟩],false,[]⟩
def Tryz.r39_14 : LReg := ⟨[⟨some 62,none,.mv (.t 12)⟩,⟨some 63,none,.build [.int .i64 0,.int .i64 0] []⟩,⟨some 6,none,.mv (.t 62)⟩,⟨none,none,.store 2 (.t 7) (.t 63)⟩],false,[]⟩
def Tryz.l_actioncache_Store : LCode := (.seq (.reg Tryz.r39_0) (.seq (.reg Tryz.r39_1) (.seq (.seq (.reg Tryz.r39_2) (.cond (.t 24) (.seq (.reg Tryz.r39_3) .ret) .skip)) (.seq (.seq (.reg Tryz.r39_4) (.seq (.reg Tryz.r39_5) (.cond (.t 30) (.seq (.reg Tryz.r39_6) .ret) .skip))) (.seq (.seq (.reg Tryz.r39_7) (.cond (.t 38) (.seq (.reg Tryz.r39_8) .ret) .skip)) (.seq (.reg Tryz.r39_9) (.seq (.reg Tryz.r39_10) (.seq (.seq (.reg Tryz.r39_11) (.cond (.t 49) (.reg Tryz.r39_12) .skip)) (.seq (.reg Tryz.r39_13) (.seq (.reg Tryz.r39_14) .ret))))))))))
theorem Tryz.c_actioncache_Store : fnComp Tryz.prog 73 = some (64, Tryz.l_actioncache_Store,[.t 6,.cell 7 2 true]) := by kernel_rfl
def Tryz.r40_0 : LReg := ⟨[⟨some 4,none,.box 53 3 (.t 1)⟩,⟨some 5,none,.box 25 1 (.t 2)⟩,⟨some 6,none,.mv (.c (.nils))⟩,⟨some 7,none,.mv (.c (.nils))⟩,⟨some 8,none,.mv (.c (.bool false))⟩,⟨some 9,none,.alloc 31 2 [.int .i64 0,.int .i64 0]⟩],false,[]⟩
def Tryz.r40_1 : LReg := ⟨[⟨some 18,none,.mv (.t 0)⟩,⟨some 19,none,.call 68 [(.t 18)]⟩,⟨some 10,none,.alloc 31 2 [.int .i64 0,.int .i64 0]⟩,⟨none,none,.store 2 (.t 10) (.t 19)⟩],false,[]⟩
def Tryz.r40_2 : LReg := ⟨[⟨some 20,none,.load 2 true (.t 10)⟩,⟨some 21,none,.build [.int .i64 0,.int .i64 0] []⟩,⟨some 22,none,.eqs true [0,0] (.t 20) (.t 21)⟩],false,[]⟩
def Tryz.r40_3 : LReg := ⟨[⟨some 23,none,.load 2 true (.t 10)⟩,⟨some 6,none,.mv (.c (.nils))⟩,⟨some 7,none,.mv (.c (.nils))⟩,⟨some 8,none,.mv (.c (.bool false))⟩,⟨none,none,.store 2 (.t 9) (.t 23)⟩],true,[]⟩
def Tryz.r40_4 : LReg := ⟨[⟨some 25,none,.load 3 true (.t 4)⟩,⟨some 26,none,.load 1 true (.t 5)⟩,⟨some 27,none,.call 20 [(.t 25),(.t 26)]⟩,⟨some 24,none,.mv (.t 27)⟩,⟨some 28,none,.extract 0 (.t 24)⟩,⟨some 29,none,.extract 1 (.t 24)⟩,⟨some 12,none,.alloc 31 2 [.int .i64 0,.int .i64 0]⟩,⟨some 11,none,.mv (.t 28)⟩,⟨none,none,.store 2 (.t 12) (.t 29)⟩],false,[]⟩
def Tryz.r40_5 : LReg := ⟨[⟨some 30,none,.load 2 true (.t 12)⟩,⟨some 31,none,.build [.int .i64 0,.int .i64 0] []⟩,⟨some 32,none,.eqs true [0,0] (.t 30) (.t 31)⟩],false,[]⟩
def Tryz.r40_6 : LReg := ⟨[⟨some 33,none,.load 2 true (.t 12)⟩,⟨some 6,none,.mv (.c (.nils))⟩,⟨some 7,none,.mv (.c (.nils))⟩,⟨some 8,none,.mv (.c (.bool false))⟩,⟨none,none,.store 2 (.t 9) (.t 33)⟩],true,[]⟩
def Tryz.r40_7 : LReg := ⟨[⟨some 35,none,.mv (.t 0)⟩,⟨some 36,none,.mv (.t 11)⟩,⟨some 37,none,.call 21 [(.t 35),(.t 36)]⟩,⟨some 34,none,.mv (.t 37)⟩,⟨some 38,none,.extract 0 (.t 34)⟩,⟨some 39,none,.extract 1 (.t 34)⟩,⟨some 40,none,.extract 2 (.t 34)⟩,⟨some 15,none,.alloc 31 2 [.int .i64 0,.int .i64 0]⟩,⟨some 13,none,.mv (.t 38)⟩,⟨some 14,none,.mv (.t 39)⟩,⟨none,none,.store 2 (.t 15) (.t 40)⟩],false,[]⟩
def Tryz.r40_8 : LReg := ⟨[⟨some 41,none,.mv (.t 14)⟩],false,[]⟩
def Tryz.r40_9 : LReg := ⟨[⟨some 42,none,.mv (.t 13)⟩,⟨some 43,none,.mv (.t 0)⟩,⟨some 44,none,.call 72 [(.t 43)]⟩,⟨some 45,none,.build [.int .i64 0,.int .i64 0] []⟩,⟨some 6,none,.mv (.t 42)⟩,⟨some 7,none,.mv (.t 44)⟩,⟨some 8,none,.mv (.c (.bool true))⟩,⟨none,none,.store 2 (.t 9) (.t 45)⟩],false,[]⟩
def Tryz.r40_10 : LReg := ⟨[⟨some 47,none,.load 3 true (.t 4)⟩,⟨some 48,none,.load 1 true (.t 5)⟩,⟨some 49,none,.call 25 [(.t 47),(.t 48)]⟩,⟨some 46,none,.mv (.t 49)⟩,⟨some 50,none,.extract 0 (.t 46)⟩,⟨some 51,none,.extract 1 (.t 46)⟩,⟨some 16,none,.mv (.t 50)⟩,⟨none,none,.store 2 (.t 12) (.t 51)⟩],false,[]⟩
def Tryz.r40_11 : LReg := ⟨[⟨some 52,none,.load 2 true (.t 12)⟩,⟨some 53,none,.build [.int .i64 0,.int .i64 0] []⟩,⟨some 54,none,.eqs true [0,0] (.t 52) (.t 53)⟩],false,[]⟩
def Tryz.r40_12 : LReg := ⟨[⟨some 55,none,.load 2 true (.t 12)⟩,⟨some 6,none,.mv (.c (.nils))⟩,⟨some 7,none,.mv (.c (.nils))⟩,⟨some 8,none,.mv (.c (.bool false))⟩,⟨none,none,.store 2 (.t 9) (.t 55)⟩],true,[]⟩
def Tryz.r40_13 : LReg := ⟨[⟨some 57,none,.mv (.t 0)⟩,⟨some 58,none,.mv (.t 11)⟩,⟨some 59,none,.mv (.t 16)⟩,⟨some 60,none,.call 73 [(.t 57),(.t 58),(.t 59)]⟩,⟨some 56,none,.mv (.t 60)⟩,⟨some 61,none,.extract 0 (.t 56)⟩,⟨some 62,none,.extract 1 (.t 56)⟩,⟨some 17,none,.mv (.t 61)⟩,⟨none,none,.store 2 (.t 12) (.t 62)⟩],false,[]⟩
def Tryz.r40_14 : LReg := ⟨[⟨some 63,none,.load 2 true (.t 12)⟩,⟨some 64,none,.build [.int .i64 0,.int .i64 0] []⟩,⟨some 65,none,.eqs true [0,0] (.t 63) (.t 64)⟩],false,[]⟩
def Tryz.r40_15 : LReg := ⟨[⟨some 66,none,.mv (.t 0)⟩,⟨some 67,none,.call 72 [(.t 66)]⟩,⟨some 17,none,.mv (.t 67)⟩],false,[]⟩
def Tryz.r40_16 : LReg := ⟨[⟨some 68,none,.mv (.t 16)⟩,⟨some 69,none,.mv (.t 17)⟩,⟨some 70,none,.build [.int .i64 0,.int .i64 0] []⟩,⟨some 6,none,.mv (.t 68)⟩,⟨some 7,none,.mv (.t 69)⟩,⟨some 8,none,.mv (.c (.bool false))⟩,⟨none,none,.store 2 (.t 9) (.t 70)⟩],false,[]⟩
def Tryz.l_actioncache_Run : LCode := (.seq (.reg Tryz.r40_0) (.seq (.seq (.reg Tryz.r40_1) (.seq (.reg Tryz.r40_2) (.cond (.t 22) (.seq (.reg Tryz.r40_3) .ret) .skip))) (.seq (.reg Tryz.r40_4) (.seq (.seq (.reg Tryz.r40_5) (.cond (.t 32) (.seq (.reg Tryz.r40_6) .ret) .skip)) (.seq (.seq (.reg Tryz.r40_7) (.seq (.reg Tryz.r40_8) (.cond (.t 41) (.seq (.reg Tryz.r40_9) .ret) .skip))) (.seq (.reg Tryz.r40_10) (.seq (.seq (.reg Tryz.r40_11) (.cond (.t 54) (.seq (.reg Tryz.r40_12) .ret) .skip)) (.seq (.reg Tryz.r40_13) (.seq (.seq (.reg Tryz.r40_14) (.cond (.t 65) (.reg Tryz.r40_15) .skip)) (.seq (.reg Tryz.r40_16) .ret))))))))))
theorem Tryz.c_actioncache_Run : fnComp Tryz.prog 22 = some (71, Tryz.l_actioncache_Run,[.t 6,.t 7,.t 8,.cell 9 2 true]) := by kernel_rfl
def Tryz.r41_0 : LReg := ⟨[⟨some 4,none,.mv (.c (.bool false))⟩],false,[]⟩
def Tryz.r41_1 : LReg := ⟨[⟨some 6,none,.mv (.t 0)⟩,⟨some 7,none,.len (.t 6)⟩,⟨some 8,none,.mv (.t 1)⟩,⟨some 9,none,.len (.t 8)⟩,⟨some 10,none,.bin .neq (.t 7) (.t 9)⟩],false,[]⟩
def Tryz.r41_2 : LReg := ⟨[⟨some 4,none,.mv (.c (.bool false))⟩],false,[]⟩
def Tryz.r41_3 : LReg := ⟨[⟨some 5,none,.mv (.c (.int .i64 0))⟩],false,[]⟩
def Tryz.r41_4 : LReg := ⟨[⟨some 11,none,.mv (.t 5)⟩,⟨some 12,none,.mv (.t 0)⟩,⟨some 13,none,.len (.t 12)⟩,⟨some 14,none,.bin .lss (.t 11) (.t 13)⟩],false,[]⟩
def Tryz.r41_5 : LReg := ⟨[⟨some 17,none,.mv (.t 0)⟩,⟨some 18,none,.mv (.t 5)⟩,⟨some 19,none,.idx 1 (.t 17) (.t 18)⟩,⟨some 20,none,.load 1 false (.t 19)⟩,⟨some 21,none,.mv (.t 1)⟩,⟨some 22,none,.mv (.t 5)⟩,⟨some 23,none,.idx 1 (.t 21) (.t 22)⟩,⟨some 24,none,.load 1 false (.t 23)⟩,⟨some 25,none,.bin .neq (.t 20) (.t 24)⟩],true,[(2,6),(3,6),(2,7),(3,7)]⟩
def Tryz.r41_6 : LReg := ⟨[⟨some 4,none,.mv (.c (.bool false))⟩],false,[]⟩
def Tryz.r41_7 : LReg := ⟨[⟨some 15,none,.mv (.t 5)⟩,⟨some 16,none,.bin .add (.t 15) (.c (.int .i64 1))⟩,⟨some 5,none,.mv (.t 16)⟩],false,[]⟩
def Tryz.r41_8 : LReg := ⟨[⟨some 4,none,.mv (.c (.bool true))⟩],false,[]⟩
def Tryz.l_ref6_Strings : LCode := (.seq (.reg Tryz.r41_0) (.seq (.seq (.reg Tryz.r41_1) (.cond (.t 10) (.seq (.reg Tryz.r41_2) .ret) .skip)) (.seq (.seq (.reg Tryz.r41_3) (.block 0 (.loop (.seq (.seq (.reg Tryz.r41_4) (.cond (.t 14) .skip (.exit 0))) (.seq (.block 1 (.seq (.reg Tryz.r41_5) (.cond (.t 25) (.seq (.reg Tryz.r41_6) .ret) .skip))) (.reg Tryz.r41_7)))))) (.seq (.reg Tryz.r41_8) .ret))))
theorem Tryz.c_ref6_Strings : fnComp Tryz.prog 24 = some (26, Tryz.l_ref6_Strings,[.t 4]) := by kernel_rfl
def Tryz.r42_0 : LReg := ⟨[⟨some 0,none,.alloc 53 3 [.nils,.nils,.str []]⟩],false,[]⟩
def Tryz.r42_1 : LReg := ⟨[⟨some 1,none,.mkSlice 9 1 1 [.str []] [(0,(.c (.str [97])))]⟩,⟨some 2,none,.build [.int .i64 0,.str []] [(0,1,(.c (.int .i64 1))),(1,1,(.c (.str [97])))]⟩,⟨some 3,none,.build [.int .i64 0,.str []] [(0,1,(.c (.int .i64 3))),(1,1,(.c (.str [122])))]⟩,⟨some 4,none,.build [.int .i64 0,.str []] [(0,1,(.c (.int .i64 4)))]⟩,⟨some 5,none,.mkSlice 109 2 3 [.int .i64 0,.str []] [(0,(.t 2)),(1,(.t 3)),(2,(.t 4))]⟩,⟨some 6,none,.build [.nils,.nils,.str []] [(0,1,(.t 1)),(1,1,(.t 5)),(2,1,(.c (.str [98])))]⟩,⟨none,none,.store 3 (.t 0) (.t 6)⟩],false,[]⟩
def Tryz.l_law6_action : LCode := (.seq (.reg Tryz.r42_0) (.seq (.reg Tryz.r42_1) .ret))
theorem Tryz.c_law6_action : fnComp Tryz.prog 77 = some (7, Tryz.l_law6_action,[.cell 0 3 true]) := by kernel_rfl
def Tryz.r43_0 : LReg := ⟨[⟨some 0,none,.alloc 25 1 [.nils]⟩],false,[]⟩
def Tryz.r43_1 : LReg := ⟨[⟨some 1,none,.mkSlice 9 1 2 [.str []] [(0,(.c (.str [120]))),(1,(.c (.str [121])))]⟩,⟨some 2,none,.build [.str [],.nils] [(0,1,(.c (.str [97]))),(1,1,(.t 1))]⟩,⟨some 3,none,.mkSlice 37 2 1 [.str [],.nils] [(0,(.t 2))]⟩,⟨some 4,none,.build [.nils] [(0,1,(.t 3))]⟩,⟨none,none,.store 1 (.t 0) (.t 4)⟩],false,[]⟩
def Tryz.l_law6_files : LCode := (.seq (.reg Tryz.r43_0) (.seq (.reg Tryz.r43_1) .ret))
theorem Tryz.c_law6_files : fnComp Tryz.prog 78 = some (5, Tryz.l_law6_files,[.cell 0 1 true]) := by kernel_rfl
def Tryz.r44_0 : LReg := ⟨[⟨some 4,none,.alloc 31 2 [.int .i64 0,.int .i64 0]⟩],false,[]⟩
def Tryz.r44_1 : LReg := ⟨[⟨some 5,none,.mv (.t 0)⟩,⟨some 6,none,.mv (.t 1)⟩,⟨some 7,none,.build [.int .i64 0,.int .i64 0] [(0,1,(.t 5)),(1,1,(.t 6))]⟩,⟨none,none,.store 2 (.t 4) (.t 7)⟩],false,[]⟩
def Tryz.l_law6_fault : LCode := (.seq (.reg Tryz.r44_0) (.seq (.reg Tryz.r44_1) .ret))
theorem Tryz.c_law6_fault : fnComp Tryz.prog 79 = some (8, Tryz.l_law6_fault,[.cell 4 2 true]) := by kernel_rfl
def Tryz.r45_0 : LReg := ⟨[⟨some 0,none,.mv (.c (.bool false))⟩],false,[]⟩
def Tryz.r45_1 : LReg := ⟨[⟨some 19,none,.call 77 []⟩,⟨some 20,none,.call 78 []⟩,⟨some 21,none,.call 22 [(.c (.nils)),(.t 19),(.t 20)]⟩,⟨some 18,none,.mv (.t 21)⟩,⟨some 22,none,.extract 0 (.t 18)⟩,⟨some 23,none,.extract 1 (.t 18)⟩,⟨some 24,none,.extract 2 (.t 18)⟩,⟨some 25,none,.extract 3 (.t 18)⟩,⟨some 4,none,.alloc 31 2 [.int .i64 0,.int .i64 0]⟩,⟨some 1,none,.mv (.t 22)⟩,⟨some 2,none,.mv (.t 23)⟩,⟨some 3,none,.mv (.t 24)⟩,⟨none,none,.store 2 (.t 4) (.t 25)⟩],false,[]⟩
def Tryz.r45_2 : LReg := ⟨[⟨some 27,none,.mv (.t 2)⟩,⟨some 28,none,.call 77 []⟩,⟨some 29,none,.call 78 []⟩,⟨some 30,none,.call 22 [(.t 27),(.t 28),(.t 29)]⟩,⟨some 26,none,.mv (.t 30)⟩,⟨some 31,none,.extract 0 (.t 26)⟩,⟨some 32,none,.extract 1 (.t 26)⟩,⟨some 33,none,.extract 2 (.t 26)⟩,⟨some 34,none,.extract 3 (.t 26)⟩,⟨some 8,none,.alloc 31 2 [.int .i64 0,.int .i64 0]⟩,⟨some 5,none,.mv (.t 31)⟩,⟨some 6,none,.mv (.t 32)⟩,⟨some 7,none,.mv (.t 33)⟩,⟨none,none,.store 2 (.t 8) (.t 34)⟩],false,[]⟩
def Tryz.r45_3 : LReg := ⟨[⟨some 36,none,.mkSlice 9 1 1 [.str []] [(0,(.c (.str [113])))]⟩,⟨some 37,none,.call 73 [(.c (.nils)),(.c (.int .i64 5)),(.t 36)]⟩,⟨some 35,none,.mv (.t 37)⟩,⟨some 38,none,.extract 0 (.t 35)⟩,⟨some 39,none,.extract 1 (.t 35)⟩,⟨some 10,none,.alloc 31 2 [.int .i64 0,.int .i64 0]⟩,⟨some 9,none,.mv (.t 38)⟩,⟨none,none,.store 2 (.t 10) (.t 39)⟩],false,[]⟩
def Tryz.r45_4 : LReg := ⟨[⟨some 41,none,.mv (.t 9)⟩,⟨some 42,none,.call 21 [(.t 41),(.c (.int .i64 5))]⟩,⟨some 40,none,.mv (.t 42)⟩,⟨some 43,none,.extract 0 (.t 40)⟩,⟨some 44,none,.extract 1 (.t 40)⟩,⟨some 45,none,.extract 2 (.t 40)⟩,⟨some 13,none,.alloc 31 2 [.int .i64 0,.int .i64 0]⟩,⟨some 11,none,.mv (.t 43)⟩,⟨some 12,none,.mv (.t 44)⟩,⟨none,none,.store 2 (.t 13) (.t 45)⟩],false,[]⟩
def Tryz.r45_5 : LReg := ⟨[⟨some 47,none,.build [.nils,.nils,.str []] []⟩,⟨some 48,none,.call 78 []⟩,⟨some 49,none,.call 20 [(.t 47),(.t 48)]⟩,⟨some 46,none,.mv (.t 49)⟩,⟨some 50,none,.extract 0 (.t 46)⟩,⟨some 51,none,.extract 1 (.t 46)⟩,⟨some 15,none,.alloc 31 2 [.int .i64 0,.int .i64 0]⟩,⟨some 14,none,.mv (.t 50)⟩,⟨none,none,.store 2 (.t 15) (.t 51)⟩],false,[]⟩
def Tryz.r45_6 : LReg := ⟨[⟨some 52,none,.mkSlice 9 1 3 [.str []] [(0,(.c (.str [122]))),(1,(.c (.str [121]))),(2,(.c (.str [120])))]⟩,⟨some 16,none,.mv (.t 52)⟩],false,[]⟩
def Tryz.r45_7 : LReg := ⟨[⟨some 53,none,.fieldAddr 0 (.t 4)⟩,⟨some 54,none,.load 1 false (.t 53)⟩,⟨some 55,none,.bin .eql (.t 54) (.c (.int .i64 0))⟩,⟨some 56,none,.mv (.t 55)⟩,⟨some 57,some (56,true),.fieldAddr 0 (.t 8)⟩,⟨some 58,some (56,true),.load 1 false (.t 57)⟩,⟨some 59,some (56,true),.bin .eql (.t 58) (.c (.int .i64 0))⟩,⟨some 60,none,.pick (.t 56) (.t 59) (.c (.bool false))⟩,⟨some 61,none,.mv (.t 60)⟩,⟨some 62,some (61,true),.fieldAddr 0 (.t 10)⟩,⟨some 63,some (61,true),.load 1 false (.t 62)⟩,⟨some 64,some (61,true),.bin .eql (.t 63) (.c (.int .i64 0))⟩,⟨some 65,none,.pick (.t 61) (.t 64) (.c (.bool false))⟩,⟨some 66,none,.mv (.t 65)⟩,⟨some 67,some (66,true),.fieldAddr 0 (.t 13)⟩,⟨some 68,some (66,true),.load 1 false (.t 67)⟩,⟨some 69,some (66,true),.bin .eql (.t 68) (.c (.int .i64 0))⟩,⟨some 70,none,.pick (.t 66) (.t 69) (.c (.bool false))⟩,⟨some 71,none,.mv (.t 70)⟩,⟨some 72,some (71,true),.load 2 true (.t 15)⟩,⟨some 73,some (71,true),.call 79 [(.c (.int .i64 12)),(.c (.int .i64 (-2)))]⟩,⟨some 74,some (71,true),.eqs false [0,0] (.t 72) (.t 73)⟩,⟨some 75,none,.pick (.t 71) (.t 74) (.c (.bool false))⟩,⟨some 17,none,.mv (.t 75)⟩],true,[(19,20)]⟩
def Tryz.r45_8 : LReg := ⟨[⟨some 76,none,.mv (.t 17)⟩,⟨some 77,none,.mv (.t 76)⟩,⟨some 78,some (77,true),.mv (.t 1)⟩,⟨some 79,some (77,true),.mv (.t 16)⟩,⟨some 80,some (77,true),.call 24 [(.t 78),(.t 79)]⟩,⟨some 81,none,.pick (.t 77) (.t 80) (.c (.bool false))⟩,⟨some 82,none,.mv (.t 81)⟩,⟨some 83,some (82,true),.mv (.t 5)⟩,⟨some 84,some (82,true),.mv (.t 16)⟩,⟨some 85,some (82,true),.call 24 [(.t 83),(.t 84)]⟩,⟨some 86,none,.pick (.t 82) (.t 85) (.c (.bool false))⟩,⟨some 87,none,.mv (.t 86)⟩,⟨some 88,some (87,true),.mv (.t 3)⟩,⟨some 89,some (87,true),.un .not (.t 88)⟩,⟨some 90,none,.pick (.t 87) (.t 89) (.c (.bool false))⟩,⟨some 91,none,.mv (.t 90)⟩,⟨some 92,some (91,true),.mv (.t 7)⟩,⟨some 93,none,.pick (.t 91) (.t 92) (.c (.bool false))⟩,⟨some 94,none,.mv (.t 93)⟩,⟨some 95,some (94,true),.mv (.t 2)⟩,⟨some 96,some (94,true),.len (.t 95)⟩,⟨some 97,some (94,true),.bin .eql (.t 96) (.c (.int .i64 1))⟩,⟨some 98,none,.pick (.t 94) (.t 97) (.c (.bool false))⟩,⟨some 99,none,.mv (.t 98)⟩,⟨some 100,some (99,true),.mv (.t 12)⟩,⟨some 101,none,.pick (.t 99) (.t 100) (.c (.bool false))⟩,⟨some 102,none,.mv (.t 101)⟩,⟨some 103,some (102,true),.mv (.t 11)⟩,⟨some 104,some (102,true),.mkSlice 9 1 1 [.str []] [(0,(.c (.str [113])))]⟩,⟨some 105,some (102,true),.call 24 [(.t 103),(.t 104)]⟩,⟨some 106,none,.pick (.t 102) (.t 105) (.c (.bool false))⟩,⟨some 0,none,.mv (.t 106)⟩],false,[]⟩
def Tryz.l_law6_caches : LCode := (.seq (.reg Tryz.r45_0) (.seq (.reg Tryz.r45_1) (.seq (.reg Tryz.r45_2) (.seq (.reg Tryz.r45_3) (.seq (.reg Tryz.r45_4) (.seq (.reg Tryz.r45_5) (.seq (.reg Tryz.r45_6) (.seq (.reg Tryz.r45_7) (.seq (.reg Tryz.r45_8) .ret)))))))))
theorem Tryz.c_law6_caches : fnComp Tryz.prog 29 = some (107, Tryz.l_law6_caches,[.t 0]) := by kernel_rfl
def Tryz.r46_0 : LReg := ⟨[⟨some 4,none,.alloc 31 2 [.int .i64 0,.int .i64 0]⟩],false,[]⟩
def Tryz.r46_1 : LReg := ⟨[⟨some 5,none,.mv (.t 0)⟩,⟨some 6,none,.mv (.t 1)⟩,⟨some 7,none,.build [.int .i64 0,.int .i64 0] [(0,1,(.t 5)),(1,1,(.t 6))]⟩,⟨none,none,.store 2 (.t 4) (.t 7)⟩],false,[]⟩
def Tryz.l_ref6_fault : LCode := (.seq (.reg Tryz.r46_0) (.seq (.reg Tryz.r46_1) .ret))
theorem Tryz.c_ref6_fault : fnComp Tryz.prog 80 = some (8, Tryz.l_ref6_fault,[.cell 4 2 true]) := by kernel_rfl
def Tryz.r47_0 : LReg := ⟨[⟨some 6,none,.mv (.c (.bool false))⟩],false,[]⟩
def Tryz.r47_1 : LReg := ⟨[⟨some 7,none,.mv (.t 0)⟩,⟨some 8,none,.mv (.t 1)⟩,⟨some 9,none,.bin .geq (.t 7) (.t 8)⟩,⟨some 10,none,.mv (.t 9)⟩,⟨some 11,some (10,true),.mv (.t 0)⟩,⟨some 12,some (10,true),.mv (.t 2)⟩,⟨some 13,some (10,true),.bin .leq (.t 11) (.t 12)⟩,⟨some 14,none,.pick (.t 10) (.t 13) (.c (.bool false))⟩,⟨some 6,none,.mv (.t 14)⟩],false,[]⟩
def Tryz.l_ref5_in : LCode := (.seq (.reg Tryz.r47_0) (.seq (.reg Tryz.r47_1) .ret))
theorem Tryz.c_ref5_in : fnComp Tryz.prog 131 = some (15, Tryz.l_ref5_in,[.t 6]) := by kernel_rfl
def Tryz.r48_0 : LReg := ⟨[⟨some 2,none,.mv (.c (.bool false))⟩],false,[]⟩
def Tryz.r48_1 : LReg := ⟨[⟨some 3,none,.mv (.t 0)⟩,⟨some 4,none,.call 131 [(.t 3),(.c (.int .i64 0)),(.c (.int .i64 2305843009213693950))]⟩,⟨some 2,none,.mv (.t 4)⟩],false,[]⟩
def Tryz.l_ref5_IsDigest : LCode := (.seq (.reg Tryz.r48_0) (.seq (.reg Tryz.r48_1) .ret))
theorem Tryz.c_ref5_IsDigest : fnComp Tryz.prog 81 = some (5, Tryz.l_ref5_IsDigest,[.t 2]) := by kernel_rfl
def Tryz.r49_0 : LReg := ⟨[⟨some 2,none,.mv (.c (.int .i64 0))⟩],false,[]⟩
def Tryz.r49_1 : LReg := ⟨[⟨some 5,none,.mv (.t 0)⟩,⟨some 6,none,.len (.t 5)⟩,⟨some 7,none,.bin .gtr (.t 6) (.c (.int .i64 120))⟩],false,[]⟩
def Tryz.r49_2 : LReg := ⟨[⟨some 2,none,.mv (.c (.int .i64 2))⟩],false,[]⟩
def Tryz.r49_3 : LReg := ⟨[⟨some 3,none,.mv (.c (.int .i64 0))⟩],false,[]⟩
def Tryz.r49_4 : LReg := ⟨[⟨some 8,none,.mv (.t 3)⟩,⟨some 9,none,.mv (.t 0)⟩,⟨some 10,none,.len (.t 9)⟩,⟨some 11,none,.bin .lss (.t 8) (.t 10)⟩],false,[]⟩
def Tryz.r49_5 : LReg := ⟨[⟨some 14,none,.mv (.t 0)⟩,⟨some 15,none,.mv (.t 3)⟩,⟨some 16,none,.idx 1 (.t 14) (.t 15)⟩,⟨some 17,none,.load 1 false (.t 16)⟩,⟨some 18,none,.slen (.t 17)⟩,⟨some 19,none,.bin .gtr (.t 18) (.c (.int .i64 80))⟩],false,[]⟩
def Tryz.r49_6 : LReg := ⟨[⟨some 2,none,.mv (.c (.int .i64 2))⟩],false,[]⟩
def Tryz.r49_7 : LReg := ⟨[⟨some 4,none,.mv (.c (.int .i64 0))⟩],false,[]⟩
def Tryz.r49_8 : LReg := ⟨[⟨some 20,none,.mv (.t 4)⟩,⟨some 21,none,.mv (.t 0)⟩,⟨some 22,none,.mv (.t 3)⟩,⟨some 23,none,.idx 1 (.t 21) (.t 22)⟩,⟨some 24,none,.load 1 false (.t 23)⟩,⟨some 25,none,.slen (.t 24)⟩,⟨some 26,none,.bin .lss (.t 20) (.t 25)⟩],false,[]⟩
def Tryz.r49_9 : LReg := ⟨[⟨some 29,none,.mv (.t 0)⟩,⟨some 30,none,.mv (.t 3)⟩,⟨some 31,none,.idx 1 (.t 29) (.t 30)⟩,⟨some 32,none,.load 1 false (.t 31)⟩,⟨some 33,none,.mv (.t 4)⟩,⟨some 34,none,.sidx (.t 32) (.t 33)⟩,⟨some 35,none,.bin .eql (.t 34) (.c (.int .u8 10))⟩],false,[]⟩
def Tryz.r49_10 : LReg := ⟨[⟨some 2,none,.mv (.c (.int .i64 5))⟩],false,[]⟩
def Tryz.r49_11 : LReg := ⟨[⟨some 27,none,.mv (.t 4)⟩,⟨some 28,none,.bin .add (.t 27) (.c (.int .i64 1))⟩,⟨some 4,none,.mv (.t 28)⟩],false,[]⟩
def Tryz.r49_12 : LReg := ⟨[⟨some 12,none,.mv (.t 3)⟩,⟨some 13,none,.bin .add (.t 12) (.c (.int .i64 1))⟩,⟨some 3,none,.mv (.t 13)⟩],false,[]⟩
def Tryz.r49_13 : LReg := ⟨[⟨some 2,none,.mv (.c (.int .i64 0))⟩],false,[]⟩
def Tryz.l_ref6_lineCode : LCode := (.seq (.reg Tryz.r49_0) (.seq (.seq (.reg Tryz.r49_1) (.cond (.t 7) (.seq (.reg Tryz.r49_2) .ret) .skip)) (.seq (.seq (.reg Tryz.r49_3) (.block 0 (.loop (.seq (.seq (.reg Tryz.r49_4) (.cond (.t 11) .skip (.exit 0))) (.seq (.block 1 (.seq (.seq (.reg Tryz.r49_5) (.cond (.t 19) (.seq (.reg Tryz.r49_6) .ret) .skip)) (.seq (.reg Tryz.r49_7) (.block 2 (.loop (.seq (.seq (.reg Tryz.r49_8) (.cond (.t 26) .skip (.exit 2))) (.seq (.block 3 (.seq (.reg Tryz.r49_9) (.cond (.t 35) (.seq (.reg Tryz.r49_10) .ret) .skip))) (.reg Tryz.r49_11)))))))) (.reg Tryz.r49_12)))))) (.seq (.reg Tryz.r49_13) .ret))))
theorem Tryz.c_ref6_lineCode : fnComp Tryz.prog 82 = some (36, Tryz.l_ref6_lineCode,[.t 2]) := by kernel_rfl
def Tryz.r50_0 : LReg := ⟨[⟨some 2,none,.alloc 31 2 [.int .i64 0,.int .i64 0]⟩],false,[]⟩
def Tryz.r50_1 : LReg := ⟨[⟨some 5,none,.mv (.t 0)⟩,⟨some 6,none,.len (.t 5)⟩,⟨some 7,none,.bin .gtr (.t 6) (.c (.int .i64 16))⟩],false,[]⟩
def Tryz.r50_2 : LReg := ⟨[⟨some 8,none,.call 80 [(.c (.int .i64 2)),(.c (.int .i64 (-1)))]⟩,⟨none,none,.store 2 (.t 2) (.t 8)⟩],false,[]⟩
def Tryz.r50_3 : LReg := ⟨[⟨some 3,none,.mv (.c (.int .i64 0))⟩],false,[]⟩
def Tryz.r50_4 : LReg := ⟨[⟨some 9,none,.mv (.t 3)⟩,⟨some 10,none,.mv (.t 0)⟩,⟨some 11,none,.len (.t 10)⟩,⟨some 12,none,.bin .lss (.t 9) (.t 11)⟩],false,[]⟩
def Tryz.r50_5 : LReg := ⟨[⟨some 15,none,.mv (.t 0)⟩,⟨some 16,none,.mv (.t 3)⟩,⟨some 17,none,.idx 2 (.t 15) (.t 16)⟩,⟨some 18,none,.fieldAddr 0 (.t 17)⟩,⟨some 19,none,.load 1 false (.t 18)⟩,⟨some 20,none,.call 81 [(.t 19)]⟩,⟨some 21,none,.un .not (.t 20)⟩],false,[]⟩
def Tryz.r50_6 : LReg := ⟨[⟨some 22,none,.mv (.t 3)⟩,⟨some 23,none,.call 80 [(.c (.int .i64 3)),(.t 22)]⟩,⟨none,none,.store 2 (.t 2) (.t 23)⟩],false,[]⟩
def Tryz.r50_7 : LReg := ⟨[⟨some 24,none,.mv (.t 3)⟩,⟨some 25,none,.bin .gtr (.t 24) (.c (.int .i64 0))⟩,⟨some 26,none,.mv (.t 25)⟩,⟨some 27,some (26,true),.mv (.t 0)⟩,⟨some 28,some (26,true),.mv (.t 3)⟩,⟨some 29,some (26,true),.idx 2 (.t 27) (.t 28)⟩,⟨some 30,some (26,true),.fieldAddr 0 (.t 29)⟩,⟨some 31,some (26,true),.load 1 false (.t 30)⟩,⟨some 32,some (26,true),.mv (.t 0)⟩,⟨some 33,some (26,true),.mv (.t 3)⟩,⟨some 34,some (26,true),.bin .sub (.t 33) (.c (.int .i64 1))⟩,⟨some 35,some (26,true),.idx 2 (.t 32) (.t 34)⟩,⟨some 36,some (26,true),.fieldAddr 0 (.t 35)⟩,⟨some 37,some (26,true),.load 1 false (.t 36)⟩,⟨some 38,some (26,true),.bin .leq (.t 31) (.t 37)⟩,⟨some 39,none,.pick (.t 26) (.t 38) (.c (.bool false))⟩],true,[(5,11),(6,11),(7,11),(5,12),(6,12),(7,12),(5,13),(6,13),(7,13)]⟩
def Tryz.r50_8 : LReg := ⟨[⟨some 40,none,.mv (.t 3)⟩,⟨some 41,none,.call 80 [(.c (.int .i64 5)),(.t 40)]⟩,⟨none,none,.store 2 (.t 2) (.t 41)⟩],false,[]⟩
def Tryz.r50_9 : LReg := ⟨[⟨some 42,none,.mv (.t 0)⟩,⟨some 43,none,.mv (.t 3)⟩,⟨some 44,none,.idx 2 (.t 42) (.t 43)⟩,⟨some 45,none,.fieldAddr 1 (.t 44)⟩,⟨some 46,none,.load 1 false (.t 45)⟩,⟨some 47,none,.call 82 [(.t 46)]⟩,⟨some 4,none,.mv (.t 47)⟩],false,[]⟩
def Tryz.r50_10 : LReg := ⟨[⟨some 48,none,.mv (.t 4)⟩,⟨some 49,none,.bin .neq (.t 48) (.c (.int .i64 0))⟩],false,[]⟩
def Tryz.r50_11 : LReg := ⟨[⟨some 50,none,.mv (.t 4)⟩,⟨some 51,none,.mv (.t 3)⟩,⟨some 52,none,.call 80 [(.t 50),(.t 51)]⟩,⟨none,none,.store 2 (.t 2) (.t 52)⟩],false,[]⟩
def Tryz.r50_12 : LReg := ⟨[⟨some 13,none,.mv (.t 3)⟩,⟨some 14,none,.bin .add (.t 13) (.c (.int .i64 1))⟩,⟨some 3,none,.mv (.t 14)⟩],false,[]⟩
def Tryz.r50_13 : LReg := ⟨[⟨some 53,none,.build [.int .i64 0,.int .i64 0] []⟩,⟨none,none,.store 2 (.t 2) (.t 53)⟩],false,[]⟩
def Tryz.l_ref6_CacheFault : LCode := (.seq (.reg Tryz.r50_0) (.seq (.seq (.reg Tryz.r50_1) (.cond (.t 7) (.seq (.reg Tryz.r50_2) .ret) .skip)) (.seq (.seq (.reg Tryz.r50_3) (.block 0 (.loop (.seq (.seq (.reg Tryz.r50_4) (.cond (.t 12) .skip (.exit 0))) (.seq (.block 1 (.seq (.seq (.reg Tryz.r50_5) (.cond (.t 21) (.seq (.reg Tryz.r50_6) .ret) .skip)) (.seq (.seq (.reg Tryz.r50_7) (.cond (.t 39) (.seq (.reg Tryz.r50_8) .ret) .skip)) (.seq (.reg Tryz.r50_9) (.seq (.reg Tryz.r50_10) (.cond (.t 49) (.seq (.reg Tryz.r50_11) .ret) .skip)))))) (.reg Tryz.r50_12)))))) (.seq (.reg Tryz.r50_13) .ret))))
theorem Tryz.c_ref6_CacheFault : fnComp Tryz.prog 30 = some (54, Tryz.l_ref6_CacheFault,[.cell 2 2 true]) := by kernel_rfl
def Tryz.r51_0 : LReg := ⟨[⟨some 2,none,.mv (.c (.bool false))⟩],false,[]⟩
def Tryz.r51_1 : LReg := ⟨[⟨some 3,none,.mv (.t 0)⟩,⟨some 4,none,.bin .geq (.t 3) (.c (.int .u8 97))⟩,⟨some 5,none,.mv (.t 4)⟩,⟨some 6,some (5,true),.mv (.t 0)⟩,⟨some 7,some (5,true),.bin .leq (.t 6) (.c (.int .u8 122))⟩,⟨some 8,none,.pick (.t 5) (.t 7) (.c (.bool false))⟩,⟨some 9,none,.mv (.t 8)⟩,⟨some 10,some (9,false),.mv (.t 0)⟩,⟨some 11,some (9,false),.bin .geq (.t 10) (.c (.int .u8 65))⟩,⟨some 12,some (9,false),.mv (.t 11)⟩,⟨some 13,some (12,true),.mv (.t 0)⟩,⟨some 14,some (12,true),.bin .leq (.t 13) (.c (.int .u8 90))⟩,⟨some 15,some (9,false),.pick (.t 12) (.t 14) (.c (.bool false))⟩,⟨some 16,none,.pick (.t 9) (.c (.bool true)) (.t 15)⟩,⟨some 17,none,.mv (.t 16)⟩,⟨some 18,some (17,false),.mv (.t 0)⟩,⟨some 19,some (17,false),.bin .geq (.t 18) (.c (.int .u8 48))⟩,⟨some 20,some (17,false),.mv (.t 19)⟩,⟨some 21,some (20,true),.mv (.t 0)⟩,⟨some 22,some (20,true),.bin .leq (.t 21) (.c (.int .u8 57))⟩,⟨some 23,some (17,false),.pick (.t 20) (.t 22) (.c (.bool false))⟩,⟨some 24,none,.pick (.t 17) (.c (.bool true)) (.t 23)⟩,⟨some 25,none,.mv (.t 24)⟩,⟨some 26,some (25,false),.mv (.t 0)⟩,⟨some 27,some (25,false),.bin .eql (.t 26) (.c (.int .u8 46))⟩,⟨some 28,none,.pick (.t 25) (.c (.bool true)) (.t 27)⟩,⟨some 29,none,.mv (.t 28)⟩,⟨some 30,some (29,false),.mv (.t 0)⟩,⟨some 31,some (29,false),.bin .eql (.t 30) (.c (.int .u8 95))⟩,⟨some 32,none,.pick (.t 29) (.c (.bool true)) (.t 31)⟩,⟨some 33,none,.mv (.t 32)⟩,⟨some 34,some (33,false),.mv (.t 0)⟩,⟨some 35,some (33,false),.bin .eql (.t 34) (.c (.int .u8 45))⟩,⟨some 36,none,.pick (.t 33) (.c (.bool true)) (.t 35)⟩,⟨some 2,none,.mv (.t 36)⟩],false,[]⟩
def Tryz.l_ref2_pathByte : LCode := (.seq (.reg Tryz.r51_0) (.seq (.reg Tryz.r51_1) .ret))
theorem Tryz.c_ref2_pathByte : fnComp Tryz.prog 143 = some (37, Tryz.l_ref2_pathByte,[.t 2]) := by kernel_rfl
def Tryz.r52_0 : LReg := ⟨[⟨some 2,none,.mv (.c (.bool false))⟩],false,[]⟩
def Tryz.r52_1 : LReg := ⟨[⟨some 6,none,.mv (.t 0)⟩,⟨some 7,none,.slen (.t 6)⟩,⟨some 8,none,.bin .gtr (.t 7) (.c (.int .i64 60))⟩],false,[]⟩
def Tryz.r52_2 : LReg := ⟨[⟨some 2,none,.mv (.c (.bool false))⟩],false,[]⟩
def Tryz.r52_3 : LReg := ⟨[⟨some 9,none,.mv (.t 0)⟩,⟨some 10,none,.slen (.t 9)⟩,⟨some 3,none,.mv (.t 10)⟩],false,[]⟩
def Tryz.r52_4 : LReg := ⟨[⟨some 11,none,.mv (.t 0)⟩,⟨some 12,none,.slen (.t 11)⟩,⟨some 13,none,.bin .sub (.t 12) (.c (.int .i64 1))⟩,⟨some 4,none,.mv (.t 13)⟩],false,[]⟩
def Tryz.r52_5 : LReg := ⟨[⟨some 14,none,.mv (.t 4)⟩,⟨some 15,none,.bin .geq (.t 14) (.c (.int .i64 (-1)))⟩],false,[]⟩
def Tryz.r52_6 : LReg := ⟨[⟨some 18,none,.mv (.t 4)⟩,⟨some 19,none,.bin .geq (.t 18) (.c (.int .i64 0))⟩,⟨some 20,none,.mv (.t 19)⟩,⟨some 21,some (20,true),.mv (.t 0)⟩,⟨some 22,some (20,true),.mv (.t 4)⟩,⟨some 23,some (20,true),.sidx (.t 21) (.t 22)⟩,⟨some 24,some (20,true),.bin .neq (.t 23) (.c (.int .u8 47))⟩,⟨some 25,none,.pick (.t 20) (.t 24) (.c (.bool false))⟩],false,[]⟩
def Tryz.r52_7 : LReg := ⟨[⟨some 26,none,.mv (.t 0)⟩,⟨some 27,none,.mv (.t 4)⟩,⟨some 28,none,.sidx (.t 26) (.t 27)⟩,⟨some 29,none,.call 143 [(.t 28)]⟩,⟨some 30,none,.un .not (.t 29)⟩],false,[]⟩
def Tryz.r52_8 : LReg := ⟨[⟨some 2,none,.mv (.c (.bool false))⟩],false,[]⟩
def Tryz.r52_9 : LReg := ⟨[⟨some 31,none,.mv (.t 0)⟩,⟨some 32,none,.mv (.t 4)⟩,⟨some 33,none,.bin .add (.t 32) (.c (.int .i64 1))⟩,⟨some 34,none,.mv (.t 3)⟩,⟨some 35,none,.sslice (.t 31) (some (.t 33)) (some (.t 34))⟩,⟨some 5,none,.mv (.t 35)⟩],false,[]⟩
def Tryz.r52_10 : LReg := ⟨[⟨some 36,none,.mv (.t 5)⟩,⟨some 37,none,.bin .eql (.t 36) (.c (.str []))⟩,⟨some 38,none,.mv (.t 37)⟩,⟨some 39,some (38,false),.mv (.t 5)⟩,⟨some 40,some (38,false),.bin .eql (.t 39) (.c (.str [46]))⟩,⟨some 41,none,.pick (.t 38) (.c (.bool true)) (.t 40)⟩,⟨some 42,none,.mv (.t 41)⟩,⟨some 43,some (42,false),.mv (.t 5)⟩,⟨some 44,some (42,false),.bin .eql (.t 43) (.c (.str [46,46]))⟩,⟨some 45,none,.pick (.t 42) (.c (.bool true)) (.t 44)⟩],false,[]⟩
def Tryz.r52_11 : LReg := ⟨[⟨some 2,none,.mv (.c (.bool false))⟩],false,[]⟩
def Tryz.r52_12 : LReg := ⟨[⟨some 46,none,.mv (.t 4)⟩,⟨some 3,none,.mv (.t 46)⟩],false,[]⟩
def Tryz.r52_13 : LReg := ⟨[⟨some 16,none,.mv (.t 4)⟩,⟨some 17,none,.bin .sub (.t 16) (.c (.int .i64 1))⟩,⟨some 4,none,.mv (.t 17)⟩],false,[]⟩
def Tryz.r52_14 : LReg := ⟨[⟨some 2,none,.mv (.c (.bool true))⟩],false,[]⟩
def Tryz.l_ref2_PathValid : LCode := (.seq (.reg Tryz.r52_0) (.seq (.seq (.reg Tryz.r52_1) (.cond (.t 8) (.seq (.reg Tryz.r52_2) .ret) .skip)) (.seq (.reg Tryz.r52_3) (.seq (.seq (.reg Tryz.r52_4) (.block 0 (.loop (.seq (.seq (.reg Tryz.r52_5) (.cond (.t 15) .skip (.exit 0))) (.seq (.block 1 (.seq (.seq (.reg Tryz.r52_6) (.cond (.t 25) (.seq (.seq (.reg Tryz.r52_7) (.cond (.t 30) (.seq (.reg Tryz.r52_8) .ret) .skip)) (.exit 1)) .skip)) (.seq (.reg Tryz.r52_9) (.seq (.seq (.reg Tryz.r52_10) (.cond (.t 45) (.seq (.reg Tryz.r52_11) .ret) .skip)) (.reg Tryz.r52_12))))) (.reg Tryz.r52_13)))))) (.seq (.reg Tryz.r52_14) .ret)))))
theorem Tryz.c_ref2_PathValid : fnComp Tryz.prog 104 = some (47, Tryz.l_ref2_PathValid,[.t 2]) := by kernel_rfl
def Tryz.r53_0 : LReg := ⟨[⟨some 1,none,.box 109 2 (.t 0)⟩,⟨some 2,none,.mv (.c (.int .i64 0))⟩],false,[]⟩
def Tryz.r53_1 : LReg := ⟨[⟨some 3,none,.fieldAddr 0 (.t 1)⟩,⟨some 4,none,.load 1 false (.t 3)⟩,⟨some 5,none,.bin .eql (.t 4) (.c (.int .i64 1))⟩,⟨some 6,none,.mv (.t 5)⟩,⟨some 7,some (6,false),.fieldAddr 0 (.t 1)⟩,⟨some 8,some (6,false),.load 1 false (.t 7)⟩,⟨some 9,some (6,false),.bin .eql (.t 8) (.c (.int .i64 2))⟩,⟨some 10,none,.pick (.t 6) (.c (.bool true)) (.t 9)⟩],false,[]⟩
def Tryz.r53_2 : LReg := ⟨[⟨some 11,none,.fieldAddr 1 (.t 1)⟩,⟨some 12,none,.load 1 false (.t 11)⟩,⟨some 13,none,.call 104 [(.t 12)]⟩,⟨some 14,none,.un .not (.t 13)⟩],false,[]⟩
def Tryz.r53_3 : LReg := ⟨[⟨some 2,none,.mv (.c (.int .i64 12))⟩],false,[]⟩
def Tryz.r53_4 : LReg := ⟨[⟨some 2,none,.mv (.c (.int .i64 0))⟩],false,[]⟩
def Tryz.r53_5 : LReg := ⟨[⟨some 15,none,.fieldAddr 0 (.t 1)⟩,⟨some 16,none,.load 1 false (.t 15)⟩,⟨some 17,none,.bin .eql (.t 16) (.c (.int .i64 3))⟩],false,[]⟩
def Tryz.r53_6 : LReg := ⟨[⟨some 18,none,.fieldAddr 1 (.t 1)⟩,⟨some 19,none,.load 1 false (.t 18)⟩,⟨some 20,none,.mkSlice 9 1 1 [.str []] [(0,(.t 19))]⟩,⟨some 21,none,.call 82 [(.t 20)]⟩,⟨some 2,none,.mv (.t 21)⟩],false,[]⟩
def Tryz.r53_7 : LReg := ⟨[⟨some 22,none,.fieldAddr 0 (.t 1)⟩,⟨some 23,none,.load 1 false (.t 22)⟩,⟨some 24,none,.bin .eql (.t 23) (.c (.int .i64 4))⟩,⟨some 25,none,.mv (.t 24)⟩,⟨some 26,some (25,false),.fieldAddr 0 (.t 1)⟩,⟨some 27,some (25,false),.load 1 false (.t 26)⟩,⟨some 28,some (25,false),.bin .eql (.t 27) (.c (.int .i64 5))⟩,⟨some 29,none,.pick (.t 25) (.c (.bool true)) (.t 28)⟩],false,[]⟩
def Tryz.r53_8 : LReg := ⟨[⟨some 30,none,.fieldAddr 1 (.t 1)⟩,⟨some 31,none,.load 1 false (.t 30)⟩,⟨some 32,none,.bin .neq (.t 31) (.c (.str []))⟩],false,[]⟩
def Tryz.r53_9 : LReg := ⟨[⟨some 2,none,.mv (.c (.int .i64 5))⟩],false,[]⟩
def Tryz.r53_10 : LReg := ⟨[⟨some 2,none,.mv (.c (.int .i64 0))⟩],false,[]⟩
def Tryz.r53_11 : LReg := ⟨[⟨some 2,none,.mv (.c (.int .i64 4))⟩],false,[]⟩
def Tryz.l_ref6_opCode : LCode := (.seq (.reg Tryz.r53_0) (.seq (.seq (.reg Tryz.r53_1) (.cond (.t 10) (.seq (.seq (.reg Tryz.r53_2) (.cond (.t 14) (.seq (.reg Tryz.r53_3) .ret) .skip)) (.seq (.reg Tryz.r53_4) .ret)) .skip)) (.seq (.seq (.reg Tryz.r53_5) (.cond (.t 17) (.seq (.reg Tryz.r53_6) .ret) .skip)) (.seq (.seq (.reg Tryz.r53_7) (.cond (.t 29) (.seq (.seq (.reg Tryz.r53_8) (.cond (.t 32) (.seq (.reg Tryz.r53_9) .ret) .skip)) (.seq (.reg Tryz.r53_10) .ret)) .skip)) (.seq (.reg Tryz.r53_11) .ret)))))
theorem Tryz.c_ref6_opCode : fnComp Tryz.prog 132 = some (33, Tryz.l_ref6_opCode,[.t 2]) := by kernel_rfl
def Tryz.r54_0 : LReg := ⟨[⟨some 1,none,.box 53 3 (.t 0)⟩,⟨some 2,none,.alloc 31 2 [.int .i64 0,.int .i64 0]⟩],false,[]⟩
def Tryz.r54_1 : LReg := ⟨[⟨some 6,none,.fieldAddr 0 (.t 1)⟩,⟨some 7,none,.load 1 false (.t 6)⟩,⟨some 8,none,.len (.t 7)⟩,⟨some 9,none,.bin .gtr (.t 8) (.c (.int .i64 8))⟩,⟨some 10,none,.mv (.t 9)⟩,⟨some 11,some (10,false),.fieldAddr 1 (.t 1)⟩,⟨some 12,some (10,false),.load 1 false (.t 11)⟩,⟨some 13,some (10,false),.len (.t 12)⟩,⟨some 14,some (10,false),.bin .gtr (.t 13) (.c (.int .i64 16))⟩,⟨some 15,none,.pick (.t 10) (.c (.bool true)) (.t 14)⟩],false,[]⟩
def Tryz.r54_2 : LReg := ⟨[⟨some 16,none,.call 80 [(.c (.int .i64 2)),(.c (.int .i64 (-1)))]⟩,⟨none,none,.store 2 (.t 2) (.t 16)⟩],false,[]⟩
def Tryz.r54_3 : LReg := ⟨[⟨some 3,none,.mv (.c (.int .i64 0))⟩],false,[]⟩
def Tryz.r54_4 : LReg := ⟨[⟨some 17,none,.mv (.t 3)⟩,⟨some 18,none,.fieldAddr 0 (.t 1)⟩,⟨some 19,none,.load 1 false (.t 18)⟩,⟨some 20,none,.len (.t 19)⟩,⟨some 21,none,.bin .lss (.t 17) (.t 20)⟩],false,[]⟩
def Tryz.r54_5 : LReg := ⟨[⟨some 24,none,.fieldAddr 0 (.t 1)⟩,⟨some 25,none,.load 1 false (.t 24)⟩,⟨some 26,none,.mv (.t 3)⟩,⟨some 27,none,.idx 1 (.t 25) (.t 26)⟩,⟨some 28,none,.load 1 false (.t 27)⟩,⟨some 29,none,.call 104 [(.t 28)]⟩,⟨some 30,none,.un .not (.t 29)⟩],false,[]⟩
def Tryz.r54_6 : LReg := ⟨[⟨some 31,none,.mv (.t 3)⟩,⟨some 32,none,.call 80 [(.c (.int .i64 12)),(.t 31)]⟩,⟨none,none,.store 2 (.t 2) (.t 32)⟩],false,[]⟩
def Tryz.r54_7 : LReg := ⟨[⟨some 33,none,.mv (.t 3)⟩,⟨some 34,none,.bin .gtr (.t 33) (.c (.int .i64 0))⟩,⟨some 35,none,.mv (.t 34)⟩,⟨some 36,some (35,true),.fieldAddr 0 (.t 1)⟩,⟨some 37,some (35,true),.load 1 false (.t 36)⟩,⟨some 38,some (35,true),.mv (.t 3)⟩,⟨some 39,some (35,true),.idx 1 (.t 37) (.t 38)⟩,⟨some 40,some (35,true),.load 1 false (.t 39)⟩,⟨some 41,some (35,true),.fieldAddr 0 (.t 1)⟩,⟨some 42,some (35,true),.load 1 false (.t 41)⟩,⟨some 43,some (35,true),.mv (.t 3)⟩,⟨some 44,some (35,true),.bin .sub (.t 43) (.c (.int .i64 1))⟩,⟨some 45,some (35,true),.idx 1 (.t 42) (.t 44)⟩,⟨some 46,some (35,true),.load 1 false (.t 45)⟩,⟨some 47,some (35,true),.bin .leq (.t 40) (.t 46)⟩,⟨some 48,none,.pick (.t 35) (.t 47) (.c (.bool false))⟩],true,[(3,8),(4,8),(6,8),(7,8),(3,9),(4,9),(6,9),(7,9),(3,12),(4,12),(6,12),(7,12),(3,13),(4,13),(6,13),(7,13)]⟩
def Tryz.r54_8 : LReg := ⟨[⟨some 49,none,.mv (.t 3)⟩,⟨some 50,none,.call 80 [(.c (.int .i64 5)),(.t 49)]⟩,⟨none,none,.store 2 (.t 2) (.t 50)⟩],false,[]⟩
def Tryz.r54_9 : LReg := ⟨[⟨some 22,none,.mv (.t 3)⟩,⟨some 23,none,.bin .add (.t 22) (.c (.int .i64 1))⟩,⟨some 3,none,.mv (.t 23)⟩],false,[]⟩
def Tryz.r54_10 : LReg := ⟨[⟨some 51,none,.fieldAddr 2 (.t 1)⟩,⟨some 52,none,.load 1 false (.t 51)⟩,⟨some 53,none,.call 104 [(.t 52)]⟩,⟨some 54,none,.un .not (.t 53)⟩],false,[]⟩
def Tryz.r54_11 : LReg := ⟨[⟨some 55,none,.call 80 [(.c (.int .i64 12)),(.c (.int .i64 (-2)))]⟩,⟨none,none,.store 2 (.t 2) (.t 55)⟩],false,[]⟩
def Tryz.r54_12 : LReg := ⟨[⟨some 4,none,.mv (.c (.int .i64 0))⟩],false,[]⟩
def Tryz.r54_13 : LReg := ⟨[⟨some 56,none,.mv (.t 4)⟩,⟨some 57,none,.fieldAddr 1 (.t 1)⟩,⟨some 58,none,.load 1 false (.t 57)⟩,⟨some 59,none,.len (.t 58)⟩,⟨some 60,none,.bin .lss (.t 56) (.t 59)⟩],false,[]⟩
def Tryz.r54_14 : LReg := ⟨[⟨some 63,none,.fieldAddr 1 (.t 1)⟩,⟨some 64,none,.load 1 false (.t 63)⟩,⟨some 65,none,.mv (.t 4)⟩,⟨some 66,none,.idx 2 (.t 64) (.t 65)⟩,⟨some 67,none,.load 2 true (.t 66)⟩,⟨some 68,none,.call 132 [(.t 67)]⟩,⟨some 5,none,.mv (.t 68)⟩],false,[]⟩
def Tryz.r54_15 : LReg := ⟨[⟨some 69,none,.mv (.t 5)⟩,⟨some 70,none,.bin .neq (.t 69) (.c (.int .i64 0))⟩],false,[]⟩
def Tryz.r54_16 : LReg := ⟨[⟨some 71,none,.mv (.t 5)⟩,⟨some 72,none,.mv (.t 4)⟩,⟨some 73,none,.bin .sub (.c (.int .i64 (-3))) (.t 72)⟩,⟨some 74,none,.call 80 [(.t 71),(.t 73)]⟩,⟨none,none,.store 2 (.t 2) (.t 74)⟩],false,[]⟩
def Tryz.r54_17 : LReg := ⟨[⟨some 61,none,.mv (.t 4)⟩,⟨some 62,none,.bin .add (.t 61) (.c (.int .i64 1))⟩,⟨some 4,none,.mv (.t 62)⟩],false,[]⟩
def Tryz.r54_18 : LReg := ⟨[⟨some 75,none,.build [.int .i64 0,.int .i64 0] []⟩,⟨none,none,.store 2 (.t 2) (.t 75)⟩],false,[]⟩
def Tryz.l_ref6_ActionFault : LCode := (.seq (.reg Tryz.r54_0) (.seq (.seq (.reg Tryz.r54_1) (.cond (.t 15) (.seq (.reg Tryz.r54_2) .ret) .skip)) (.seq (.seq (.reg Tryz.r54_3) (.block 0 (.loop (.seq (.seq (.reg Tryz.r54_4) (.cond (.t 21) .skip (.exit 0))) (.seq (.block 1 (.seq (.seq (.reg Tryz.r54_5) (.cond (.t 30) (.seq (.reg Tryz.r54_6) .ret) .skip)) (.seq (.reg Tryz.r54_7) (.cond (.t 48) (.seq (.reg Tryz.r54_8) .ret) .skip)))) (.reg Tryz.r54_9)))))) (.seq (.seq (.reg Tryz.r54_10) (.cond (.t 54) (.seq (.reg Tryz.r54_11) .ret) .skip)) (.seq (.seq (.reg Tryz.r54_12) (.block 2 (.loop (.seq (.seq (.reg Tryz.r54_13) (.cond (.t 60) .skip (.exit 2))) (.seq (.block 3 (.seq (.reg Tryz.r54_14) (.seq (.reg Tryz.r54_15) (.cond (.t 70) (.seq (.reg Tryz.r54_16) .ret) .skip)))) (.reg Tryz.r54_17)))))) (.seq (.reg Tryz.r54_18) .ret))))))
theorem Tryz.c_ref6_ActionFault : fnComp Tryz.prog 83 = some (76, Tryz.l_ref6_ActionFault,[.cell 2 2 true]) := by kernel_rfl
def Tryz.r55_0 : LReg := ⟨[⟨some 4,none,.alloc 31 2 [.int .i64 0,.int .i64 0]⟩],false,[]⟩
def Tryz.r55_1 : LReg := ⟨[⟨some 5,none,.mv (.t 0)⟩,⟨some 6,none,.mv (.t 1)⟩,⟨some 7,none,.build [.int .i64 0,.int .i64 0] [(0,1,(.t 5)),(1,1,(.t 6))]⟩,⟨none,none,.store 2 (.t 4) (.t 7)⟩],false,[]⟩
def Tryz.l_ref1_At : LCode := (.seq (.reg Tryz.r55_0) (.seq (.reg Tryz.r55_1) .ret))
theorem Tryz.c_ref1_At : fnComp Tryz.prog 103 = some (8, Tryz.l_ref1_At,[.cell 4 2 true]) := by kernel_rfl
def Tryz.r56_0 : LReg := ⟨[⟨some 4,none,.mv (.c (.bool false))⟩],false,[]⟩
def Tryz.r56_1 : LReg := ⟨[⟨some 5,none,.mv (.t 0)⟩,⟨some 6,none,.slen (.t 5)⟩,⟨some 7,none,.mv (.t 1)⟩,⟨some 8,none,.slen (.t 7)⟩,⟨some 9,none,.bin .gtr (.t 6) (.t 8)⟩],false,[]⟩
def Tryz.r56_2 : LReg := ⟨[⟨some 10,none,.mv (.t 1)⟩,⟨some 11,none,.mv (.t 0)⟩,⟨some 12,none,.call 105 [(.t 10),(.t 11)]⟩,⟨some 4,none,.mv (.t 12)⟩],false,[]⟩
def Tryz.r56_3 : LReg := ⟨[⟨some 13,none,.mv (.t 1)⟩,⟨some 14,none,.mv (.t 0)⟩,⟨some 15,none,.slen (.t 14)⟩,⟨some 16,none,.sslice (.t 13) none (some (.t 15))⟩,⟨some 17,none,.mv (.t 0)⟩,⟨some 18,none,.bin .eql (.t 16) (.t 17)⟩,⟨some 19,none,.mv (.t 18)⟩,⟨some 20,some (19,true),.mv (.t 0)⟩,⟨some 21,some (19,true),.slen (.t 20)⟩,⟨some 22,some (19,true),.mv (.t 1)⟩,⟨some 23,some (19,true),.slen (.t 22)⟩,⟨some 24,some (19,true),.bin .eql (.t 21) (.t 23)⟩,⟨some 25,some (19,true),.mv (.t 24)⟩,⟨some 26,some (25,false),.mv (.t 1)⟩,⟨some 27,some (25,false),.mv (.t 0)⟩,⟨some 28,some (25,false),.slen (.t 27)⟩,⟨some 29,some (25,false),.sidx (.t 26) (.t 28)⟩,⟨some 30,some (25,false),.bin .eql (.t 29) (.c (.int .u8 47))⟩,⟨some 31,some (19,true),.pick (.t 25) (.c (.bool true)) (.t 30)⟩,⟨some 32,none,.pick (.t 19) (.t 31) (.c (.bool false))⟩,⟨some 4,none,.mv (.t 32)⟩],false,[]⟩
def Tryz.l_ref2_Related : LCode := (.seq (.reg Tryz.r56_0) (.seq (.seq (.reg Tryz.r56_1) (.cond (.t 9) (.seq (.reg Tryz.r56_2) .ret) .skip)) (.seq (.reg Tryz.r56_3) .ret)))
theorem Tryz.c_ref2_Related : fnComp Tryz.prog 105 = some (33, Tryz.l_ref2_Related,[.t 4]) := by kernel_rfl
def Tryz.r57_0 : LReg := ⟨[⟨some 2,none,.alloc 31 2 [.int .i64 0,.int .i64 0]⟩],false,[]⟩
def Tryz.r57_1 : LReg := ⟨[⟨some 5,none,.mv (.t 0)⟩,⟨some 6,none,.len (.t 5)⟩,⟨some 7,none,.bin .gtr (.t 6) (.c (.int .i64 120))⟩],false,[]⟩
def Tryz.r57_2 : LReg := ⟨[⟨some 8,none,.call 103 [(.c (.int .i64 2)),(.c (.int .i64 (-1)))]⟩,⟨none,none,.store 2 (.t 2) (.t 8)⟩],false,[]⟩
def Tryz.r57_3 : LReg := ⟨[⟨some 3,none,.mv (.c (.int .i64 0))⟩],false,[]⟩
def Tryz.r57_4 : LReg := ⟨[⟨some 9,none,.mv (.t 3)⟩,⟨some 10,none,.mv (.t 0)⟩,⟨some 11,none,.len (.t 10)⟩,⟨some 12,none,.bin .lss (.t 9) (.t 11)⟩],false,[]⟩
def Tryz.r57_5 : LReg := ⟨[⟨some 15,none,.mv (.t 0)⟩,⟨some 16,none,.mv (.t 3)⟩,⟨some 17,none,.idx 1 (.t 15) (.t 16)⟩,⟨some 18,none,.load 1 false (.t 17)⟩,⟨some 19,none,.slen (.t 18)⟩,⟨some 20,none,.bin .gtr (.t 19) (.c (.int .i64 80))⟩],false,[]⟩
def Tryz.r57_6 : LReg := ⟨[⟨some 21,none,.mv (.t 3)⟩,⟨some 22,none,.call 103 [(.c (.int .i64 2)),(.t 21)]⟩,⟨none,none,.store 2 (.t 2) (.t 22)⟩],false,[]⟩
def Tryz.r57_7 : LReg := ⟨[⟨some 4,none,.mv (.c (.int .i64 0))⟩],false,[]⟩
def Tryz.r57_8 : LReg := ⟨[⟨some 23,none,.mv (.t 4)⟩,⟨some 24,none,.mv (.t 0)⟩,⟨some 25,none,.mv (.t 3)⟩,⟨some 26,none,.idx 1 (.t 24) (.t 25)⟩,⟨some 27,none,.load 1 false (.t 26)⟩,⟨some 28,none,.slen (.t 27)⟩,⟨some 29,none,.bin .lss (.t 23) (.t 28)⟩],false,[]⟩
def Tryz.r57_9 : LReg := ⟨[⟨some 32,none,.mv (.t 0)⟩,⟨some 33,none,.mv (.t 3)⟩,⟨some 34,none,.idx 1 (.t 32) (.t 33)⟩,⟨some 35,none,.load 1 false (.t 34)⟩,⟨some 36,none,.mv (.t 4)⟩,⟨some 37,none,.sidx (.t 35) (.t 36)⟩,⟨some 38,none,.bin .eql (.t 37) (.c (.int .u8 10))⟩],false,[]⟩
def Tryz.r57_10 : LReg := ⟨[⟨some 39,none,.mv (.t 3)⟩,⟨some 40,none,.call 103 [(.c (.int .i64 5)),(.t 39)]⟩,⟨none,none,.store 2 (.t 2) (.t 40)⟩],false,[]⟩
def Tryz.r57_11 : LReg := ⟨[⟨some 30,none,.mv (.t 4)⟩,⟨some 31,none,.bin .add (.t 30) (.c (.int .i64 1))⟩,⟨some 4,none,.mv (.t 31)⟩],false,[]⟩
def Tryz.r57_12 : LReg := ⟨[⟨some 13,none,.mv (.t 3)⟩,⟨some 14,none,.bin .add (.t 13) (.c (.int .i64 1))⟩,⟨some 3,none,.mv (.t 14)⟩],false,[]⟩
def Tryz.r57_13 : LReg := ⟨[⟨some 41,none,.build [.int .i64 0,.int .i64 0] []⟩,⟨none,none,.store 2 (.t 2) (.t 41)⟩],false,[]⟩
def Tryz.l_ref1_LinesFault : LCode := (.seq (.reg Tryz.r57_0) (.seq (.seq (.reg Tryz.r57_1) (.cond (.t 7) (.seq (.reg Tryz.r57_2) .ret) .skip)) (.seq (.seq (.reg Tryz.r57_3) (.block 0 (.loop (.seq (.seq (.reg Tryz.r57_4) (.cond (.t 12) .skip (.exit 0))) (.seq (.block 1 (.seq (.seq (.reg Tryz.r57_5) (.cond (.t 20) (.seq (.reg Tryz.r57_6) .ret) .skip)) (.seq (.reg Tryz.r57_7) (.block 2 (.loop (.seq (.seq (.reg Tryz.r57_8) (.cond (.t 29) .skip (.exit 2))) (.seq (.block 3 (.seq (.reg Tryz.r57_9) (.cond (.t 38) (.seq (.reg Tryz.r57_10) .ret) .skip))) (.reg Tryz.r57_11)))))))) (.reg Tryz.r57_12)))))) (.seq (.reg Tryz.r57_13) .ret))))
theorem Tryz.c_ref1_LinesFault : fnComp Tryz.prog 144 = some (42, Tryz.l_ref1_LinesFault,[.cell 2 2 true]) := by kernel_rfl
def Tryz.r58_0 : LReg := ⟨[⟨some 2,none,.mv (.c (.int .i64 0))⟩],false,[]⟩
def Tryz.r58_1 : LReg := ⟨[⟨some 3,none,.mv (.t 0)⟩,⟨some 4,none,.call 144 [(.t 3)]⟩,⟨some 5,none,.field 0 1 false (.t 4)⟩,⟨some 2,none,.mv (.t 5)⟩],false,[]⟩
def Tryz.l_ref1_LinesCode : LCode := (.seq (.reg Tryz.r58_0) (.seq (.reg Tryz.r58_1) .ret))
theorem Tryz.c_ref1_LinesCode : fnComp Tryz.prog 106 = some (6, Tryz.l_ref1_LinesCode,[.t 2]) := by kernel_rfl
def Tryz.r59_0 : LReg := ⟨[⟨some 1,none,.box 25 1 (.t 0)⟩,⟨some 2,none,.alloc 31 2 [.int .i64 0,.int .i64 0]⟩],false,[]⟩
def Tryz.r59_1 : LReg := ⟨[⟨some 7,none,.fieldAddr 0 (.t 1)⟩,⟨some 8,none,.load 1 false (.t 7)⟩,⟨some 9,none,.len (.t 8)⟩,⟨some 10,none,.bin .gtr (.t 9) (.c (.int .i64 24))⟩],false,[]⟩
def Tryz.r59_2 : LReg := ⟨[⟨some 11,none,.call 103 [(.c (.int .i64 2)),(.c (.int .i64 (-1)))]⟩,⟨none,none,.store 2 (.t 2) (.t 11)⟩],false,[]⟩
def Tryz.r59_3 : LReg := ⟨[⟨some 3,none,.mv (.c (.int .i64 0))⟩],false,[]⟩
def Tryz.r59_4 : LReg := ⟨[⟨some 12,none,.mv (.t 3)⟩,⟨some 13,none,.fieldAddr 0 (.t 1)⟩,⟨some 14,none,.load 1 false (.t 13)⟩,⟨some 15,none,.len (.t 14)⟩,⟨some 16,none,.bin .lss (.t 12) (.t 15)⟩],false,[]⟩
def Tryz.r59_5 : LReg := ⟨[⟨some 19,none,.fieldAddr 0 (.t 1)⟩,⟨some 20,none,.load 1 false (.t 19)⟩,⟨some 21,none,.mv (.t 3)⟩,⟨some 22,none,.idx 2 (.t 20) (.t 21)⟩,⟨some 23,none,.load 2 true (.t 22)⟩,⟨some 4,none,.alloc 37 2 [.str [],.nils]⟩,⟨none,none,.store 2 (.t 4) (.t 23)⟩],false,[]⟩
def Tryz.r59_6 : LReg := ⟨[⟨some 24,none,.fieldAddr 0 (.t 4)⟩,⟨some 25,none,.load 1 false (.t 24)⟩,⟨some 26,none,.call 104 [(.t 25)]⟩,⟨some 27,none,.un .not (.t 26)⟩],false,[]⟩
def Tryz.r59_7 : LReg := ⟨[⟨some 28,none,.mv (.t 3)⟩,⟨some 29,none,.call 103 [(.c (.int .i64 12)),(.t 28)]⟩,⟨none,none,.store 2 (.t 2) (.t 29)⟩],false,[]⟩
def Tryz.r59_8 : LReg := ⟨[⟨some 30,none,.mv (.t 3)⟩,⟨some 31,none,.bin .gtr (.t 30) (.c (.int .i64 0))⟩,⟨some 32,none,.mv (.t 31)⟩,⟨some 33,some (32,true),.fieldAddr 0 (.t 4)⟩,⟨some 34,some (32,true),.load 1 false (.t 33)⟩,⟨some 35,some (32,true),.fieldAddr 0 (.t 1)⟩,⟨some 36,some (32,true),.load 1 false (.t 35)⟩,⟨some 37,some (32,true),.mv (.t 3)⟩,⟨some 38,some (32,true),.bin .sub (.t 37) (.c (.int .i64 1))⟩,⟨some 39,some (32,true),.idx 2 (.t 36) (.t 38)⟩,⟨some 40,some (32,true),.fieldAddr 0 (.t 39)⟩,⟨some 41,some (32,true),.load 1 false (.t 40)⟩,⟨some 42,some (32,true),.bin .leq (.t 34) (.t 41)⟩,⟨some 43,none,.pick (.t 32) (.t 42) (.c (.bool false))⟩],true,[(3,5),(4,5),(3,6),(4,6),(3,9),(4,9),(3,10),(4,10),(3,11),(4,11)]⟩
def Tryz.r59_9 : LReg := ⟨[⟨some 44,none,.mv (.t 3)⟩,⟨some 45,none,.call 103 [(.c (.int .i64 5)),(.t 44)]⟩,⟨none,none,.store 2 (.t 2) (.t 45)⟩],false,[]⟩
def Tryz.r59_10 : LReg := ⟨[⟨some 5,none,.mv (.c (.int .i64 0))⟩],false,[]⟩
def Tryz.r59_11 : LReg := ⟨[⟨some 46,none,.mv (.t 5)⟩,⟨some 47,none,.mv (.t 3)⟩,⟨some 48,none,.bin .lss (.t 46) (.t 47)⟩],false,[]⟩
def Tryz.r59_12 : LReg := ⟨[⟨some 51,none,.fieldAddr 0 (.t 1)⟩,⟨some 52,none,.load 1 false (.t 51)⟩,⟨some 53,none,.mv (.t 5)⟩,⟨some 54,none,.idx 2 (.t 52) (.t 53)⟩,⟨some 55,none,.fieldAddr 0 (.t 54)⟩,⟨some 56,none,.load 1 false (.t 55)⟩,⟨some 57,none,.fieldAddr 0 (.t 4)⟩,⟨some 58,none,.load 1 false (.t 57)⟩,⟨some 59,none,.call 105 [(.t 56),(.t 58)]⟩],true,[(0,6),(1,6),(3,6),(4,6),(5,6),(0,7),(1,7),(3,7),(4,7),(5,7)]⟩
def Tryz.r59_13 : LReg := ⟨[⟨some 60,none,.mv (.t 3)⟩,⟨some 61,none,.call 103 [(.c (.int .i64 7)),(.t 60)]⟩,⟨none,none,.store 2 (.t 2) (.t 61)⟩],false,[]⟩
def Tryz.r59_14 : LReg := ⟨[⟨some 49,none,.mv (.t 5)⟩,⟨some 50,none,.bin .add (.t 49) (.c (.int .i64 1))⟩,⟨some 5,none,.mv (.t 50)⟩],false,[]⟩
def Tryz.r59_15 : LReg := ⟨[⟨some 62,none,.fieldAddr 1 (.t 4)⟩,⟨some 63,none,.load 1 false (.t 62)⟩,⟨some 64,none,.call 106 [(.t 63)]⟩,⟨some 6,none,.mv (.t 64)⟩],false,[]⟩
def Tryz.r59_16 : LReg := ⟨[⟨some 65,none,.mv (.t 6)⟩,⟨some 66,none,.bin .neq (.t 65) (.c (.int .i64 0))⟩],false,[]⟩
def Tryz.r59_17 : LReg := ⟨[⟨some 67,none,.mv (.t 6)⟩,⟨some 68,none,.mv (.t 3)⟩,⟨some 69,none,.call 103 [(.t 67),(.t 68)]⟩,⟨none,none,.store 2 (.t 2) (.t 69)⟩],false,[]⟩
def Tryz.r59_18 : LReg := ⟨[⟨some 17,none,.mv (.t 3)⟩,⟨some 18,none,.bin .add (.t 17) (.c (.int .i64 1))⟩,⟨some 3,none,.mv (.t 18)⟩],false,[]⟩
def Tryz.r59_19 : LReg := ⟨[⟨some 70,none,.build [.int .i64 0,.int .i64 0] []⟩,⟨none,none,.store 2 (.t 2) (.t 70)⟩],false,[]⟩
def Tryz.l_ref2_TreeFault : LCode := (.seq (.reg Tryz.r59_0) (.seq (.seq (.reg Tryz.r59_1) (.cond (.t 10) (.seq (.reg Tryz.r59_2) .ret) .skip)) (.seq (.seq (.reg Tryz.r59_3) (.block 0 (.loop (.seq (.seq (.reg Tryz.r59_4) (.cond (.t 16) .skip (.exit 0))) (.seq (.block 1 (.seq (.reg Tryz.r59_5) (.seq (.seq (.reg Tryz.r59_6) (.cond (.t 27) (.seq (.reg Tryz.r59_7) .ret) .skip)) (.seq (.seq (.reg Tryz.r59_8) (.cond (.t 43) (.seq (.reg Tryz.r59_9) .ret) .skip)) (.seq (.seq (.reg Tryz.r59_10) (.block 2 (.loop (.seq (.seq (.reg Tryz.r59_11) (.cond (.t 48) .skip (.exit 2))) (.seq (.block 3 (.seq (.reg Tryz.r59_12) (.cond (.t 59) (.seq (.reg Tryz.r59_13) .ret) .skip))) (.reg Tryz.r59_14)))))) (.seq (.reg Tryz.r59_15) (.seq (.reg Tryz.r59_16) (.cond (.t 66) (.seq (.reg Tryz.r59_17) .ret) .skip)))))))) (.reg Tryz.r59_18)))))) (.seq (.reg Tryz.r59_19) .ret))))
theorem Tryz.c_ref2_TreeFault : fnComp Tryz.prog 50 = some (71, Tryz.l_ref2_TreeFault,[.cell 2 2 true]) := by kernel_rfl
def Tryz.r60_0 : LReg := ⟨[⟨some 2,none,.box 25 1 (.t 0)⟩,⟨some 4,none,.alloc 31 2 [.int .i64 0,.int .i64 0]⟩],false,[]⟩
def Tryz.r60_1 : LReg := ⟨[⟨some 6,none,.load 1 true (.t 2)⟩,⟨some 7,none,.call 50 [(.t 6)]⟩,⟨some 5,none,.alloc 31 2 [.int .i64 0,.int .i64 0]⟩,⟨none,none,.store 2 (.t 5) (.t 7)⟩],false,[]⟩
def Tryz.r60_2 : LReg := ⟨[⟨some 8,none,.fieldAddr 0 (.t 5)⟩,⟨some 9,none,.load 1 false (.t 8)⟩,⟨some 10,none,.bin .neq (.t 9) (.c (.int .i64 0))⟩],false,[]⟩
def Tryz.r60_3 : LReg := ⟨[⟨some 11,none,.mv (.t 1)⟩,⟨some 12,none,.fieldAddr 1 (.t 5)⟩,⟨none,none,.store 1 (.t 12) (.t 11)⟩],false,[]⟩
def Tryz.r60_4 : LReg := ⟨[⟨some 13,none,.load 2 true (.t 5)⟩,⟨none,none,.store 2 (.t 4) (.t 13)⟩],false,[]⟩
def Tryz.l_ref6_TreeAt : LCode := (.seq (.reg Tryz.r60_0) (.seq (.reg Tryz.r60_1) (.seq (.seq (.reg Tryz.r60_2) (.cond (.t 10) (.reg Tryz.r60_3) .skip)) (.seq (.reg Tryz.r60_4) .ret))))
theorem Tryz.c_ref6_TreeAt : fnComp Tryz.prog 84 = some (14, Tryz.l_ref6_TreeAt,[.cell 4 2 true]) := by kernel_rfl
def Tryz.r61_0 : LReg := ⟨[⟨some 2,none,.box 53 3 (.t 0)⟩,⟨some 3,none,.box 25 1 (.t 1)⟩,⟨some 4,none,.alloc 31 2 [.int .i64 0,.int .i64 0]⟩],false,[]⟩
def Tryz.r61_1 : LReg := ⟨[⟨some 6,none,.load 3 true (.t 2)⟩,⟨some 7,none,.call 83 [(.t 6)]⟩,⟨some 5,none,.alloc 31 2 [.int .i64 0,.int .i64 0]⟩,⟨none,none,.store 2 (.t 5) (.t 7)⟩],false,[]⟩
def Tryz.r61_2 : LReg := ⟨[⟨some 8,none,.fieldAddr 0 (.t 5)⟩,⟨some 9,none,.load 1 false (.t 8)⟩,⟨some 10,none,.bin .eql (.t 9) (.c (.int .i64 0))⟩],false,[]⟩
def Tryz.r61_3 : LReg := ⟨[⟨some 11,none,.load 1 true (.t 3)⟩,⟨some 12,none,.call 84 [(.t 11),(.c (.int .i64 (-20)))]⟩,⟨none,none,.store 2 (.t 5) (.t 12)⟩],false,[]⟩
def Tryz.r61_4 : LReg := ⟨[⟨some 13,none,.load 2 true (.t 5)⟩,⟨none,none,.store 2 (.t 4) (.t 13)⟩],false,[]⟩
def Tryz.l_ref6_RunFault : LCode := (.seq (.reg Tryz.r61_0) (.seq (.reg Tryz.r61_1) (.seq (.seq (.reg Tryz.r61_2) (.cond (.t 10) (.reg Tryz.r61_3) .skip)) (.seq (.reg Tryz.r61_4) .ret))))
theorem Tryz.c_ref6_RunFault : fnComp Tryz.prog 31 = some (14, Tryz.l_ref6_RunFault,[.cell 4 2 true]) := by kernel_rfl
def Tryz.r62_0 : LReg := ⟨[⟨some 2,none,.box 25 1 (.t 0)⟩,⟨some 4,none,.mv (.c (.nils))⟩,⟨some 5,none,.mv (.c (.bool false))⟩],false,[]⟩
def Tryz.r62_1 : LReg := ⟨[⟨some 6,none,.mv (.c (.int .i64 0))⟩],false,[]⟩
def Tryz.r62_2 : LReg := ⟨[⟨some 7,none,.mv (.t 6)⟩,⟨some 8,none,.fieldAddr 0 (.t 2)⟩,⟨some 9,none,.load 1 false (.t 8)⟩,⟨some 10,none,.len (.t 9)⟩,⟨some 11,none,.bin .lss (.t 7) (.t 10)⟩],false,[]⟩
def Tryz.r62_3 : LReg := ⟨[⟨some 14,none,.fieldAddr 0 (.t 2)⟩,⟨some 15,none,.load 1 false (.t 14)⟩,⟨some 16,none,.mv (.t 6)⟩,⟨some 17,none,.idx 2 (.t 15) (.t 16)⟩,⟨some 18,none,.fieldAddr 0 (.t 17)⟩,⟨some 19,none,.load 1 false (.t 18)⟩,⟨some 20,none,.mv (.t 1)⟩,⟨some 21,none,.bin .eql (.t 19) (.t 20)⟩],false,[]⟩
def Tryz.r62_4 : LReg := ⟨[⟨some 22,none,.fieldAddr 0 (.t 2)⟩,⟨some 23,none,.load 1 false (.t 22)⟩,⟨some 24,none,.mv (.t 6)⟩,⟨some 25,none,.idx 2 (.t 23) (.t 24)⟩,⟨some 26,none,.fieldAddr 1 (.t 25)⟩,⟨some 27,none,.load 1 false (.t 26)⟩,⟨some 4,none,.mv (.t 27)⟩,⟨some 5,none,.mv (.c (.bool true))⟩],false,[]⟩
def Tryz.r62_5 : LReg := ⟨[⟨some 12,none,.mv (.t 6)⟩,⟨some 13,none,.bin .add (.t 12) (.c (.int .i64 1))⟩,⟨some 6,none,.mv (.t 13)⟩],false,[]⟩
def Tryz.r62_6 : LReg := ⟨[⟨some 4,none,.mv (.c (.nils))⟩,⟨some 5,none,.mv (.c (.bool false))⟩],false,[]⟩
def Tryz.l_ref6_FileIn : LCode := (.seq (.reg Tryz.r62_0) (.seq (.seq (.reg Tryz.r62_1) (.block 0 (.loop (.seq (.seq (.reg Tryz.r62_2) (.cond (.t 11) .skip (.exit 0))) (.seq (.block 1 (.seq (.reg Tryz.r62_3) (.cond (.t 21) (.seq (.reg Tryz.r62_4) .ret) .skip))) (.reg Tryz.r62_5)))))) (.seq (.reg Tryz.r62_6) .ret)))
theorem Tryz.c_ref6_FileIn : fnComp Tryz.prog 23 = some (28, Tryz.l_ref6_FileIn,[.t 4,.t 5]) := by kernel_rfl
def Tryz.r63_0 : LReg := ⟨[⟨some 4,none,.mv (.c (.int .i64 0))⟩],false,[]⟩
def Tryz.r63_1 : LReg := ⟨[⟨some 5,none,.mv (.c (.int .i64 0))⟩],false,[]⟩
def Tryz.r63_2 : LReg := ⟨[⟨some 6,none,.mv (.t 1)⟩,⟨some 7,none,.bin .gtr (.t 6) (.c (.int .i64 0))⟩],false,[]⟩
def Tryz.r63_3 : LReg := ⟨[⟨some 8,none,.mv (.t 1)⟩,⟨some 9,none,.bin .rem (.t 8) (.c (.int .i64 2))⟩,⟨some 10,none,.bin .eql (.t 9) (.c (.int .i64 1))⟩],false,[]⟩
def Tryz.r63_4 : LReg := ⟨[⟨some 11,none,.mv (.t 5)⟩,⟨some 12,none,.mv (.t 0)⟩,⟨some 13,none,.bin .add (.t 11) (.t 12)⟩,⟨some 14,none,.bin .rem (.t 13) (.c (.int .i64 2305843009213693951))⟩,⟨some 5,none,.mv (.t 14)⟩],false,[]⟩
def Tryz.r63_5 : LReg := ⟨[⟨some 15,none,.mv (.t 0)⟩,⟨some 16,none,.mv (.t 0)⟩,⟨some 17,none,.bin .add (.t 15) (.t 16)⟩,⟨some 18,none,.bin .rem (.t 17) (.c (.int .i64 2305843009213693951))⟩,⟨some 0,none,.mv (.t 18)⟩],false,[]⟩
def Tryz.r63_6 : LReg := ⟨[⟨some 19,none,.mv (.t 1)⟩,⟨some 20,none,.bin .quo (.t 19) (.c (.int .i64 2))⟩,⟨some 1,none,.mv (.t 20)⟩],false,[]⟩
def Tryz.r63_7 : LReg := ⟨[⟨some 21,none,.mv (.t 5)⟩,⟨some 4,none,.mv (.t 21)⟩],false,[]⟩
def Tryz.l_ref1_times : LCode := (.seq (.reg Tryz.r63_0) (.seq (.reg Tryz.r63_1) (.seq (.block 0 (.loop (.seq (.seq (.reg Tryz.r63_2) (.cond (.t 7) .skip (.exit 0))) (.block 1 (.seq (.seq (.reg Tryz.r63_3) (.cond (.t 10) (.reg Tryz.r63_4) .skip)) (.seq (.reg Tryz.r63_5) (.reg Tryz.r63_6))))))) (.seq (.reg Tryz.r63_7) .ret))))
theorem Tryz.c_ref1_times : fnComp Tryz.prog 134 = some (22, Tryz.l_ref1_times,[.t 4]) := by kernel_rfl
def Tryz.r64_0 : LReg := ⟨[⟨some 4,none,.mv (.c (.int .i64 0))⟩],false,[]⟩
def Tryz.r64_1 : LReg := ⟨[⟨some 5,none,.mv (.t 0)⟩,⟨some 6,none,.call 134 [(.t 5),(.c (.int .i64 1000003))]⟩,⟨some 7,none,.mv (.t 1)⟩,⟨some 8,none,.call 134 [(.t 7),(.c (.int .i64 31))]⟩,⟨some 9,none,.bin .add (.t 6) (.t 8)⟩,⟨some 10,none,.bin .add (.t 9) (.c (.int .i64 7))⟩,⟨some 11,none,.bin .rem (.t 10) (.c (.int .i64 2305843009213693951))⟩,⟨some 4,none,.mv (.t 11)⟩],false,[]⟩
def Tryz.l_ref1_DigestPair : LCode := (.seq (.reg Tryz.r64_0) (.seq (.reg Tryz.r64_1) .ret))
theorem Tryz.c_ref1_DigestPair : fnComp Tryz.prog 86 = some (12, Tryz.l_ref1_DigestPair,[.t 4]) := by kernel_rfl
def Tryz.r65_0 : LReg := ⟨[⟨some 2,none,.mv (.c (.int .i64 0))⟩],false,[]⟩
def Tryz.r65_1 : LReg := ⟨[⟨some 3,none,.mv (.c (.int .i64 1))⟩],false,[]⟩
def Tryz.r65_2 : LReg := ⟨[⟨some 4,none,.mv (.c (.int .i64 0))⟩],false,[]⟩
def Tryz.r65_3 : LReg := ⟨[⟨some 5,none,.mv (.t 4)⟩,⟨some 6,none,.mv (.t 0)⟩,⟨some 7,none,.len (.t 6)⟩,⟨some 8,none,.bin .lss (.t 5) (.t 7)⟩],false,[]⟩
def Tryz.r65_4 : LReg := ⟨[⟨some 11,none,.mv (.t 3)⟩,⟨some 12,none,.call 134 [(.t 11),(.c (.int .i64 257))]⟩,⟨some 13,none,.mv (.t 0)⟩,⟨some 14,none,.mv (.t 4)⟩,⟨some 15,none,.idx 1 (.t 13) (.t 14)⟩,⟨some 16,none,.load 1 false (.t 15)⟩,⟨some 17,none,.conv .i64 (.t 16)⟩,⟨some 18,none,.bin .add (.t 12) (.t 17)⟩,⟨some 19,none,.bin .add (.t 18) (.c (.int .i64 1))⟩,⟨some 20,none,.bin .rem (.t 19) (.c (.int .i64 2305843009213693951))⟩,⟨some 3,none,.mv (.t 20)⟩],true,[(1,4),(1,5)]⟩
def Tryz.r65_5 : LReg := ⟨[⟨some 9,none,.mv (.t 4)⟩,⟨some 10,none,.bin .add (.t 9) (.c (.int .i64 1))⟩,⟨some 4,none,.mv (.t 10)⟩],false,[]⟩
def Tryz.r65_6 : LReg := ⟨[⟨some 21,none,.mv (.t 3)⟩,⟨some 2,none,.mv (.t 21)⟩],false,[]⟩
def Tryz.l_ref1_DigestOf : LCode := (.seq (.reg Tryz.r65_0) (.seq (.reg Tryz.r65_1) (.seq (.seq (.reg Tryz.r65_2) (.block 0 (.loop (.seq (.seq (.reg Tryz.r65_3) (.cond (.t 8) .skip (.exit 0))) (.seq (.block 1 (.reg Tryz.r65_4)) (.reg Tryz.r65_5)))))) (.seq (.reg Tryz.r65_6) .ret))))
theorem Tryz.c_ref1_DigestOf : fnComp Tryz.prog 87 = some (22, Tryz.l_ref1_DigestOf,[.t 2]) := by kernel_rfl
def Tryz.r66_0 : LReg := ⟨[⟨some 2,none,.mv (.c (.int .i64 0))⟩,⟨some 3,none,.alloc 31 2 [.int .i64 0,.int .i64 0]⟩],false,[]⟩
def Tryz.r66_1 : LReg := ⟨[⟨some 6,none,.mv (.t 0)⟩,⟨some 7,none,.len (.t 6)⟩,⟨some 8,none,.bin .gtr (.t 7) (.c (.int .i64 120))⟩],false,[]⟩
def Tryz.r66_2 : LReg := ⟨[⟨some 9,none,.call 103 [(.c (.int .i64 2)),(.c (.int .i64 (-1)))]⟩,⟨some 2,none,.mv (.c (.int .i64 0))⟩,⟨none,none,.store 2 (.t 3) (.t 9)⟩],false,[]⟩
def Tryz.r66_3 : LReg := ⟨[⟨some 4,none,.mv (.c (.int .i64 2))⟩],false,[]⟩
def Tryz.r66_4 : LReg := ⟨[⟨some 5,none,.mv (.c (.int .i64 0))⟩],false,[]⟩
def Tryz.r66_5 : LReg := ⟨[⟨some 10,none,.mv (.t 5)⟩,⟨some 11,none,.mv (.t 0)⟩,⟨some 12,none,.len (.t 11)⟩,⟨some 13,none,.bin .lss (.t 10) (.t 12)⟩],false,[]⟩
def Tryz.r66_6 : LReg := ⟨[⟨some 16,none,.mv (.t 0)⟩,⟨some 17,none,.mv (.t 5)⟩,⟨some 18,none,.idx 1 (.t 16) (.t 17)⟩,⟨some 19,none,.load 1 false (.t 18)⟩,⟨some 20,none,.slen (.t 19)⟩,⟨some 21,none,.bin .gtr (.t 20) (.c (.int .i64 4096))⟩],false,[]⟩
def Tryz.r66_7 : LReg := ⟨[⟨some 22,none,.mv (.t 5)⟩,⟨some 23,none,.call 103 [(.c (.int .i64 2)),(.t 22)]⟩,⟨some 2,none,.mv (.c (.int .i64 0))⟩,⟨none,none,.store 2 (.t 3) (.t 23)⟩],false,[]⟩
def Tryz.r66_8 : LReg := ⟨[⟨some 24,none,.mv (.t 4)⟩,⟨some 25,none,.mv (.t 0)⟩,⟨some 26,none,.mv (.t 5)⟩,⟨some 27,none,.idx 1 (.t 25) (.t 26)⟩,⟨some 28,none,.load 1 false (.t 27)⟩,⟨some 29,none,.toBytes 5 (.t 28)⟩,⟨some 30,none,.call 87 [(.t 29)]⟩,⟨some 31,none,.call 86 [(.t 24),(.t 30)]⟩,⟨some 4,none,.mv (.t 31)⟩],false,[]⟩
def Tryz.r66_9 : LReg := ⟨[⟨some 14,none,.mv (.t 5)⟩,⟨some 15,none,.bin .add (.t 14) (.c (.int .i64 1))⟩,⟨some 5,none,.mv (.t 15)⟩],false,[]⟩
def Tryz.r66_10 : LReg := ⟨[⟨some 32,none,.mv (.t 4)⟩,⟨some 33,none,.build [.int .i64 0,.int .i64 0] []⟩,⟨some 2,none,.mv (.t 32)⟩,⟨none,none,.store 2 (.t 3) (.t 33)⟩],false,[]⟩
def Tryz.l_ref1_DigestStrings : LCode := (.seq (.reg Tryz.r66_0) (.seq (.seq (.reg Tryz.r66_1) (.cond (.t 8) (.seq (.reg Tryz.r66_2) .ret) .skip)) (.seq (.reg Tryz.r66_3) (.seq (.seq (.reg Tryz.r66_4) (.block 0 (.loop (.seq (.seq (.reg Tryz.r66_5) (.cond (.t 13) .skip (.exit 0))) (.seq (.block 1 (.seq (.seq (.reg Tryz.r66_6) (.cond (.t 21) (.seq (.reg Tryz.r66_7) .ret) .skip)) (.reg Tryz.r66_8))) (.reg Tryz.r66_9)))))) (.seq (.reg Tryz.r66_10) .ret)))))
theorem Tryz.c_ref1_DigestStrings : fnComp Tryz.prog 133 = some (34, Tryz.l_ref1_DigestStrings,[.t 2,.cell 3 2 true]) := by kernel_rfl
def Tryz.r67_0 : LReg := ⟨[⟨some 2,none,.mv (.c (.int .i64 0))⟩],false,[]⟩
def Tryz.r67_1 : LReg := ⟨[⟨some 6,none,.mv (.t 0)⟩,⟨some 7,none,.call 133 [(.t 6)]⟩,⟨some 5,none,.mv (.t 7)⟩,⟨some 8,none,.extract 0 (.t 5)⟩,⟨some 9,none,.extract 1 (.t 5)⟩,⟨some 4,none,.alloc 31 2 [.int .i64 0,.int .i64 0]⟩,⟨some 3,none,.mv (.t 8)⟩,⟨none,none,.store 2 (.t 4) (.t 9)⟩],false,[]⟩
def Tryz.r67_2 : LReg := ⟨[⟨some 10,none,.mv (.t 3)⟩,⟨some 2,none,.mv (.t 10)⟩],false,[]⟩
def Tryz.l_ref6_stringsSum : LCode := (.seq (.reg Tryz.r67_0) (.seq (.reg Tryz.r67_1) (.seq (.reg Tryz.r67_2) .ret)))
theorem Tryz.c_ref6_stringsSum : fnComp Tryz.prog 85 = some (11, Tryz.l_ref6_stringsSum,[.t 2]) := by kernel_rfl
def Tryz.r68_0 : LReg := ⟨[⟨some 2,none,.box 53 3 (.t 0)⟩,⟨some 3,none,.box 25 1 (.t 1)⟩,⟨some 4,none,.mv (.c (.int .i64 0))⟩],false,[]⟩
def Tryz.r68_1 : LReg := ⟨[⟨some 11,none,.fieldAddr 0 (.t 2)⟩,⟨some 12,none,.load 1 false (.t 11)⟩,⟨some 13,none,.call 85 [(.t 12)]⟩,⟨some 5,none,.mv (.t 13)⟩],false,[]⟩
def Tryz.r68_2 : LReg := ⟨[⟨some 6,none,.mv (.c (.int .i64 0))⟩],false,[]⟩
def Tryz.r68_3 : LReg := ⟨[⟨some 14,none,.mv (.t 6)⟩,⟨some 15,none,.fieldAddr 0 (.t 2)⟩,⟨some 16,none,.load 1 false (.t 15)⟩,⟨some 17,none,.len (.t 16)⟩,⟨some 18,none,.bin .lss (.t 14) (.t 17)⟩],false,[]⟩
def Tryz.r68_4 : LReg := ⟨[⟨some 22,none,.load 1 true (.t 3)⟩,⟨some 23,none,.fieldAddr 0 (.t 2)⟩,⟨some 24,none,.load 1 false (.t 23)⟩,⟨some 25,none,.mv (.t 6)⟩,⟨some 26,none,.idx 1 (.t 24) (.t 25)⟩,⟨some 27,none,.load 1 false (.t 26)⟩,⟨some 28,none,.call 23 [(.t 22),(.t 27)]⟩,⟨some 21,none,.mv (.t 28)⟩,⟨some 29,none,.extract 0 (.t 21)⟩,⟨some 30,none,.extract 1 (.t 21)⟩,⟨some 7,none,.mv (.t 29)⟩,⟨some 8,none,.mv (.t 30)⟩],true,[(0,1),(0,2),(0,4),(0,5)]⟩
def Tryz.r68_5 : LReg := ⟨[⟨some 9,none,.mv (.c (.int .i64 0))⟩],false,[]⟩
def Tryz.r68_6 : LReg := ⟨[⟨some 31,none,.mv (.t 8)⟩],false,[]⟩
def Tryz.r68_7 : LReg := ⟨[⟨some 32,none,.mv (.t 7)⟩,⟨some 33,none,.call 85 [(.t 32)]⟩,⟨some 9,none,.mv (.t 33)⟩],false,[]⟩
def Tryz.r68_8 : LReg := ⟨[⟨some 34,none,.mv (.t 5)⟩,⟨some 35,none,.mv (.t 9)⟩,⟨some 36,none,.call 86 [(.t 34),(.t 35)]⟩,⟨some 5,none,.mv (.t 36)⟩],false,[]⟩
def Tryz.r68_9 : LReg := ⟨[⟨some 19,none,.mv (.t 6)⟩,⟨some 20,none,.bin .add (.t 19) (.c (.int .i64 1))⟩,⟨some 6,none,.mv (.t 20)⟩],false,[]⟩
def Tryz.r68_10 : LReg := ⟨[⟨some 10,none,.mv (.c (.int .i64 0))⟩],false,[]⟩
def Tryz.r68_11 : LReg := ⟨[⟨some 37,none,.mv (.t 10)⟩,⟨some 38,none,.fieldAddr 1 (.t 2)⟩,⟨some 39,none,.load 1 false (.t 38)⟩,⟨some 40,none,.len (.t 39)⟩,⟨some 41,none,.bin .lss (.t 37) (.t 40)⟩],false,[]⟩
def Tryz.r68_12 : LReg := ⟨[⟨some 44,none,.mv (.t 5)⟩,⟨some 45,none,.fieldAddr 1 (.t 2)⟩,⟨some 46,none,.load 1 false (.t 45)⟩,⟨some 47,none,.mv (.t 10)⟩,⟨some 48,none,.idx 2 (.t 46) (.t 47)⟩,⟨some 49,none,.fieldAddr 0 (.t 48)⟩,⟨some 50,none,.load 1 false (.t 49)⟩,⟨some 51,none,.fieldAddr 1 (.t 2)⟩,⟨some 52,none,.load 1 false (.t 51)⟩,⟨some 53,none,.mv (.t 10)⟩,⟨some 54,none,.idx 2 (.t 52) (.t 53)⟩,⟨some 55,none,.fieldAddr 1 (.t 54)⟩,⟨some 56,none,.load 1 false (.t 55)⟩,⟨some 57,none,.toBytes 5 (.t 56)⟩,⟨some 58,none,.call 87 [(.t 57)]⟩,⟨some 59,none,.call 86 [(.t 50),(.t 58)]⟩,⟨some 60,none,.call 86 [(.t 44),(.t 59)]⟩,⟨some 5,none,.mv (.t 60)⟩],true,[(1,7),(2,7),(4,7),(5,7),(6,7),(1,8),(2,8),(4,8),(5,8),(6,8),(1,10),(2,10),(4,10),(5,10),(6,10),(1,11),(2,11),(4,11),(5,11),(6,11),(1,12),(2,12),(4,12),(5,12),(6,12),(1,14),(2,14),(4,14),(5,14),(6,14)]⟩
def Tryz.r68_13 : LReg := ⟨[⟨some 42,none,.mv (.t 10)⟩,⟨some 43,none,.bin .add (.t 42) (.c (.int .i64 1))⟩,⟨some 10,none,.mv (.t 43)⟩],false,[]⟩
def Tryz.r68_14 : LReg := ⟨[⟨some 61,none,.mv (.t 5)⟩,⟨some 62,none,.fieldAddr 2 (.t 2)⟩,⟨some 63,none,.load 1 false (.t 62)⟩,⟨some 64,none,.toBytes 5 (.t 63)⟩,⟨some 65,none,.call 87 [(.t 64)]⟩,⟨some 66,none,.call 86 [(.t 61),(.t 65)]⟩,⟨some 4,none,.mv (.t 66)⟩],false,[]⟩
def Tryz.l_ref6_ActionKey : LCode := (.seq (.reg Tryz.r68_0) (.seq (.reg Tryz.r68_1) (.seq (.seq (.reg Tryz.r68_2) (.block 0 (.loop (.seq (.seq (.reg Tryz.r68_3) (.cond (.t 18) .skip (.exit 0))) (.seq (.block 1 (.seq (.reg Tryz.r68_4) (.seq (.reg Tryz.r68_5) (.seq (.seq (.reg Tryz.r68_6) (.cond (.t 31) (.reg Tryz.r68_7) .skip)) (.reg Tryz.r68_8))))) (.reg Tryz.r68_9)))))) (.seq (.seq (.reg Tryz.r68_10) (.block 2 (.loop (.seq (.seq (.reg Tryz.r68_11) (.cond (.t 41) .skip (.exit 2))) (.seq (.block 3 (.reg Tryz.r68_12)) (.reg Tryz.r68_13)))))) (.seq (.reg Tryz.r68_14) .ret)))))
theorem Tryz.c_ref6_ActionKey : fnComp Tryz.prog 32 = some (67, Tryz.l_ref6_ActionKey,[.t 4]) := by kernel_rfl
def Tryz.r69_0 : LReg := ⟨[⟨some 4,none,.mv (.c (.nils))⟩,⟨some 5,none,.mv (.c (.bool false))⟩],false,[]⟩
def Tryz.r69_1 : LReg := ⟨[⟨some 6,none,.mv (.c (.int .i64 0))⟩],false,[]⟩
def Tryz.r69_2 : LReg := ⟨[⟨some 7,none,.mv (.t 6)⟩,⟨some 8,none,.mv (.t 0)⟩,⟨some 9,none,.len (.t 8)⟩,⟨some 10,none,.bin .lss (.t 7) (.t 9)⟩],false,[]⟩
def Tryz.r69_3 : LReg := ⟨[⟨some 13,none,.mv (.t 0)⟩,⟨some 14,none,.mv (.t 6)⟩,⟨some 15,none,.idx 2 (.t 13) (.t 14)⟩,⟨some 16,none,.fieldAddr 0 (.t 15)⟩,⟨some 17,none,.load 1 false (.t 16)⟩,⟨some 18,none,.mv (.t 1)⟩,⟨some 19,none,.bin .eql (.t 17) (.t 18)⟩],false,[]⟩
def Tryz.r69_4 : LReg := ⟨[⟨some 20,none,.mv (.t 0)⟩,⟨some 21,none,.mv (.t 6)⟩,⟨some 22,none,.idx 2 (.t 20) (.t 21)⟩,⟨some 23,none,.fieldAddr 1 (.t 22)⟩,⟨some 24,none,.load 1 false (.t 23)⟩,⟨some 4,none,.mv (.t 24)⟩,⟨some 5,none,.mv (.c (.bool true))⟩],false,[]⟩
def Tryz.r69_5 : LReg := ⟨[⟨some 11,none,.mv (.t 6)⟩,⟨some 12,none,.bin .add (.t 11) (.c (.int .i64 1))⟩,⟨some 6,none,.mv (.t 12)⟩],false,[]⟩
def Tryz.r69_6 : LReg := ⟨[⟨some 4,none,.mv (.c (.nils))⟩,⟨some 5,none,.mv (.c (.bool false))⟩],false,[]⟩
def Tryz.l_ref6_LinesAt : LCode := (.seq (.reg Tryz.r69_0) (.seq (.seq (.reg Tryz.r69_1) (.block 0 (.loop (.seq (.seq (.reg Tryz.r69_2) (.cond (.t 10) .skip (.exit 0))) (.seq (.block 1 (.seq (.reg Tryz.r69_3) (.cond (.t 19) (.seq (.reg Tryz.r69_4) .ret) .skip))) (.reg Tryz.r69_5)))))) (.seq (.reg Tryz.r69_6) .ret)))
theorem Tryz.c_ref6_LinesAt : fnComp Tryz.prog 33 = some (25, Tryz.l_ref6_LinesAt,[.t 4,.t 5]) := by kernel_rfl
def Tryz.r70_0 : LReg := ⟨[⟨some 4,none,.mv (.c (.bool false))⟩],false,[]⟩
def Tryz.r70_1 : LReg := ⟨[⟨some 5,none,.mv (.c (.int .i64 0))⟩],false,[]⟩
def Tryz.r70_2 : LReg := ⟨[⟨some 6,none,.mv (.t 5)⟩,⟨some 7,none,.mv (.t 0)⟩,⟨some 8,none,.len (.t 7)⟩,⟨some 9,none,.bin .lss (.t 6) (.t 8)⟩],false,[]⟩
def Tryz.r70_3 : LReg := ⟨[⟨some 12,none,.mv (.t 0)⟩,⟨some 13,none,.mv (.t 5)⟩,⟨some 14,none,.idx 1 (.t 12) (.t 13)⟩,⟨some 15,none,.load 1 false (.t 14)⟩,⟨some 16,none,.mv (.t 1)⟩,⟨some 17,none,.bin .eql (.t 15) (.t 16)⟩],false,[]⟩
def Tryz.r70_4 : LReg := ⟨[⟨some 4,none,.mv (.c (.bool true))⟩],false,[]⟩
def Tryz.r70_5 : LReg := ⟨[⟨some 10,none,.mv (.t 5)⟩,⟨some 11,none,.bin .add (.t 10) (.c (.int .i64 1))⟩,⟨some 5,none,.mv (.t 11)⟩],false,[]⟩
def Tryz.r70_6 : LReg := ⟨[⟨some 4,none,.mv (.c (.bool false))⟩],false,[]⟩
def Tryz.l_ref6_HasString : LCode := (.seq (.reg Tryz.r70_0) (.seq (.seq (.reg Tryz.r70_1) (.block 0 (.loop (.seq (.seq (.reg Tryz.r70_2) (.cond (.t 9) .skip (.exit 0))) (.seq (.block 1 (.seq (.reg Tryz.r70_3) (.cond (.t 17) (.seq (.reg Tryz.r70_4) .ret) .skip))) (.reg Tryz.r70_5)))))) (.seq (.reg Tryz.r70_6) .ret)))
theorem Tryz.c_ref6_HasString : fnComp Tryz.prog 19 = some (18, Tryz.l_ref6_HasString,[.t 4]) := by kernel_rfl
def Tryz.r71_0 : LReg := ⟨[⟨some 2,none,.mv (.c (.nils))⟩],false,[]⟩
def Tryz.r71_1 : LReg := ⟨[⟨some 3,none,.mv (.c (.nils))⟩],false,[]⟩
def Tryz.r71_2 : LReg := ⟨[⟨some 4,none,.mv (.c (.int .i64 0))⟩],false,[]⟩
def Tryz.r71_3 : LReg := ⟨[⟨some 5,none,.mv (.t 4)⟩,⟨some 6,none,.mv (.t 0)⟩,⟨some 7,none,.len (.t 6)⟩,⟨some 8,none,.bin .lss (.t 5) (.t 7)⟩],false,[]⟩
def Tryz.r71_4 : LReg := ⟨[⟨some 11,none,.mv (.t 0)⟩,⟨some 12,none,.mv (.t 4)⟩,⟨some 13,none,.slice 1 (.t 11) none (some (.t 12))⟩,⟨some 14,none,.mv (.t 0)⟩,⟨some 15,none,.mv (.t 4)⟩,⟨some 16,none,.idx 1 (.t 14) (.t 15)⟩,⟨some 17,none,.load 1 false (.t 16)⟩,⟨some 18,none,.call 19 [(.t 13),(.t 17)]⟩,⟨some 19,none,.un .not (.t 18)⟩],true,[(2,5),(2,6)]⟩
def Tryz.r71_5 : LReg := ⟨[⟨some 20,none,.mv (.t 3)⟩,⟨some 21,none,.mv (.t 0)⟩,⟨some 22,none,.mv (.t 4)⟩,⟨some 23,none,.idx 1 (.t 21) (.t 22)⟩,⟨some 24,none,.load 1 false (.t 23)⟩,⟨some 25,none,.mkSlice 9 1 1 [.str []] [(0,(.t 24))]⟩,⟨some 26,none,.append 9 1 16 (.t 20) (.t 25)⟩,⟨some 3,none,.mv (.t 26)⟩],false,[]⟩
def Tryz.r71_6 : LReg := ⟨[⟨some 9,none,.mv (.t 4)⟩,⟨some 10,none,.bin .add (.t 9) (.c (.int .i64 1))⟩,⟨some 4,none,.mv (.t 10)⟩],false,[]⟩
def Tryz.r71_7 : LReg := ⟨[⟨some 27,none,.mv (.t 3)⟩,⟨some 2,none,.mv (.t 27)⟩],false,[]⟩
def Tryz.l_ref6_firsts : LCode := (.seq (.reg Tryz.r71_0) (.seq (.reg Tryz.r71_1) (.seq (.seq (.reg Tryz.r71_2) (.block 0 (.loop (.seq (.seq (.reg Tryz.r71_3) (.cond (.t 8) .skip (.exit 0))) (.seq (.block 1 (.seq (.reg Tryz.r71_4) (.cond (.t 19) (.reg Tryz.r71_5) .skip))) (.reg Tryz.r71_6)))))) (.seq (.reg Tryz.r71_7) .ret))))
theorem Tryz.c_ref6_firsts : fnComp Tryz.prog 135 = some (28, Tryz.l_ref6_firsts,[.t 2]) := by kernel_rfl
def Tryz.r72_0 : LReg := ⟨[⟨some 4,none,.box 53 3 (.t 0)⟩,⟨some 5,none,.box 25 1 (.t 1)⟩,⟨some 6,none,.box 109 2 (.t 2)⟩,⟨some 8,none,.mv (.c (.nils))⟩,⟨some 9,none,.mv (.c (.int .i64 0))⟩],false,[]⟩
def Tryz.r72_1 : LReg := ⟨[⟨some 10,none,.mv (.c (.nils))⟩],false,[]⟩
def Tryz.r72_2 : LReg := ⟨[⟨some 15,none,.fieldAddr 0 (.t 6)⟩,⟨some 16,none,.load 1 false (.t 15)⟩,⟨some 17,none,.bin .eql (.t 16) (.c (.int .i64 5))⟩],false,[]⟩
def Tryz.r72_3 : LReg := ⟨[⟨some 18,none,.mv (.t 3)⟩,⟨some 19,none,.call 135 [(.t 18)]⟩,⟨some 8,none,.mv (.t 19)⟩,⟨some 9,none,.mv (.c (.int .i64 0))⟩],false,[]⟩
def Tryz.r72_4 : LReg := ⟨[⟨some 20,none,.fieldAddr 0 (.t 6)⟩,⟨some 21,none,.load 1 false (.t 20)⟩,⟨some 22,none,.bin .eql (.t 21) (.c (.int .i64 4))⟩],false,[]⟩
def Tryz.r72_5 : LReg := ⟨[⟨some 23,none,.mv (.t 3)⟩,⟨some 24,none,.len (.t 23)⟩,⟨some 25,none,.bin .sub (.t 24) (.c (.int .i64 1))⟩,⟨some 11,none,.mv (.t 25)⟩],false,[]⟩
def Tryz.r72_6 : LReg := ⟨[⟨some 26,none,.mv (.t 11)⟩,⟨some 27,none,.bin .geq (.t 26) (.c (.int .i64 0))⟩],false,[]⟩
def Tryz.r72_7 : LReg := ⟨[⟨some 30,none,.mv (.t 10)⟩,⟨some 31,none,.mv (.t 3)⟩,⟨some 32,none,.mv (.t 11)⟩,⟨some 33,none,.idx 1 (.t 31) (.t 32)⟩,⟨some 34,none,.load 1 false (.t 33)⟩,⟨some 35,none,.mkSlice 9 1 1 [.str []] [(0,(.t 34))]⟩,⟨some 36,none,.append 9 1 16 (.t 30) (.t 35)⟩,⟨some 10,none,.mv (.t 36)⟩],false,[]⟩
def Tryz.r72_8 : LReg := ⟨[⟨some 28,none,.mv (.t 11)⟩,⟨some 29,none,.bin .sub (.t 28) (.c (.int .i64 1))⟩,⟨some 11,none,.mv (.t 29)⟩],false,[]⟩
def Tryz.r72_9 : LReg := ⟨[⟨some 37,none,.mv (.t 10)⟩,⟨some 8,none,.mv (.t 37)⟩,⟨some 9,none,.mv (.c (.int .i64 0))⟩],false,[]⟩
def Tryz.r72_10 : LReg := ⟨[⟨some 38,none,.fieldAddr 1 (.t 6)⟩,⟨some 39,none,.load 1 false (.t 38)⟩,⟨some 40,none,.mkSlice 9 1 1 [.str []] [(0,(.t 39))]⟩,⟨some 12,none,.mv (.t 40)⟩],false,[]⟩
def Tryz.r72_11 : LReg := ⟨[⟨some 41,none,.fieldAddr 0 (.t 6)⟩,⟨some 42,none,.load 1 false (.t 41)⟩,⟨some 43,none,.bin .neq (.t 42) (.c (.int .i64 3))⟩],false,[]⟩
def Tryz.r72_12 : LReg := ⟨[⟨some 44,none,.fieldAddr 0 (.t 4)⟩,⟨some 45,none,.load 1 false (.t 44)⟩,⟨some 46,none,.fieldAddr 1 (.t 6)⟩,⟨some 47,none,.load 1 false (.t 46)⟩,⟨some 48,none,.call 19 [(.t 45),(.t 47)]⟩,⟨some 49,none,.un .not (.t 48)⟩],false,[]⟩
def Tryz.r72_13 : LReg := ⟨[⟨some 8,none,.mv (.c (.nils))⟩,⟨some 9,none,.mv (.c (.int .i64 13))⟩],false,[]⟩
def Tryz.r72_14 : LReg := ⟨[⟨some 51,none,.load 1 true (.t 5)⟩,⟨some 52,none,.fieldAddr 1 (.t 6)⟩,⟨some 53,none,.load 1 false (.t 52)⟩,⟨some 54,none,.call 23 [(.t 51),(.t 53)]⟩,⟨some 50,none,.mv (.t 54)⟩,⟨some 55,none,.extract 0 (.t 50)⟩,⟨some 56,none,.extract 1 (.t 50)⟩,⟨some 13,none,.mv (.t 55)⟩,⟨some 14,none,.mv (.t 56)⟩],false,[]⟩
def Tryz.r72_15 : LReg := ⟨[⟨some 57,none,.fieldAddr 0 (.t 6)⟩,⟨some 58,none,.load 1 false (.t 57)⟩,⟨some 59,none,.bin .eql (.t 58) (.c (.int .i64 1))⟩,⟨some 60,none,.mv (.t 59)⟩,⟨some 61,some (60,true),.mv (.t 14)⟩,⟨some 62,some (60,true),.un .not (.t 61)⟩,⟨some 63,none,.pick (.t 60) (.t 62) (.c (.bool false))⟩],false,[]⟩
def Tryz.r72_16 : LReg := ⟨[⟨some 8,none,.mv (.c (.nils))⟩,⟨some 9,none,.mv (.c (.int .i64 6))⟩],false,[]⟩
def Tryz.r72_17 : LReg := ⟨[⟨some 64,none,.mv (.t 13)⟩,⟨some 12,none,.mv (.t 64)⟩],false,[]⟩
def Tryz.r72_18 : LReg := ⟨[⟨some 65,none,.fieldAddr 0 (.t 6)⟩,⟨some 66,none,.load 1 false (.t 65)⟩,⟨some 67,none,.bin .eql (.t 66) (.c (.int .i64 2))⟩,⟨some 68,none,.mv (.t 67)⟩,⟨some 69,some (68,true),.mv (.t 14)⟩,⟨some 70,none,.pick (.t 68) (.t 69) (.c (.bool false))⟩],false,[]⟩
def Tryz.r72_19 : LReg := ⟨[⟨some 71,none,.mkSlice 9 1 1 [.str []] [(0,(.c (.str [121,101,115])))]⟩,⟨some 12,none,.mv (.t 71)⟩],false,[]⟩
def Tryz.r72_20 : LReg := ⟨[⟨some 72,none,.fieldAddr 0 (.t 6)⟩,⟨some 73,none,.load 1 false (.t 72)⟩,⟨some 74,none,.bin .eql (.t 73) (.c (.int .i64 2))⟩,⟨some 75,none,.mv (.t 74)⟩,⟨some 76,some (75,true),.mv (.t 14)⟩,⟨some 77,some (75,true),.un .not (.t 76)⟩,⟨some 78,none,.pick (.t 75) (.t 77) (.c (.bool false))⟩],false,[]⟩
def Tryz.r72_21 : LReg := ⟨[⟨some 79,none,.mkSlice 9 1 1 [.str []] [(0,(.c (.str [110,111])))]⟩,⟨some 12,none,.mv (.t 79)⟩],false,[]⟩
def Tryz.r72_22 : LReg := ⟨[⟨some 80,none,.mv (.t 3)⟩,⟨some 81,none,.len (.t 80)⟩,⟨some 82,none,.mv (.t 12)⟩,⟨some 83,none,.len (.t 82)⟩,⟨some 84,none,.bin .add (.t 81) (.t 83)⟩,⟨some 85,none,.bin .gtr (.t 84) (.c (.int .i64 120))⟩],false,[]⟩
def Tryz.r72_23 : LReg := ⟨[⟨some 8,none,.mv (.c (.nils))⟩,⟨some 9,none,.mv (.c (.int .i64 10))⟩],false,[]⟩
def Tryz.r72_24 : LReg := ⟨[⟨some 86,none,.mv (.t 10)⟩,⟨some 87,none,.mv (.t 3)⟩,⟨some 88,none,.append 9 1 16 (.t 86) (.t 87)⟩,⟨some 10,none,.mv (.t 88)⟩],false,[]⟩
def Tryz.r72_25 : LReg := ⟨[⟨some 89,none,.mv (.t 10)⟩,⟨some 90,none,.mv (.t 12)⟩,⟨some 91,none,.append 9 1 16 (.t 89) (.t 90)⟩,⟨some 8,none,.mv (.t 91)⟩,⟨some 9,none,.mv (.c (.int .i64 0))⟩],false,[]⟩
def Tryz.l_ref6_opResult : LCode := (.seq (.reg Tryz.r72_0) (.seq (.reg Tryz.r72_1) (.seq (.seq (.reg Tryz.r72_2) (.cond (.t 17) (.seq (.reg Tryz.r72_3) .ret) .skip)) (.seq (.seq (.reg Tryz.r72_4) (.cond (.t 22) (.seq (.seq (.reg Tryz.r72_5) (.block 0 (.loop (.seq (.seq (.reg Tryz.r72_6) (.cond (.t 27) .skip (.exit 0))) (.seq (.block 1 (.reg Tryz.r72_7)) (.reg Tryz.r72_8)))))) (.seq (.reg Tryz.r72_9) .ret)) .skip)) (.seq (.reg Tryz.r72_10) (.seq (.seq (.reg Tryz.r72_11) (.cond (.t 43) (.seq (.seq (.reg Tryz.r72_12) (.cond (.t 49) (.seq (.reg Tryz.r72_13) .ret) .skip)) (.seq (.reg Tryz.r72_14) (.seq (.seq (.reg Tryz.r72_15) (.cond (.t 63) (.seq (.reg Tryz.r72_16) .ret) .skip)) (.seq (.reg Tryz.r72_17) (.seq (.seq (.reg Tryz.r72_18) (.cond (.t 70) (.reg Tryz.r72_19) .skip)) (.seq (.reg Tryz.r72_20) (.cond (.t 78) (.reg Tryz.r72_21) .skip))))))) .skip)) (.seq (.seq (.reg Tryz.r72_22) (.cond (.t 85) (.seq (.reg Tryz.r72_23) .ret) .skip)) (.seq (.reg Tryz.r72_24) (.seq (.reg Tryz.r72_25) .ret)))))))))
theorem Tryz.c_ref6_opResult : fnComp Tryz.prog 88 = some (92, Tryz.l_ref6_opResult,[.t 8,.t 9]) := by kernel_rfl
def Tryz.r73_0 : LReg := ⟨[⟨some 2,none,.box 53 3 (.t 0)⟩,⟨some 3,none,.box 25 1 (.t 1)⟩,⟨some 4,none,.mv (.c (.nils))⟩,⟨some 5,none,.alloc 31 2 [.int .i64 0,.int .i64 0]⟩],false,[]⟩
def Tryz.r73_1 : LReg := ⟨[⟨some 6,none,.mv (.c (.nils))⟩],false,[]⟩
def Tryz.r73_2 : LReg := ⟨[⟨some 7,none,.mv (.c (.int .i64 0))⟩],false,[]⟩
def Tryz.r73_3 : LReg := ⟨[⟨some 10,none,.mv (.t 7)⟩,⟨some 11,none,.fieldAddr 1 (.t 2)⟩,⟨some 12,none,.load 1 false (.t 11)⟩,⟨some 13,none,.len (.t 12)⟩,⟨some 14,none,.bin .lss (.t 10) (.t 13)⟩],false,[]⟩
def Tryz.r73_4 : LReg := ⟨[⟨some 18,none,.load 3 true (.t 2)⟩,⟨some 19,none,.load 1 true (.t 3)⟩,⟨some 20,none,.fieldAddr 1 (.t 2)⟩,⟨some 21,none,.load 1 false (.t 20)⟩,⟨some 22,none,.mv (.t 7)⟩,⟨some 23,none,.idx 2 (.t 21) (.t 22)⟩,⟨some 24,none,.load 2 true (.t 23)⟩,⟨some 25,none,.mv (.t 6)⟩,⟨some 26,none,.call 88 [(.t 18),(.t 19),(.t 24),(.t 25)]⟩,⟨some 17,none,.mv (.t 26)⟩,⟨some 27,none,.extract 0 (.t 17)⟩,⟨some 28,none,.extract 1 (.t 17)⟩,⟨some 8,none,.mv (.t 27)⟩,⟨some 9,none,.mv (.t 28)⟩],true,[(0,1),(0,2),(1,2),(0,3),(1,3),(0,5),(1,5),(0,6),(1,6)]⟩
def Tryz.r73_5 : LReg := ⟨[⟨some 29,none,.mv (.t 9)⟩,⟨some 30,none,.bin .neq (.t 29) (.c (.int .i64 0))⟩],false,[]⟩
def Tryz.r73_6 : LReg := ⟨[⟨some 31,none,.mv (.t 9)⟩,⟨some 32,none,.mv (.t 7)⟩,⟨some 33,none,.bin .sub (.c (.int .i64 (-3))) (.t 32)⟩,⟨some 34,none,.call 80 [(.t 31),(.t 33)]⟩,⟨some 4,none,.mv (.c (.nils))⟩,⟨none,none,.store 2 (.t 5) (.t 34)⟩],false,[]⟩
def Tryz.r73_7 : LReg := ⟨[⟨some 35,none,.mv (.t 8)⟩,⟨some 6,none,.mv (.t 35)⟩],false,[]⟩
def Tryz.r73_8 : LReg := ⟨[⟨some 15,none,.mv (.t 7)⟩,⟨some 16,none,.bin .add (.t 15) (.c (.int .i64 1))⟩,⟨some 7,none,.mv (.t 16)⟩],false,[]⟩
def Tryz.r73_9 : LReg := ⟨[⟨some 36,none,.mv (.t 6)⟩,⟨some 37,none,.build [.int .i64 0,.int .i64 0] []⟩,⟨some 4,none,.mv (.t 36)⟩,⟨none,none,.store 2 (.t 5) (.t 37)⟩],false,[]⟩
def Tryz.l_ref6_Ran : LCode := (.seq (.reg Tryz.r73_0) (.seq (.reg Tryz.r73_1) (.seq (.seq (.reg Tryz.r73_2) (.block 0 (.loop (.seq (.seq (.reg Tryz.r73_3) (.cond (.t 14) .skip (.exit 0))) (.seq (.block 1 (.seq (.reg Tryz.r73_4) (.seq (.seq (.reg Tryz.r73_5) (.cond (.t 30) (.seq (.reg Tryz.r73_6) .ret) .skip)) (.reg Tryz.r73_7)))) (.reg Tryz.r73_8)))))) (.seq (.reg Tryz.r73_9) .ret))))
theorem Tryz.c_ref6_Ran : fnComp Tryz.prog 34 = some (38, Tryz.l_ref6_Ran,[.t 4,.cell 5 2 true]) := by kernel_rfl
def Tryz.r74_0 : LReg := ⟨[⟨some 6,none,.mv (.c (.nils))⟩],false,[]⟩
def Tryz.r74_1 : LReg := ⟨[⟨some 7,none,.mv (.c (.nils))⟩],false,[]⟩
def Tryz.r74_2 : LReg := ⟨[⟨some 8,none,.mv (.c (.int .i64 0))⟩],false,[]⟩
def Tryz.r74_3 : LReg := ⟨[⟨some 10,none,.mv (.t 8)⟩,⟨some 11,none,.mv (.t 0)⟩,⟨some 12,none,.len (.t 11)⟩,⟨some 13,none,.bin .lss (.t 10) (.t 12)⟩,⟨some 14,none,.mv (.t 13)⟩,⟨some 15,some (14,true),.mv (.t 0)⟩,⟨some 16,some (14,true),.mv (.t 8)⟩,⟨some 17,some (14,true),.idx 2 (.t 15) (.t 16)⟩,⟨some 18,some (14,true),.fieldAddr 0 (.t 17)⟩,⟨some 19,some (14,true),.load 1 false (.t 18)⟩,⟨some 20,some (14,true),.mv (.t 1)⟩,⟨some 21,some (14,true),.bin .lss (.t 19) (.t 20)⟩,⟨some 22,none,.pick (.t 14) (.t 21) (.c (.bool false))⟩],false,[]⟩
def Tryz.r74_4 : LReg := ⟨[⟨some 25,none,.mv (.t 7)⟩,⟨some 26,none,.mv (.t 0)⟩,⟨some 27,none,.mv (.t 8)⟩,⟨some 28,none,.idx 2 (.t 26) (.t 27)⟩,⟨some 29,none,.load 2 true (.t 28)⟩,⟨some 30,none,.mkSlice 114 2 1 [.int .i64 0,.nils] [(0,(.t 29))]⟩,⟨some 31,none,.append 114 2 32 (.t 25) (.t 30)⟩,⟨some 7,none,.mv (.t 31)⟩],false,[]⟩
def Tryz.r74_5 : LReg := ⟨[⟨some 23,none,.mv (.t 8)⟩,⟨some 24,none,.bin .add (.t 23) (.c (.int .i64 1))⟩,⟨some 8,none,.mv (.t 24)⟩],false,[]⟩
def Tryz.r74_6 : LReg := ⟨[⟨some 32,none,.mv (.t 7)⟩,⟨some 33,none,.len (.t 32)⟩,⟨some 9,none,.mv (.t 33)⟩],false,[]⟩
def Tryz.r74_7 : LReg := ⟨[⟨some 34,none,.mv (.t 7)⟩,⟨some 35,none,.mv (.t 1)⟩,⟨some 36,none,.mv (.t 2)⟩,⟨some 37,none,.build [.int .i64 0,.nils] [(0,1,(.t 35)),(1,1,(.t 36))]⟩,⟨some 38,none,.mkSlice 114 2 1 [.int .i64 0,.nils] [(0,(.t 37))]⟩,⟨some 39,none,.append 114 2 32 (.t 34) (.t 38)⟩,⟨some 7,none,.mv (.t 39)⟩],false,[]⟩
def Tryz.r74_8 : LReg := ⟨[⟨some 40,none,.mv (.t 9)⟩,⟨some 41,none,.mv (.t 0)⟩,⟨some 42,none,.len (.t 41)⟩,⟨some 43,none,.bin .lss (.t 40) (.t 42)⟩,⟨some 44,none,.mv (.t 43)⟩,⟨some 45,some (44,true),.mv (.t 0)⟩,⟨some 46,some (44,true),.mv (.t 9)⟩,⟨some 47,some (44,true),.idx 2 (.t 45) (.t 46)⟩,⟨some 48,some (44,true),.fieldAddr 0 (.t 47)⟩,⟨some 49,some (44,true),.load 1 false (.t 48)⟩,⟨some 50,some (44,true),.mv (.t 1)⟩,⟨some 51,some (44,true),.bin .eql (.t 49) (.t 50)⟩,⟨some 52,none,.pick (.t 44) (.t 51) (.c (.bool false))⟩],false,[]⟩
def Tryz.r74_9 : LReg := ⟨[⟨some 53,none,.mv (.t 9)⟩,⟨some 54,none,.bin .add (.t 53) (.c (.int .i64 1))⟩,⟨some 9,none,.mv (.t 54)⟩],false,[]⟩
def Tryz.r74_10 : LReg := ⟨[⟨some 55,none,.mv (.t 7)⟩,⟨some 56,none,.mv (.t 0)⟩,⟨some 57,none,.mv (.t 9)⟩,⟨some 58,none,.slice 2 (.t 56) (some (.t 57)) none⟩,⟨some 59,none,.append 114 2 32 (.t 55) (.t 58)⟩,⟨some 6,none,.mv (.t 59)⟩],false,[]⟩
def Tryz.l_ref6_Stored : LCode := (.seq (.reg Tryz.r74_0) (.seq (.reg Tryz.r74_1) (.seq (.seq (.reg Tryz.r74_2) (.block 0 (.loop (.seq (.seq (.reg Tryz.r74_3) (.cond (.t 22) .skip (.exit 0))) (.seq (.block 1 (.reg Tryz.r74_4)) (.reg Tryz.r74_5)))))) (.seq (.reg Tryz.r74_6) (.seq (.reg Tryz.r74_7) (.seq (.seq (.reg Tryz.r74_8) (.cond (.t 52) (.reg Tryz.r74_9) .skip)) (.seq (.reg Tryz.r74_10) .ret)))))))
theorem Tryz.c_ref6_Stored : fnComp Tryz.prog 35 = some (60, Tryz.l_ref6_Stored,[.t 6]) := by kernel_rfl
def Tryz.r75_0 : LReg := ⟨[⟨some 4,none,.mv (.c (.bool false))⟩],false,[]⟩
def Tryz.r75_1 : LReg := ⟨[⟨some 6,none,.mv (.t 0)⟩,⟨some 7,none,.len (.t 6)⟩,⟨some 8,none,.mv (.t 1)⟩,⟨some 9,none,.len (.t 8)⟩,⟨some 10,none,.bin .neq (.t 7) (.t 9)⟩],false,[]⟩
def Tryz.r75_2 : LReg := ⟨[⟨some 4,none,.mv (.c (.bool false))⟩],false,[]⟩
def Tryz.r75_3 : LReg := ⟨[⟨some 5,none,.mv (.c (.int .i64 0))⟩],false,[]⟩
def Tryz.r75_4 : LReg := ⟨[⟨some 11,none,.mv (.t 5)⟩,⟨some 12,none,.mv (.t 0)⟩,⟨some 13,none,.len (.t 12)⟩,⟨some 14,none,.bin .lss (.t 11) (.t 13)⟩],false,[]⟩
def Tryz.r75_5 : LReg := ⟨[⟨some 17,none,.mv (.t 0)⟩,⟨some 18,none,.mv (.t 5)⟩,⟨some 19,none,.idx 2 (.t 17) (.t 18)⟩,⟨some 20,none,.fieldAddr 0 (.t 19)⟩,⟨some 21,none,.load 1 false (.t 20)⟩,⟨some 22,none,.mv (.t 1)⟩,⟨some 23,none,.mv (.t 5)⟩,⟨some 24,none,.idx 2 (.t 22) (.t 23)⟩,⟨some 25,none,.fieldAddr 0 (.t 24)⟩,⟨some 26,none,.load 1 false (.t 25)⟩,⟨some 27,none,.bin .neq (.t 21) (.t 26)⟩,⟨some 28,none,.mv (.t 27)⟩,⟨some 29,some (28,false),.mv (.t 0)⟩,⟨some 30,some (28,false),.mv (.t 5)⟩,⟨some 31,some (28,false),.idx 2 (.t 29) (.t 30)⟩,⟨some 32,some (28,false),.fieldAddr 1 (.t 31)⟩,⟨some 33,some (28,false),.load 1 false (.t 32)⟩,⟨some 34,some (28,false),.mv (.t 1)⟩,⟨some 35,some (28,false),.mv (.t 5)⟩,⟨some 36,some (28,false),.idx 2 (.t 34) (.t 35)⟩,⟨some 37,some (28,false),.fieldAddr 1 (.t 36)⟩,⟨some 38,some (28,false),.load 1 false (.t 37)⟩,⟨some 39,some (28,false),.call 24 [(.t 33),(.t 38)]⟩,⟨some 40,some (28,false),.un .not (.t 39)⟩,⟨some 41,none,.pick (.t 28) (.c (.bool true)) (.t 40)⟩],true,[(2,7),(3,7),(4,7),(2,8),(3,8),(4,8),(2,9),(3,9),(4,9),(14,19),(15,19),(16,19),(14,20),(15,20),(16,20),(14,21),(15,21),(16,21)]⟩
def Tryz.r75_6 : LReg := ⟨[⟨some 4,none,.mv (.c (.bool false))⟩],false,[]⟩
def Tryz.r75_7 : LReg := ⟨[⟨some 15,none,.mv (.t 5)⟩,⟨some 16,none,.bin .add (.t 15) (.c (.int .i64 1))⟩,⟨some 5,none,.mv (.t 16)⟩],false,[]⟩
def Tryz.r75_8 : LReg := ⟨[⟨some 4,none,.mv (.c (.bool true))⟩],false,[]⟩
def Tryz.l_ref6_SameCache : LCode := (.seq (.reg Tryz.r75_0) (.seq (.seq (.reg Tryz.r75_1) (.cond (.t 10) (.seq (.reg Tryz.r75_2) .ret) .skip)) (.seq (.seq (.reg Tryz.r75_3) (.block 0 (.loop (.seq (.seq (.reg Tryz.r75_4) (.cond (.t 14) .skip (.exit 0))) (.seq (.block 1 (.seq (.reg Tryz.r75_5) (.cond (.t 41) (.seq (.reg Tryz.r75_6) .ret) .skip))) (.reg Tryz.r75_7)))))) (.seq (.reg Tryz.r75_8) .ret))))
theorem Tryz.c_ref6_SameCache : fnComp Tryz.prog 36 = some (42, Tryz.l_ref6_SameCache,[.t 4]) := by kernel_rfl
def Tryz.r76_0 : LReg := ⟨[⟨some 4,none,.box 53 3 (.t 1)⟩,⟨some 5,none,.box 25 1 (.t 2)⟩,⟨some 6,none,.mv (.c (.bool false))⟩],false,[]⟩
def Tryz.r76_1 : LReg := ⟨[⟨some 16,none,.call 29 []⟩,⟨some 17,none,.un .not (.t 16)⟩],false,[]⟩
def Tryz.r76_2 : LReg := ⟨[⟨some 6,none,.mv (.c (.bool false))⟩],false,[]⟩
def Tryz.r76_3 : LReg := ⟨[⟨some 18,none,.mv (.t 0)⟩,⟨some 19,none,.call 30 [(.t 18)]⟩,⟨some 7,none,.alloc 31 2 [.int .i64 0,.int .i64 0]⟩,⟨none,none,.store 2 (.t 7) (.t 19)⟩],false,[]⟩
def Tryz.r76_4 : LReg := ⟨[⟨some 20,none,.fieldAddr 0 (.t 7)⟩,⟨some 21,none,.load 1 false (.t 20)⟩,⟨some 22,none,.bin .eql (.t 21) (.c (.int .i64 0))⟩],false,[]⟩
def Tryz.r76_5 : LReg := ⟨[⟨some 23,none,.load 3 true (.t 4)⟩,⟨some 24,none,.load 1 true (.t 5)⟩,⟨some 25,none,.call 31 [(.t 23),(.t 24)]⟩,⟨none,none,.store 2 (.t 7) (.t 25)⟩],false,[]⟩
def Tryz.r76_6 : LReg := ⟨[⟨some 8,none,.mv (.c (.nils))⟩],false,[]⟩
def Tryz.r76_7 : LReg := ⟨[⟨some 9,none,.mv (.c (.bool false))⟩],false,[]⟩
def Tryz.r76_8 : LReg := ⟨[⟨some 10,none,.mv (.c (.int .i64 0))⟩],false,[]⟩
def Tryz.r76_9 : LReg := ⟨[⟨some 26,none,.fieldAddr 0 (.t 7)⟩,⟨some 27,none,.load 1 false (.t 26)⟩,⟨some 28,none,.bin .eql (.t 27) (.c (.int .i64 0))⟩],false,[]⟩
def Tryz.r76_10 : LReg := ⟨[⟨some 29,none,.load 3 true (.t 4)⟩,⟨some 30,none,.load 1 true (.t 5)⟩,⟨some 31,none,.call 32 [(.t 29),(.t 30)]⟩,⟨some 10,none,.mv (.t 31)⟩],false,[]⟩
def Tryz.r76_11 : LReg := ⟨[⟨some 33,none,.mv (.t 0)⟩,⟨some 34,none,.mv (.t 10)⟩,⟨some 35,none,.call 33 [(.t 33),(.t 34)]⟩,⟨some 32,none,.mv (.t 35)⟩,⟨some 36,none,.extract 0 (.t 32)⟩,⟨some 37,none,.extract 1 (.t 32)⟩,⟨some 8,none,.mv (.t 36)⟩,⟨some 9,none,.mv (.t 37)⟩],false,[]⟩
def Tryz.r76_12 : LReg := ⟨[⟨some 38,none,.fieldAddr 0 (.t 7)⟩,⟨some 39,none,.load 1 false (.t 38)⟩,⟨some 40,none,.bin .eql (.t 39) (.c (.int .i64 0))⟩,⟨some 41,none,.mv (.t 40)⟩,⟨some 42,some (41,true),.mv (.t 9)⟩,⟨some 43,some (41,true),.un .not (.t 42)⟩,⟨some 44,none,.pick (.t 41) (.t 43) (.c (.bool false))⟩],false,[]⟩
def Tryz.r76_13 : LReg := ⟨[⟨some 46,none,.load 3 true (.t 4)⟩,⟨some 47,none,.load 1 true (.t 5)⟩,⟨some 48,none,.call 34 [(.t 46),(.t 47)]⟩,⟨some 45,none,.mv (.t 48)⟩,⟨some 49,none,.extract 0 (.t 45)⟩,⟨some 50,none,.extract 1 (.t 45)⟩,⟨some 8,none,.mv (.t 49)⟩,⟨none,none,.store 2 (.t 7) (.t 50)⟩],false,[]⟩
def Tryz.r76_14 : LReg := ⟨[⟨some 52,none,.mv (.t 0)⟩,⟨some 53,none,.load 3 true (.t 4)⟩,⟨some 54,none,.load 1 true (.t 5)⟩,⟨some 55,none,.call 22 [(.t 52),(.t 53),(.t 54)]⟩,⟨some 51,none,.mv (.t 55)⟩,⟨some 56,none,.extract 0 (.t 51)⟩,⟨some 57,none,.extract 1 (.t 51)⟩,⟨some 58,none,.extract 2 (.t 51)⟩,⟨some 59,none,.extract 3 (.t 51)⟩,⟨some 14,none,.alloc 31 2 [.int .i64 0,.int .i64 0]⟩,⟨some 11,none,.mv (.t 56)⟩,⟨some 12,none,.mv (.t 57)⟩,⟨some 13,none,.mv (.t 58)⟩,⟨none,none,.store 2 (.t 14) (.t 59)⟩],false,[]⟩
def Tryz.r76_15 : LReg := ⟨[⟨some 60,none,.load 2 true (.t 14)⟩,⟨some 61,none,.load 2 true (.t 7)⟩,⟨some 62,none,.eqs true [0,0] (.t 60) (.t 61)⟩,⟨some 63,none,.mv (.t 62)⟩,⟨some 64,some (63,false),.fieldAddr 0 (.t 7)⟩,⟨some 65,some (63,false),.load 1 false (.t 64)⟩,⟨some 66,some (63,false),.bin .neq (.t 65) (.c (.int .i64 0))⟩,⟨some 67,none,.pick (.t 63) (.c (.bool true)) (.t 66)⟩],false,[]⟩
def Tryz.r76_16 : LReg := ⟨[⟨some 68,none,.load 2 true (.t 14)⟩,⟨some 69,none,.load 2 true (.t 7)⟩,⟨some 70,none,.eqs false [0,0] (.t 68) (.t 69)⟩,⟨some 71,none,.mv (.t 70)⟩,⟨some 72,some (71,true),.mv (.t 11)⟩,⟨some 73,some (71,true),.len (.t 72)⟩,⟨some 74,some (71,true),.bin .eql (.t 73) (.c (.int .i64 0))⟩,⟨some 75,none,.pick (.t 71) (.t 74) (.c (.bool false))⟩,⟨some 76,none,.mv (.t 75)⟩,⟨some 77,some (76,true),.mv (.t 12)⟩,⟨some 78,some (76,true),.len (.t 77)⟩,⟨some 79,some (76,true),.bin .eql (.t 78) (.c (.int .i64 0))⟩,⟨some 80,none,.pick (.t 76) (.t 79) (.c (.bool false))⟩,⟨some 81,none,.mv (.t 80)⟩,⟨some 82,some (81,true),.mv (.t 13)⟩,⟨some 83,some (81,true),.un .not (.t 82)⟩,⟨some 84,none,.pick (.t 81) (.t 83) (.c (.bool false))⟩,⟨some 6,none,.mv (.t 84)⟩],false,[]⟩
def Tryz.r76_17 : LReg := ⟨[⟨some 85,none,.mv (.t 0)⟩,⟨some 15,none,.mv (.t 85)⟩],false,[]⟩
def Tryz.r76_18 : LReg := ⟨[⟨some 86,none,.mv (.t 9)⟩,⟨some 87,none,.un .not (.t 86)⟩,⟨some 88,none,.mv (.t 87)⟩,⟨some 89,some (88,true),.mv (.t 0)⟩,⟨some 90,some (88,true),.len (.t 89)⟩,⟨some 91,some (88,true),.bin .lss (.t 90) (.c (.int .i64 16))⟩,⟨some 92,none,.pick (.t 88) (.t 91) (.c (.bool false))⟩],false,[]⟩
def Tryz.r76_19 : LReg := ⟨[⟨some 93,none,.mv (.t 0)⟩,⟨some 94,none,.mv (.t 10)⟩,⟨some 95,none,.mv (.t 8)⟩,⟨some 96,none,.call 35 [(.t 93),(.t 94),(.t 95)]⟩,⟨some 15,none,.mv (.t 96)⟩],false,[]⟩
def Tryz.r76_20 : LReg := ⟨[⟨some 97,none,.mv (.t 13)⟩,⟨some 98,none,.mv (.t 9)⟩,⟨some 99,none,.eqb false (.t 97) (.t 98)⟩,⟨some 100,none,.mv (.t 99)⟩,⟨some 101,some (100,true),.mv (.t 11)⟩,⟨some 102,some (100,true),.mv (.t 8)⟩,⟨some 103,some (100,true),.call 24 [(.t 101),(.t 102)]⟩,⟨some 104,none,.pick (.t 100) (.t 103) (.c (.bool false))⟩,⟨some 105,none,.mv (.t 104)⟩,⟨some 106,some (105,true),.mv (.t 12)⟩,⟨some 107,some (105,true),.mv (.t 15)⟩,⟨some 108,some (105,true),.call 36 [(.t 106),(.t 107)]⟩,⟨some 109,none,.pick (.t 105) (.t 108) (.c (.bool false))⟩,⟨some 6,none,.mv (.t 109)⟩],false,[]⟩
def Tryz.l_law6_ActioncacheRunMatchesSpec : LCode := (.seq (.reg Tryz.r76_0) (.seq (.seq (.reg Tryz.r76_1) (.cond (.t 17) (.seq (.reg Tryz.r76_2) .ret) .skip)) (.seq (.reg Tryz.r76_3) (.seq (.seq (.reg Tryz.r76_4) (.cond (.t 22) (.reg Tryz.r76_5) .skip)) (.seq (.reg Tryz.r76_6) (.seq (.reg Tryz.r76_7) (.seq (.reg Tryz.r76_8) (.seq (.seq (.reg Tryz.r76_9) (.cond (.t 28) (.seq (.reg Tryz.r76_10) (.reg Tryz.r76_11)) .skip)) (.seq (.seq (.reg Tryz.r76_12) (.cond (.t 44) (.reg Tryz.r76_13) .skip)) (.seq (.reg Tryz.r76_14) (.seq (.seq (.reg Tryz.r76_15) (.cond (.t 67) (.seq (.reg Tryz.r76_16) .ret) .skip)) (.seq (.reg Tryz.r76_17) (.seq (.seq (.reg Tryz.r76_18) (.cond (.t 92) (.reg Tryz.r76_19) .skip)) (.seq (.reg Tryz.r76_20) .ret))))))))))))))
theorem Tryz.c_law6_ActioncacheRunMatchesSpec : fnComp Tryz.prog 6 = some (110, Tryz.l_law6_ActioncacheRunMatchesSpec,[.t 6]) := by kernel_rfl
end Go.Proofs.YtlkknmhhefjmjaaGreatDoor
