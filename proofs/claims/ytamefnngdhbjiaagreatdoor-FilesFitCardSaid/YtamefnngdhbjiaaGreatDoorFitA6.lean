/- A part of the proof of FilesFitCardSaid: B5, B6, B7. -/
import Derived.Test.YtamefnngdhbjiaaGreatDoorFitA3
import Derived.Test.YtamefnngdhbjiaaGreatDoorFitA5
import Derived.Test.YtamefnngdhbjiaaGreatDoorProg
import Derived.KernelRfl
set_option linter.all false
section
set_option maxRecDepth 100000
namespace Go.Mm
open Go.Proofs
theorem x105_1 : cOps Tryz.prog (opsAt (cOf Tryz.prog 105) [1]) (opsAt (cOf Tryz.prog 105) [1]).toList = some (List.map (·.1) [(fq 4 0 2, false), (lq 5 4, true), (fq 6 0 3, false), (lq 7 6, true), (fq 8 0 2, false), (lq 9 8, false), (fq 10 0 3, false), (lq 11 10, false), (iq 12 6 9 11, false), (fq 13 4 12, false), (lq 14 13, false), (cq 15 106 [(tq 14)], true), (oq 16 (.fun_ 146 [(tq 3)]), false), (cq 17 145 [(tq 15), (tq 16)], true), (iq 18 6 5 7, false), (fq 19 4 18, false), (sq 1 19 17, false)]) := by kernel_rfl
theorem c105_1 : conflicts (opsAt (cOf Tryz.prog 105) [1]) = [(1, 11), (3, 11), (1, 13), (3, 13)] := by kernel_rfl
theorem x111_9 : cOps Tryz.prog (opsAt (cOf Tryz.prog 111) [1, 1, 1, 1, 1, 1, 1, 0]) (opsAt (cOf Tryz.prog 111) [1, 1, 1, 1, 1, 1, 1, 0]).toList = some (List.map (·.1) [(fq 66 0 21, false), (lq 67 66, true), (mq 68 20, false), (mq 69 5, false), (mq 70 15, false), (⟨(some 71), (.call (tq 69) [(tq 70)]), none⟩, true), (iq 72 6 67 68, false), (sq 6 72 71, false)]) := by kernel_rfl
theorem c111_9 : conflicts (opsAt (cOf Tryz.prog 111) [1, 1, 1, 1, 1, 1, 1, 0]) = [(1, 5)] := by kernel_rfl
theorem x115_3 : cOps Tryz.prog (opsAt (cOf Tryz.prog 115) [1, 1, 1, 0]) (opsAt (cOf Tryz.prog 115) [1, 1, 1, 0]).toList = some (List.map (·.1) [(fq 24 0 4, false), (lq 25 24, true), (mq 26 1, false), (mq 27 8, false), (mq 28 9, false), (mq 29 2, false), (mq 30 3, false), (oq 31 (.bld [(.str ⟨#[]⟩), (.int .i64 0)] [(0, (1, (tq 29))), (1, (1, (tq 30)))]), false), (oq 32 (.bsl 71 2 [(.str ⟨#[]⟩), (.int .i64 0)] 1 [(0, (tq 31))]), true), (cq 33 110 [(tq 27), (tq 28), (tq 32)], true), (iq 34 6 25 26, false), (fq 35 4 34, false), (sq 1 35 33, false)]) := by kernel_rfl
theorem c115_3 : conflicts (opsAt (cOf Tryz.prog 115) [1, 1, 1, 0]) = [(1, 8), (1, 9)] := by kernel_rfl
theorem x26_7 : cOps Tryz.prog (opsAt (cOf Tryz.prog 26) [1, 1, 0, 1, 0, 0, 1, 0, 0, 1, 0]) (opsAt (cOf Tryz.prog 26) [1, 1, 0, 1, 0, 0, 1, 0, 0, 1, 0]).toList = some (List.map (·.1) [(fq 57 0 3, false), (lq 58 57, true), (mq 59 7, false), (mq 60 8, false), (iq 61 2 59 60, false), (fq 62 1 61, false), (lq 63 62, true), (iq 64 6 58 63, false), (dq 65 6 64, true), (oq 9 (.alc 38 [(.int .i64 0), (.int .i64 0), (.int .i64 0), (.str ⟨#[]⟩), .nils, (.int .i64 0)]), true), (sq 6 9 65, false)]) := by kernel_rfl
theorem c26_7 : conflicts (opsAt (cOf Tryz.prog 26) [1, 1, 0, 1, 0, 0, 1, 0, 0, 1, 0]) = [(1, 9), (6, 9), (8, 9)] := by kernel_rfl
theorem x44_2 : cOps Tryz.prog (opsAt (cOf Tryz.prog 44) [1, 0, 1, 0, 0]) (opsAt (cOf Tryz.prog 44) [1, 0, 1, 0, 0]).toList = some (List.map (·.1) [(lq 8 2, true), (lq 9 2, false), (oq 10 (.nck (tq 9)), false), (fq 11 0 10, false), (dq 12 3 11, false), (lq 13 2, false), (oq 14 (.nck (tq 13)), false), (fq 15 3 14, false), (lq 16 15, false), (mq 17 1, false), (cq 18 67 [(tq 12), (tq 16), (tq 17), (nq 7)], true), (xq 19 18 0, false), (xq 20 18 1, false), (xq 21 18 2, false), (cq 22 61 [(tq 8), (tq 19), (tq 20), (tq 21)], false)]) := by kernel_rfl
theorem c44_2 : conflicts (opsAt (cOf Tryz.prog 44) [1, 0, 1, 0, 0]) = [(0, 10)] := by kernel_rfl
theorem x46_3 : cOps Tryz.prog (opsAt (cOf Tryz.prog 46) [1, 1, 0, 1, 0]) (opsAt (cOf Tryz.prog 46) [1, 1, 0, 1, 0]).toList = some (List.map (·.1) [(dq 20 3 3, false), (fq 21 2 8, false), (lq 22 21, false), (cq 23 72 [(tq 20), (tq 22)], true), (oq 24 (.un .not (tq 23)), false), (cq 25 71 [(nq 20), (tq 24)], true), (fq 26 0 3, false), (lq 27 26, true), (fq 28 2 8, false), (lq 29 28, true), (iq 30 6 27 29, false), (fq 31 4 30, false), (lq 32 31, true), (oq 33 (.lnS (tq 32)), false), (oq 34 (.bin 0 .gtr (tq 33) (nq 0)), false), (cq 35 71 [(nq 39), (tq 34)], true), (fq 36 2 8, false), (lq 37 36, true), (mq 38 1, false), (oq 39 (.bin 0 .eql (tq 37) (tq 38)), false), (cq 40 71 [(nq 22), (tq 39)], false), (oq 41 (.bsl 108 1 [.nilf] 3 [(0, (tq 25)), (1, (tq 35)), (2, (tq 40))]), false), (cq 42 70 [(tq 41)], false), (mq 9 42, false)]) := by kernel_rfl
theorem c46_3 : conflicts (opsAt (cOf Tryz.prog 46) [1, 1, 0, 1, 0]) = [(3, 7), (5, 7), (3, 9), (5, 9), (3, 12), (5, 12), (3, 17), (5, 17), (15, 17)] := by kernel_rfl
theorem x47_8 : cOps Tryz.prog (opsAt (cOf Tryz.prog 47) [1, 1, 1, 1, 0, 1, 0, 0, 1, 1, 0, 0, 1]) (opsAt (cOf Tryz.prog 47) [1, 1, 1, 1, 0, 1, 0, 0, 1, 1, 0, 0, 1]).toList = some (List.map (·.1) [(lq 63 2, true), (mq 64 1, false), (fq 65 0 8, false), (lq 66 65, false), (cq 67 42 [(tq 64), (tq 66)], true), (cq 68 47 [(tq 63), (tq 67)], false)]) := by kernel_rfl
theorem c47_8 : conflicts (opsAt (cOf Tryz.prog 47) [1, 1, 1, 1, 0, 1, 0, 0, 1, 1, 0, 0, 1]) = [(0, 4)] := by kernel_rfl
theorem x59_8 : cOps Tryz.prog (opsAt (cOf Tryz.prog 59) [1, 1, 1, 1, 1, 0, 1, 0, 0]) (opsAt (cOf Tryz.prog 59) [1, 1, 1, 1, 1, 0, 1, 0, 0]).toList = some (List.map (·.1) [(mq 92 0, false), (oq 93 (.nck (tq 92)), false), (fq 94 0 93, false), (dq 95 3 94, true), (mq 96 0, false), (oq 97 (.nck (tq 96)), false), (fq 98 3 97, false), (lq 99 98, true), (mq 100 2, false), (fq 101 1 8, false), (lq 102 101, true), (cq 103 77 [(tq 95), (tq 99), (tq 100), (tq 102)], true), (mq 91 103, false), (xq 104 91 0, false), (xq 105 91 1, false), (xq 106 91 2, false), (oq 10 (.alc 24 [.nils, (.int .i64 0), (.int .i64 0)]), true), (sq 3 10 104, false), (mq 11 105, false), (mq 12 106, false)]) := by kernel_rfl
theorem c59_8 : conflicts (opsAt (cOf Tryz.prog 59) [1, 1, 1, 1, 1, 0, 1, 0, 0]) = [(3, 16), (7, 16), (10, 16), (11, 16)] := by kernel_rfl
theorem x60_8 : cOps Tryz.prog (opsAt (cOf Tryz.prog 60) [1, 1, 1, 1, 1, 1, 0]) (opsAt (cOf Tryz.prog 60) [1, 1, 1, 1, 1, 1, 0]).toList = some (List.map (·.1) [(mq 48 13, false), (cq 49 100 [(tq 48)], true), (oq 50 (.un .not (tq 49)), false), (cq 51 71 [(nq 22), (tq 50)], true), (dq 52 3 4, true), (lq 53 12, true), (cq 54 79 [(tq 52), (tq 53), (nq 3)], true), (oq 55 (.un .not (tq 54)), false), (cq 56 71 [(nq 13), (tq 55)], true), (lq 57 14, true), (oq 58 (.un .not (tq 57)), false), (mq 59 58, false), (gq 60 59 (.mv (tq 3)), false), (⟨(some 61), (.call (.func 101) [(tq 60)]), (some (59, true))⟩, false), (gq 62 59 (.mv (tq 61)), false), (hq 63 62 (.mv (tq 2)), false), (⟨(some 64), (.call (.func 101) [(tq 63)]), (some (62, false))⟩, false), (gq 65 59 (.pick (tq 62) tt (tq 64)), false), (oq 66 (.pick (tq 59) (tq 65) ff), false), (cq 67 71 [(nq 20), (tq 66)], false), (oq 68 (.fun_ 102 [(tq 14), (tq 4), (tq 12), (tq 10)]), false), (oq 69 (.bsl 108 1 [.nilf] 4 [(0, (tq 51)), (1, (tq 56)), (2, (tq 67)), (3, (tq 68))]), false), (cq 70 70 [(tq 69)], false), (mq 11 70, false)]) := by kernel_rfl
theorem c60_8 : conflicts (opsAt (cOf Tryz.prog 60) [1, 1, 1, 1, 1, 1, 0]) = [(1, 4), (3, 4), (1, 5), (3, 5), (1, 9), (3, 9), (6, 9), (8, 9)] := by kernel_rfl
theorem x60_26 : cOps Tryz.prog (opsAt (cOf Tryz.prog 60) [1, 1, 1, 1, 1, 1, 1, 1, 1, 1, 1, 1, 1, 1, 0]) (opsAt (cOf Tryz.prog 60) [1, 1, 1, 1, 1, 1, 1, 1, 1, 1, 1, 1, 1, 1, 0]).toList = some (List.map (·.1) [(fq 162 0 16, false), (lq 163 162, true), (lq 164 12, true), (mq 165 18, false), (mq 166 19, false), (mq 167 13, false), (fq 168 2 10, false), (lq 169 168, false), (oq 170 (.bld [(.str ⟨#[]⟩), (.int .i64 0)] [(0, (1, (tq 167))), (1, (1, (tq 169)))]), false), (oq 171 (.bsl 71 2 [(.str ⟨#[]⟩), (.int .i64 0)] 1 [(0, (tq 170))]), true), (cq 172 110 [(tq 165), (tq 166), (tq 171)], true), (iq 173 6 163 164, false), (fq 174 4 173, false), (sq 1 174 172, false)]) := by kernel_rfl
theorem c60_26 : conflicts (opsAt (cOf Tryz.prog 60) [1, 1, 1, 1, 1, 1, 1, 1, 1, 1, 1, 1, 1, 1, 0]) = [(1, 9), (2, 9), (1, 10), (2, 10)] := by kernel_rfl
theorem x69_5 : cOps Tryz.prog (opsAt (cOf Tryz.prog 69) [1, 1, 1, 1, 0]) (opsAt (cOf Tryz.prog 69) [1, 1, 1, 1, 0]).toList = some (List.map (·.1) [(mq 28 9, false), (oq 29 (.bin 0 .eql (tq 28) (.const (.string ⟨#[46]⟩))), false), (mq 30 29, false), (hq 31 30 (.mv (tq 9)), false), (hq 32 30 (.bin 0 .eql (tq 31) (.const (.string ⟨#[46, 46]⟩))), false), (oq 33 (.pick (tq 30) tt (tq 32)), false), (cq 34 71 [(nq 22), (tq 33)], true), (mq 35 11, false), (oq 36 (.bin 0 .lss (tq 35) (nq 0)), false), (cq 37 71 [(nq 2), (tq 36)], true), (dq 38 3 3, true), (mq 39 8, false), (cq 40 79 [(tq 38), (tq 39), (nq 3)], false), (oq 41 (.un .not (tq 40)), false), (cq 42 71 [(nq 13), (tq 41)], false), (oq 43 (.bsl 108 1 [.nilf] 3 [(0, (tq 34)), (1, (tq 37)), (2, (tq 42))]), false), (cq 44 70 [(tq 43)], false), (mq 10 44, false)]) := by kernel_rfl
theorem c69_5 : conflicts (opsAt (cOf Tryz.prog 69) [1, 1, 1, 1, 0]) = [(6, 10), (9, 10)] := by kernel_rfl
theorem x8_16 : cOps Tryz.prog (opsAt (cOf Tryz.prog 8) [1, 1, 1, 1, 1, 1, 1, 1, 0, 1, 0, 1, 0]) (opsAt (cOf Tryz.prog 8) [1, 1, 1, 1, 1, 1, 1, 1, 0, 1, 0, 1, 0]).toList = some (List.map (·.1) [(mq 84 15, false), (oq 85 (.nck (tq 84)), false), (fq 86 0 85, false), (dq 87 3 86, true), (mq 88 15, false), (oq 89 (.nck (tq 88)), false), (fq 90 5 89, false), (cq 91 22 [(tq 90)], true), (mq 92 15, false), (oq 93 (.nck (tq 92)), false), (fq 94 7 93, false), (lq 95 94, true), (sq 3 8 87, true), (mq 9 91, false), (mq 10 95, false)]) := by kernel_rfl
theorem c8_16 : conflicts (opsAt (cOf Tryz.prog 8) [1, 1, 1, 1, 1, 1, 1, 1, 0, 1, 0, 1, 0]) = [(3, 7), (7, 11), (11, 12)] := by kernel_rfl
theorem x8_22 : cOps Tryz.prog (opsAt (cOf Tryz.prog 8) [1, 1, 1, 1, 1, 1, 1, 1, 1, 1, 0]) (opsAt (cOf Tryz.prog 8) [1, 1, 1, 1, 1, 1, 1, 1, 1, 1, 0]).toList = some (List.map (·.1) [(mq 110 15, false), (oq 111 (.nck (tq 110)), false), (fq 112 0 111, false), (dq 113 3 112, true), (mq 114 15, false), (oq 115 (.nck (tq 114)), false), (fq 116 5 115, false), (cq 117 22 [(tq 116)], true), (mq 118 15, false), (oq 119 (.nck (tq 118)), false), (fq 120 7 119, false), (lq 121 120, true), (sq 3 8 113, true), (mq 9 117, false), (mq 10 121, false)]) := by kernel_rfl
theorem c8_22 : conflicts (opsAt (cOf Tryz.prog 8) [1, 1, 1, 1, 1, 1, 1, 1, 1, 1, 0]) = [(3, 7), (7, 11), (11, 12)] := by kernel_rfl
theorem r103a : cC Tryz.prog [] (cAt (cOf Tryz.prog 103) [1, 0, 1, 0, 0]) =
 (.reg [⟨(some 7), (.i (.mv (.tmp 11))), none⟩]) := by kernel_rfl
theorem r103b : cC Tryz.prog [] (cAt (cOf Tryz.prog 103) [1, 0, 1, 0, 1]) =
 (.block 1
 (.seq (.reg [⟨(some 12), (.i (.mv (.tmp 7))), none⟩, ⟨(some 13), (.i (.ldo (.tmp 5))), none⟩, ⟨(some 14), (.i (.bin 0 .eql (.tmp 12) (.tmp 13))), none⟩])
 (.cond (.tmp 14)
 (.seq (.reg [⟨none, (.i (.sto 1 (.tmp 6) (.const (.bool true)))), none⟩])
 .ret)
 .skip))) := by kernel_rfl
theorem r138a : cC Tryz.prog [] (cAt (cOf Tryz.prog 138) [1, 0, 1, 1, 0, 1, 0, 0]) =
 (.reg [⟨(some 7), (.i (.mv (.tmp 12))), none⟩]) := by kernel_rfl
theorem r138b : cC Tryz.prog [] (cAt (cOf Tryz.prog 138) [1, 0, 1, 1, 0, 1, 0, 1]) =
 (.block 1
 (.seq (.reg [⟨(some 14), (.i (.ldo (.tmp 2))), none⟩, ⟨(some 15), (.i (.nck (.tmp 14))), none⟩, ⟨(some 16), (.i (.fa 0 (.tmp 15))), none⟩, ⟨(some 17), (.i (.lda 3 (.tmp 16))), none⟩, ⟨(some 18), (.i (.ldo (.tmp 2))), none⟩, ⟨(some 19), (.i (.nck (.tmp 18))), none⟩, ⟨(some 20), (.i (.fa 3 (.tmp 19))), none⟩, ⟨(some 21), (.i (.ldo (.tmp 20))), none⟩, ⟨(some 22), (.i (.mv (.tmp 7))), none⟩, ⟨(some 23), (.call (.func 163) [(.tmp 17), (.tmp 21), (.tmp 22)]), none⟩, ⟨(some 13), (.i (.mv (.tmp 23))), none⟩, ⟨(some 24), (.i (.ext (.tmp 13) 0)), none⟩, ⟨(some 25), (.i (.ext (.tmp 13) 1)), none⟩, ⟨(some 8), (.i (.mv (.tmp 24))), none⟩, ⟨(some 9), (.i (.mv (.tmp 25))), none⟩])
 (.block 2
 (.seq (.reg [⟨(some 45), (.i (.mv (.tmp 9))), none⟩, ⟨(some 46), (.i (.bin 0 .neq (.tmp 45) (.const (.int .i64 0)))), none⟩, ⟨(some 44), (.i (.mv (.tmp 46))), none⟩])
 (.cond (.tmp 44)
 (.seq (.reg [⟨(some 47), (.i (.mv (.tmp 9))), none⟩, ⟨none, (.i (.sto 1 (.tmp 6) (.tmp 47))), none⟩])
 (.exit 0))
 (.seq (.reg [⟨(some 49), (.i (.ldo (.tmp 2))), none⟩, ⟨(some 50), (.i (.nck (.tmp 49))), none⟩, ⟨(some 51), (.i (.fa 0 (.tmp 50))), none⟩, ⟨(some 52), (.i (.fa 0 (.tmp 51))), none⟩, ⟨(some 53), (.i (.ldo (.tmp 52))), none⟩, ⟨(some 54), (.i (.mv (.tmp 8))), none⟩, ⟨(some 55), (.i (.ias 6 (.tmp 53) (.tmp 54))), none⟩, ⟨(some 56), (.i (.fa 0 (.tmp 55))), none⟩, ⟨(some 57), (.i (.ldo (.tmp 56))), none⟩, ⟨(some 58), (.i (.bin 0 .neq (.tmp 57) (.const (.int .i64 3)))), none⟩, ⟨(some 59), (.i (.mv (.tmp 58))), none⟩, ⟨(some 60), (.i (.ldo (.tmp 2))), (some (59, false))⟩, ⟨(some 61), (.i (.nck (.tmp 60))), (some (59, false))⟩, ⟨(some 62), (.i (.fa 4 (.tmp 61))), (some (59, false))⟩, ⟨(some 63), (.i (.ldo (.tmp 62))), (some (59, false))⟩, ⟨(some 64), (.i (.lnS (.tmp 63))), (some (59, false))⟩, ⟨(some 65), (.i (.bin 0 .eql (.tmp 64) (.const (.int .i64 0)))), (some (59, false))⟩, ⟨(some 66), (.i (.mv (.tmp 65))), (some (59, false))⟩, ⟨(some 67), (.i (.ldo (.tmp 3))), (some (66, true))⟩, ⟨(some 68), (.i (.un .not (.tmp 67))), (some (66, true))⟩, ⟨(some 69), (.i (.pick (.tmp 66) (.tmp 68) (.const (.bool false)))), (some (59, false))⟩, ⟨(some 70), (.i (.pick (.tmp 59) (.const (.bool true)) (.tmp 69))), none⟩, ⟨(some 48), (.i (.mv (.tmp 70))), none⟩])
 (.cond (.tmp 48)
 (.reg [⟨(some 71), (.i (.ldo (.tmp 2))), none⟩, ⟨(some 72), (.i (.mv (.tmp 8))), none⟩, ⟨(some 73), (.i (.nck (.tmp 71))), none⟩, ⟨(some 74), (.i (.fa 3 (.tmp 73))), none⟩, ⟨none, (.i (.sto 1 (.tmp 74) (.tmp 72))), none⟩])
 (.seq (.reg [⟨(some 76), (.i (.ldo (.tmp 2))), none⟩, ⟨(some 77), (.i (.nck (.tmp 76))), none⟩, ⟨(some 78), (.i (.fa 5 (.tmp 77))), none⟩, ⟨(some 79), (.i (.ldo (.tmp 78))), none⟩, ⟨(some 80), (.i (.bin 0 .eql (.tmp 79) (.const (.int .i64 8)))), none⟩, ⟨(some 75), (.i (.mv (.tmp 80))), none⟩])
 (.cond (.tmp 75)
 (.seq (.reg [⟨none, (.i (.sto 1 (.tmp 6) (.const (.int .i64 40)))), none⟩])
 (.exit 0))
 (.seq (.reg [⟨(some 26), (.i (.ldo (.tmp 2))), none⟩, ⟨(some 27), (.i (.nck (.tmp 26))), none⟩, ⟨(some 28), (.i (.fa 5 (.tmp 27))), none⟩, ⟨(some 29), (.i (.ldo (.tmp 28))), none⟩, ⟨(some 30), (.i (.bin 0 .add (.tmp 29) (.const (.int .i64 1)))), none⟩, ⟨(some 31), (.i (.nck (.tmp 26))), none⟩, ⟨(some 32), (.i (.fa 5 (.tmp 31))), none⟩, ⟨none, (.i (.sto 1 (.tmp 32) (.tmp 30))), none⟩])
 (.reg [⟨(some 33), (.i (.ldo (.tmp 2))), none⟩, ⟨(some 34), (.i (.ldo (.tmp 2))), none⟩, ⟨(some 35), (.i (.nck (.tmp 34))), none⟩, ⟨(some 36), (.i (.fa 0 (.tmp 35))), none⟩, ⟨(some 37), (.i (.fa 0 (.tmp 36))), none⟩, ⟨(some 38), (.i (.ldo (.tmp 37))), none⟩, ⟨(some 39), (.i (.mv (.tmp 8))), none⟩, ⟨(some 40), (.i (.ias 6 (.tmp 38) (.tmp 39))), none⟩, ⟨(some 41), (.i (.fa 3 (.tmp 40))), none⟩, ⟨(some 42), (.i (.ldo (.tmp 41))), none⟩, ⟨(some 43), (.call (.func 159) [(.tmp 33), (.tmp 42)]), none⟩]))))))))))) := by kernel_rfl
theorem r43a : cC Tryz.prog [] (cAt (cOf Tryz.prog 43) [1, 1, 1, 0, 1, 0, 0]) =
 (.reg [⟨(some 4), (.i (.mv (.tmp 9))), none⟩]) := by kernel_rfl
theorem r43b : cC Tryz.prog [] (cAt (cOf Tryz.prog 43) [1, 1, 1, 0, 1, 0, 1]) =
 (.block 1
 (.reg [⟨(some 10), (.i (.mv (.tmp 4))), none⟩, ⟨none, (.i (.sto 1 (.tmp 3) (.tmp 10))), none⟩])) := by kernel_rfl
theorem r44a : cC Tryz.prog [2, 5] (cAt (cOf Tryz.prog 44) [1, 1, 1, 0, 0]) =
 (.reg [⟨(some 4), (.i (.mv (.tmp 25))), none⟩]) := by kernel_rfl
theorem r44b : cC Tryz.prog [2, 5] (cAt (cOf Tryz.prog 44) [1, 1, 1, 0, 1]) =
 (.block 1
 (.seq (.regX 5 (opsAt (cOf Tryz.prog 44) [1, 1, 1, 0, 1, 0, 0]))
 (.cond (.tmp 47)
 .ret
 .skip))) := by kernel_rfl
theorem r55a : cC Tryz.prog [] (cAt (cOf Tryz.prog 55) [1, 0, 1, 0, 0]) =
 (.reg [⟨(some 5), (.i (.mv (.tmp 7))), none⟩]) := by kernel_rfl
theorem r55b : cC Tryz.prog [] (cAt (cOf Tryz.prog 55) [1, 0, 1, 0, 1]) =
 (.block 1
 (.reg [⟨(some 8), (.i (.ldo (.tmp 2))), none⟩, ⟨(some 9), (.i (.mv (.tmp 5))), none⟩, ⟨(some 10), (.i (.bsl 9 1 [(.str ⟨#[]⟩)] 1 [(0, (.tmp 9))])), none⟩, ⟨(some 11), (.i (.app 9 1 16 (.tmp 8) (.tmp 10))), none⟩, ⟨none, (.i (.sto 1 (.tmp 2) (.tmp 11))), none⟩])) := by kernel_rfl
end Go.Mm
end
section
set_option maxRecDepth 100000
namespace Go.Mm
open Go.Proofs
theorem x44_5 : cOps Tryz.prog (opsAt (cOf Tryz.prog 44) [1, 1, 1, 0, 1, 0, 0]) (opsAt (cOf Tryz.prog 44) [1, 1, 1, 0, 1, 0, 0]).toList = some (List.map (·.1) [(lq 26 2, false), (mq 27 4, false), (cq 28 40 [(tq 26), (tq 27)], false), (oq 29 (.un .not (tq 28)), false), (mq 30 29, false), (gq 31 30 (.ldo (tq 2)), true), (gq 32 30 (.ldo (tq 2)), false), (gq 33 30 (.nck (tq 32)), false), (gq 34 30 (.fa 0 (tq 33)), false), (gq 35 30 (.lda 3 (tq 34)), false), (gq 36 30 (.ldo (tq 2)), false), (gq 37 30 (.nck (tq 36)), false), (gq 38 30 (.fa 3 (tq 37)), false), (gq 39 30 (.ldo (tq 38)), false), (gq 40 30 (.mv (tq 4)), false), (⟨(some 41), (.call (.func 67) [(tq 35), (tq 39), (tq 40), (nq 7)]), (some (30, true))⟩, true), (gq 42 30 (.ext (tq 41) 0), false), (gq 43 30 (.ext (tq 41) 1), false), (gq 44 30 (.ext (tq 41) 2), false), (⟨(some 45), (.call (.func 61) [(tq 31), (tq 42), (tq 43), (tq 44)]), (some (30, true))⟩, false), (gq 46 30 (.un .not (tq 45)), false), (oq 47 (.pick (tq 30) (tq 46) ff), false)]) := by kernel_rfl
theorem c44_5 : conflicts (opsAt (cOf Tryz.prog 44) [1, 1, 1, 0, 1, 0, 0]) = [(5, 15)] := by kernel_rfl
end Go.Mm
end
section
set_option maxRecDepth 100000
namespace Go.Mm
open Go.Proofs
theorem b127 : bodyM Tryz.prog [] 127 = some (19, [(.tmp 4), (.tmp 5)],
 (.seq (.reg [kq 4 0, oq 5 (.mv (.const .nilIface))])
 (.seq (.reg [mq 6 0, cq 7 157 [(tq 6)]])
 (.seq (.reg [mq 8 0, mq 9 0, oq 10 (.nck (tq 9)), fq 11 1 10, lq 12 11, mq 13 1, oq 14 (.app 5 1 1 (tq 12) (tq 13)), oq 15 (.nck (tq 8)), fq 16 1 15, sq 1 16 14])
 (.seq (.reg [mq 17 1, oq 18 (.lnT (tq 17)), mq 4 18, oq 5 (.mv (.const .nilIface))])
 .ret))))) := by kernel_rfl
theorem b145 : bodyM Tryz.prog [] 145 = some (42, [(.tmp 4)],
 (.seq (.reg [oq 4 (.mv (.const (.slice none 0 0)))])
 (.seq (.reg [mq 8 0, mq 9 1, cq 10 166 [(tq 8), (tq 9)], mq 5 10])
 (.seq (.seq (.reg [mq 11 5, oq 12 (.bin 0 .eql (tq 11) (nq (-1)))])
 (.cond (tq 12)
 (.seq (.reg [mq 13 0, mq 4 13])
 .ret)
 .skip))
 (.seq (.seq (.reg [mq 14 5, oq 15 (.bin 0 .add (tq 14) (nq 1)), mq 6 15])
 (.block 0
 (.loop
 (.seq (.seq (.reg [mq 16 6, mq 17 0, oq 18 (.lnS (tq 17)), oq 19 (.bin 0 .lss (tq 16) (tq 18))])
 (.cond (tq 19)
 .skip
 (.exit 0)))
 (.seq (.block 1
 (.seq (.reg [mq 22 0, mq 23 6, iq 24 2 22 23, dq 25 2 24, oq 7 (.alc 71 [(.str ⟨#[]⟩), (.int .i64 0)]), sq 2 7 25])
 (.seq (.reg [mq 26 1, dq 27 2 7, ⟨(some 28), (.call (tq 26) [(tq 27)]), none⟩, oq 29 (.un .not (tq 28))])
 (.cond (tq 29)
 (.seq (.reg [mq 30 0, mq 31 5, dq 32 2 7, iq 33 2 30 31, sq 2 33 32])
 (.reg [mq 34 5, oq 35 (.bin 0 .add (tq 34) (nq 1)), mq 5 35]))
 .skip))))
 (.reg [mq 20 6, oq 21 (.bin 0 .add (tq 20) (nq 1)), mq 6 21]))))))
 (.seq (.reg [mq 36 0, mq 37 5, oq 38 (.slL 2 (tq 36) (some (tq 37)) none), vq (.blt .clear [36] [(tq 38)])])
 (.seq (.reg [mq 39 0, mq 40 5, oq 41 (.slL 2 (tq 39) none (some (tq 40))), mq 4 41])
 .ret))))))) := by kernel_rfl
theorem b110 : bodyM Tryz.prog [] 110 = some (95, [(.tmp 6)],
 (.seq (.reg [oq 6 (.mv (.const (.slice none 0 0)))])
 (.seq (.reg [mq 10 0, mq 11 1, oq 12 (.slL 2 (tq 10) (some (tq 11)) none)])
 (.seq (.reg [mq 13 2, oq 14 (.lnS (tq 13)), mq 7 14])
 (.seq (.seq (.reg [mq 15 7, oq 16 (.bin 0 .eql (tq 15) (nq 0))])
 (.cond (tq 16)
 (.seq (.reg [mq 17 0, mq 6 17])
 .ret)
 .skip))
 (.seq (.reg [mq 18 0, oq 19 (.lnS (tq 18)), mq 8 19])
 (.seq (.seq (.reg [mq 20 1, mq 21 8, oq 22 (.bin 0 .eql (tq 20) (tq 21))])
 (.cond (tq 22)
 (.seq (.reg [mq 23 0, mq 24 2, oq 25 (.app 71 2 24 (tq 23) (tq 24)), mq 6 25])
 .ret)
 .skip))
 (.seq (.seq (.reg [mq 26 8, mq 27 7, oq 28 (.bin 0 .add (tq 26) (tq 27)), mq 29 0, oq 30 (.blt .cap [36] [(tq 29)]), oq 31 (.bin 0 .gtr (tq 28) (tq 30))])
 (.cond (tq 31)
 (.seq (.reg [mq 32 0, mq 33 1, oq 34 (.slL 2 (tq 32) none (some (tq 33))), mq 35 8, mq 36 7, oq 37 (.bin 0 .add (tq 35) (tq 36)), mq 38 1, oq 39 (.bin 0 .sub (tq 37) (tq 38)), oq 40 (.blt .append [36, 3] [(tq 34), (tq 39)]), mq 9 40])
 (.seq (.reg [mq 41 9, mq 42 1, oq 43 (.slL 2 (tq 41) (some (tq 42)) none), mq 44 2, oq 45 (.cpy 2 (tq 43) (tq 44))])
 (.seq (.reg [mq 46 9, mq 47 1, mq 48 7, oq 49 (.bin 0 .add (tq 47) (tq 48)), oq 50 (.slL 2 (tq 46) (some (tq 49)) none), mq 51 0, mq 52 1, oq 53 (.slL 2 (tq 51) (some (tq 52)) none), oq 54 (.cpy 2 (tq 50) (tq 53))])
 (.seq (.reg [mq 55 9, mq 6 55])
 .ret))))
 .skip))
 (.seq (.reg [mq 56 0, mq 57 8, mq 58 7, oq 59 (.bin 0 .add (tq 57) (tq 58)), oq 60 (.slL 2 (tq 56) none (some (tq 59))), mq 0 60])
 (.seq (.seq (.reg [mq 61 2, mq 62 0, mq 63 1, mq 64 7, oq 65 (.bin 0 .add (tq 63) (tq 64)), oq 66 (.slL 2 (tq 62) (some (tq 65)) none), cq 67 148 [(tq 61), (tq 66)], oq 68 (.un .not (tq 67))])
 (.cond (tq 68)
 (.seq (.reg [mq 69 0, mq 70 1, mq 71 7, oq 72 (.bin 0 .add (tq 70) (tq 71)), oq 73 (.slL 2 (tq 69) (some (tq 72)) none), mq 74 0, mq 75 1, oq 76 (.slL 2 (tq 74) (some (tq 75)) none), oq 77 (.cpy 2 (tq 73) (tq 76))])
 (.seq (.reg [mq 78 0, mq 79 1, oq 80 (.slL 2 (tq 78) (some (tq 79)) none), mq 81 2, oq 82 (.cpy 2 (tq 80) (tq 81))])
 (.seq (.reg [mq 83 0, mq 6 83])
 .ret)))
 .skip))
 (.seq (.reg [mq 84 0, mq 85 8, oq 86 (.slL 2 (tq 84) (some (tq 85)) none), mq 87 2, oq 88 (.cpy 2 (tq 86) (tq 87))])
 (.seq (.reg [mq 89 0, mq 90 1, oq 91 (.slL 2 (tq 89) (some (tq 90)) none), mq 92 7, cq 93 149 [(tq 91), (tq 92)]])
 (.seq (.reg [mq 94 0, mq 6 94])
 .ret))))))))))))) := by kernel_rfl
end Go.Mm
end
