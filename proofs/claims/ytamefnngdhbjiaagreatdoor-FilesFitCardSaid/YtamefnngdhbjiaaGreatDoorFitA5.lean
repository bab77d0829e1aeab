/- A part of the proof of FilesFitCardSaid: B0, B1, B2, B3, B4. -/
import Derived.Test.YtamefnngdhbjiaaGreatDoorFitA3
import Derived.Test.YtamefnngdhbjiaaGreatDoorProg
import Derived.KernelRfl
set_option linter.all false
section
namespace Go.Mm
section
abbrev tq (x : Nat) : Operand := .tmp x
abbrev nq (n : Int) : Operand := .const (.int .i64 n)
abbrev tt : Operand := .const (.bool true)
abbrev ff : Operand := .const (.bool false)
abbrev oq (d : Nat) (x : MI) : MOp := ⟨some d, .i x, none⟩
abbrev vq (x : MI) : MOp := ⟨none, .i x, none⟩
abbrev gq (d g : Nat) (x : MI) : MOp := ⟨some d, .i x, some (g, true)⟩
abbrev hq (d g : Nat) (x : MI) : MOp := ⟨some d, .i x, some (g, false)⟩
abbrev mq (d x : Nat) : MOp := ⟨some d, .i (.mv (.tmp x)), none⟩
abbrev kq (d : Nat) (n : Int) : MOp := ⟨some d, .i (.mv (.const (.int .i64 n))), none⟩
abbrev lq (d x : Nat) : MOp := ⟨some d, .i (.ldo (.tmp x)), none⟩
abbrev fq (d f x : Nat) : MOp := ⟨some d, .i (.fa f (.tmp x)), none⟩
abbrev dq (d s x : Nat) : MOp := ⟨some d, .i (.lda s (.tmp x)), none⟩
abbrev xq (d x i : Nat) : MOp := ⟨some d, .i (.ext (.tmp x) i), none⟩
abbrev sq (s x y : Nat) : MOp := ⟨none, .i (.sto s (.tmp x) (.tmp y)), none⟩
abbrev iq (d s x y : Nat) : MOp := ⟨some d, .i (.ias s (.tmp x) (.tmp y)), none⟩
abbrev bq (d t x : Nat) : MOp := ⟨some d, .i (.box t (.tmp x)), none⟩
abbrev cq (d : Nat) (f : FuncId) (l : List Operand) : MOp := ⟨some d, .call (.func f) l, none⟩
end
end Go.Mm
end
section
set_option maxRecDepth 100000
namespace Go.Mm
open Go.Proofs
theorem b3 : bodyM Tryz.prog [] 3 = some (67, [(.tmp 8)],
 (.seq (.reg [bq 4 24 0, oq 8 (.mv ff)])
 (.seq (.seq (.reg [dq 12 3 4, mq 13 3, cq 14 6 [(tq 12), (tq 13)], oq 15 (.un .not (tq 14))])
 (.cond (tq 15)
 (.seq (.reg [cq 16 7 [], mq 8 16])
 .ret)
 .skip))
 (.seq (.reg [dq 18 3 4, mq 19 1, mq 20 2, mq 21 3, cq 22 8 [(tq 18), (tq 19), (tq 20), (tq 21)], mq 17 22, xq 23 17 0, xq 24 17 1, xq 25 17 2, oq 9 (.alc 24 [.nils, (.int .i64 0), (.int .i64 0)]), sq 3 9 23, mq 10 24, mq 11 25])
 (.seq (.seq (.reg [dq 26 3 9, cq 27 9 [(tq 26)], oq 28 (.un .not (tq 27)), mq 29 28, hq 30 29 (.lda 3 (tq 4)), hq 31 29 (.mv (tq 1)), ⟨(some 32), (.call (.func 10) [(tq 30), (tq 31)]), (some (29, false))⟩, hq 33 29 (.bin 0 .neq (tq 32) (.const (.string ⟨#[]⟩))), hq 34 29 (.mv (tq 33)), gq 35 34 (.lda 3 (tq 9)), gq 36 34 (.mv (tq 1)), ⟨(some 37), (.call (.func 10) [(tq 35), (tq 36)]), (some (34, true))⟩, gq 38 34 (.bin 0 .eql (tq 37) (.const (.string ⟨#[]⟩))), hq 39 29 (.pick (tq 34) (tq 38) ff), oq 40 (.pick (tq 29) tt (tq 39)), mq 41 40, hq 42 41 (.mv (tq 11)), hq 43 41 (.bin 0 .lss (tq 42) (nq 0)), oq 44 (.pick (tq 41) tt (tq 43)), mq 45 44, hq 46 45 (.mv (tq 11)), hq 47 45 (.bin 0 .gtr (tq 46) (nq 2)), hq 48 45 (.mv (tq 47)), gq 49 48 (.mv (tq 11)), gq 50 48 (.bin 0 .neq (tq 49) (nq 127)), hq 51 45 (.pick (tq 48) (tq 50) ff), oq 52 (.pick (tq 45) tt (tq 51))])
 (.cond (tq 52)
 (.seq (.reg [oq 8 (.mv ff)])
 .ret)
 .skip))
 (.seq (.reg [mq 53 2, oq 54 (.bin 0 .neq (tq 53) (.const (.string ⟨#[108, 115]⟩))), mq 55 54, gq 56 55 (.mv (tq 11)), gq 57 55 (.bin 0 .lss (tq 56) (nq 2)), oq 58 (.pick (tq 55) (tq 57) ff), mq 59 58, hq 60 59 (.lda 3 (tq 4)), hq 61 59 (.lda 3 (tq 9)), ⟨(some 62), (.call (.func 11) [(tq 60), (tq 61)]), (some (59, false))⟩, oq 63 (.pick (tq 59) tt (tq 62)), mq 64 63, ⟨(some 65), (.call (.func 7) []), (some (64, true))⟩, oq 66 (.pick (tq 64) (tq 65) ff), mq 8 66])
 .ret)))))) := by kernel_rfl
theorem b4 : bodyM Tryz.prog [] 4 = some (111, [(.tmp 6)],
 (.seq (.reg [bq 3 24 0, oq 6 (.mv ff)])
 (.seq (.seq (.reg [dq 20 3 3, mq 21 2, oq 22 (.bsl 9 1 [(.str ⟨#[]⟩)] 1 [(0, (tq 21))]), cq 23 6 [(tq 20), (tq 22)], oq 24 (.un .not (tq 23)), mq 25 24, hq 26 25 (.mv (tq 2)), hq 27 25 (.bin 0 .eql (tq 26) (.const (.string ⟨#[]⟩))), oq 28 (.pick (tq 25) tt (tq 27)), mq 29 28, hq 30 29 (.mv (tq 2)), hq 31 29 (.ixT (tq 30) (nq 0)), hq 32 29 (.bin 0 .eql (tq 31) (.const (.int .u8 45))), oq 33 (.pick (tq 29) tt (tq 32))])
 (.cond (tq 33)
 (.seq (.reg [cq 34 7 [], mq 6 34])
 .ret)
 .skip))
 (.seq (.reg [dq 36 3 3, mq 37 1, mq 38 2, oq 39 (.bsl 9 1 [(.str ⟨#[]⟩)] 1 [(0, (tq 38))]), ⟨(some 40), (.call (.func 8) [(tq 36), (tq 37), (.const (.string ⟨#[116, 111, 117, 99, 104]⟩)), (tq 39)]), none⟩, mq 35 40, xq 41 35 0, xq 42 35 1, xq 43 35 2, oq 7 (.alc 24 [.nils, (.int .i64 0), (.int .i64 0)]), sq 3 7 41, mq 8 42, mq 9 43])
 (.seq (.seq (.reg [mq 44 9, oq 45 (.bin 0 .eql (tq 44) (nq 0))])
 (.cond (tq 45)
 (.seq (.seq (.reg [dq 46 3 7, cq 47 9 [(tq 46)], oq 48 (.un .not (tq 47))])
 (.cond (tq 48)
 (.seq (.reg [oq 6 (.mv ff)])
 .ret)
 .skip))
 (.seq (.reg [dq 50 3 7, mq 51 1, mq 52 2, cq 53 12 [(tq 50), (tq 51), (tq 52), tt], mq 49 53, xq 54 49 0, xq 55 49 1, mq 10 54, mq 11 55])
 (.seq (.seq (.reg [mq 56 11, oq 57 (.bin 0 .neq (tq 56) (nq 0))])
 (.cond (tq 57)
 (.seq (.reg [oq 6 (.mv ff)])
 .ret)
 .skip))
 (.seq (.reg [dq 59 3 7, mq 60 1, mq 61 2, oq 62 (.bsl 9 1 [(.str ⟨#[]⟩)] 1 [(0, (tq 61))]), ⟨(some 63), (.call (.func 8) [(tq 59), (tq 60), (.const (.string ⟨#[108, 115]⟩)), (tq 62)]), none⟩, mq 58 63, xq 64 58 0, xq 65 58 1, xq 66 58 2, oq 12 (.alc 24 [.nils, (.int .i64 0), (.int .i64 0)]), sq 3 12 64, mq 13 65, mq 14 66])
 (.seq (.reg [fq 67 0 7, lq 68 67, mq 69 10, iq 70 6 68 69, fq 71 0 70, lq 72 71, oq 73 (.bin 0 .neq (tq 72) (nq 2)), mq 74 73, gq 75 74 (.mv (tq 13)), gq 76 74 (.mv (tq 2)), gq 77 74 (.bin 0 .add (tq 76) (.const (.string ⟨#[10]⟩))), gq 78 74 (.bin 0 .neq (tq 75) (tq 77)), gq 79 74 (.mv (tq 78)), hq 80 79 (.mv (tq 14)), hq 81 79 (.bin 0 .neq (tq 80) (nq 0)), gq 82 74 (.pick (tq 79) tt (tq 81)), oq 83 (.pick (tq 74) (tq 82) ff)])
 (.cond (tq 83)
 (.seq (.reg [oq 6 (.mv ff)])
 .ret)
 .skip))))))
 .skip))
 (.seq (.reg [dq 85 3 3, mq 86 1, mq 87 2, oq 88 (.bsl 9 1 [(.str ⟨#[]⟩)] 2 [(0, (.const (.string ⟨#[45, 114]⟩))), (1, (tq 87))]), ⟨(some 89), (.call (.func 8) [(tq 85), (tq 86), (.const (.string ⟨#[114, 109]⟩)), (tq 88)]), none⟩, mq 84 89, xq 90 84 0, xq 91 84 1, xq 92 84 2, oq 15 (.alc 24 [.nils, (.int .i64 0), (.int .i64 0)]), sq 3 15 90, mq 16 91, mq 17 92])
 (.seq (.seq (.reg [mq 93 17, oq 94 (.bin 0 .neq (tq 93) (nq 0))])
 (.cond (tq 94)
 (.seq (.reg [cq 95 7 [], mq 6 95])
 .ret)
 .skip))
 (.seq (.seq (.reg [dq 96 3 15, cq 97 9 [(tq 96)], oq 98 (.un .not (tq 97))])
 (.cond (tq 98)
 (.seq (.reg [oq 6 (.mv ff)])
 .ret)
 .skip))
 (.seq (.reg [dq 100 3 15, mq 101 1, mq 102 2, cq 103 12 [(tq 100), (tq 101), (tq 102), ff], mq 99 103, xq 104 99 0, xq 105 99 1, mq 18 104, mq 19 105])
 (.seq (.reg [mq 106 19, oq 107 (.bin 0 .neq (tq 106) (nq 0)), mq 108 107, ⟨(some 109), (.call (.func 7) []), (some (108, true))⟩, oq 110 (.pick (tq 108) (tq 109) ff), mq 6 110])
 .ret)))))))))) := by kernel_rfl
theorem b5 : bodyM Tryz.prog [] 5 = some (147, [(.tmp 8)],
 (.seq (.reg [bq 4 24 0, oq 8 (.mv ff)])
 (.seq (.seq (.reg [dq 18 3 4, mq 19 2, mq 20 3, oq 21 (.bsl 9 1 [(.str ⟨#[]⟩)] 2 [(0, (tq 19)), (1, (tq 20))]), cq 22 6 [(tq 18), (tq 21)], oq 23 (.un .not (tq 22)), mq 24 23, hq 25 24 (.mv (tq 2)), hq 26 24 (.bin 0 .eql (tq 25) (.const (.string ⟨#[]⟩))), oq 27 (.pick (tq 24) tt (tq 26)), mq 28 27, hq 29 28 (.mv (tq 3)), hq 30 28 (.bin 0 .eql (tq 29) (.const (.string ⟨#[]⟩))), oq 31 (.pick (tq 28) tt (tq 30)), mq 32 31, hq 33 32 (.mv (tq 2)), hq 34 32 (.ixT (tq 33) (nq 0)), hq 35 32 (.bin 0 .eql (tq 34) (.const (.int .u8 45))), oq 36 (.pick (tq 32) tt (tq 35)), mq 37 36, hq 38 37 (.mv (tq 3)), hq 39 37 (.ixT (tq 38) (nq 0)), hq 40 37 (.bin 0 .eql (tq 39) (.const (.int .u8 45))), oq 41 (.pick (tq 37) tt (tq 40))])
 (.cond (tq 41)
 (.seq (.reg [cq 42 7 [], mq 8 42])
 .ret)
 .skip))
 (.seq (.reg [dq 44 3 4, mq 45 1, mq 46 2, cq 47 12 [(tq 44), (tq 45), (tq 46), tt], mq 43 47, xq 48 43 0, xq 49 43 1, mq 9 48, mq 10 49])
 (.seq (.reg [dq 51 3 4, mq 52 1, mq 53 3, cq 54 12 [(tq 51), (tq 52), (tq 53), tt], mq 50 54, xq 55 50 0, xq 56 50 1, mq 11 55, mq 12 56])
 (.seq (.reg [dq 58 3 4, mq 59 1, mq 60 2, mq 61 3, oq 62 (.bsl 9 1 [(.str ⟨#[]⟩)] 2 [(0, (tq 60)), (1, (tq 61))]), ⟨(some 63), (.call (.func 8) [(tq 58), (tq 59), (.const (.string ⟨#[99, 112]⟩)), (tq 62)]), none⟩, mq 57 63, xq 64 57 0, xq 65 57 1, xq 66 57 2, oq 13 (.alc 24 [.nils, (.int .i64 0), (.int .i64 0)]), sq 3 13 64, mq 14 65, mq 15 66])
 (.seq (.seq (.reg [mq 67 15, oq 68 (.bin 0 .neq (tq 67) (nq 0))])
 (.cond (tq 68)
 (.seq (.reg [mq 69 14, oq 70 (.bin 0 .eql (tq 69) (.const (.string ⟨#[]⟩))), mq 71 70, ⟨(some 72), (.call (.func 7) []), (some (71, true))⟩, oq 73 (.pick (tq 71) (tq 72) ff), mq 8 73])
 .ret)
 .skip))
 (.seq (.seq (.reg [mq 74 10, oq 75 (.bin 0 .neq (tq 74) (nq 0)), mq 76 75, hq 77 76 (.lda 3 (tq 13)), ⟨(some 78), (.call (.func 9) [(tq 77)]), (some (76, false))⟩, hq 79 76 (.un .not (tq 78)), oq 80 (.pick (tq 76) tt (tq 79)), mq 81 80, hq 82 81 (.fa 0 (tq 13)), hq 83 81 (.ldo (tq 82)), hq 84 81 (.mv (tq 9)), hq 85 81 (.ias 6 (tq 83) (tq 84)), hq 86 81 (.fa 3 (tq 85)), hq 87 81 (.ldo (tq 86)), hq 88 81 (.fa 0 (tq 4)), hq 89 81 (.ldo (tq 88)), hq 90 81 (.mv (tq 9)), hq 91 81 (.ias 6 (tq 89) (tq 90)), hq 92 81 (.fa 3 (tq 91)), hq 93 81 (.ldo (tq 92)), hq 94 81 (.bin 0 .neq (tq 87) (tq 93)), oq 95 (.pick (tq 81) tt (tq 94))])
 (.cond (tq 95)
 (.seq (.reg [oq 8 (.mv ff)])
 .ret)
 .skip))
 (.seq (.seq (.reg [mq 96 12, oq 97 (.bin 0 .eql (tq 96) (nq 0)), mq 98 97, gq 99 98 (.fa 0 (tq 4)), gq 100 98 (.ldo (tq 99)), gq 101 98 (.mv (tq 11)), gq 102 98 (.ias 6 (tq 100) (tq 101)), gq 103 98 (.fa 0 (tq 102)), gq 104 98 (.ldo (tq 103)), gq 105 98 (.bin 0 .eql (tq 104) (nq 2)), oq 106 (.pick (tq 98) (tq 105) ff)])
 (.cond (tq 106)
 (.reg [mq 107 3, mq 108 2, cq 109 14 [(tq 108)], cq 110 13 [(tq 107), (tq 109)], mq 3 110])
 .skip))
 (.seq (.reg [dq 112 3 13, mq 113 1, mq 114 3, cq 115 12 [(tq 112), (tq 113), (tq 114), tt], mq 111 115, xq 116 111 0, xq 117 111 1, mq 16 116, mq 17 117])
 (.seq (.reg [mq 118 17, oq 119 (.bin 0 .neq (tq 118) (nq 0)), mq 120 119, gq 121 120 (.mv (tq 3)), gq 122 120 (.lnT (tq 121)), gq 123 120 (.bin 0 .gtr (tq 122) (nq 1024)), oq 124 (.pick (tq 120) (tq 123) ff), mq 125 124, hq 126 125 (.mv (tq 17)), hq 127 125 (.bin 0 .eql (tq 126) (nq 0)), hq 128 125 (.mv (tq 127)), gq 129 128 (.fa 0 (tq 13)), gq 130 128 (.ldo (tq 129)), gq 131 128 (.mv (tq 16)), gq 132 128 (.ias 6 (tq 130) (tq 131)), gq 133 128 (.fa 3 (tq 132)), gq 134 128 (.ldo (tq 133)), gq 135 128 (.fa 0 (tq 4)), gq 136 128 (.ldo (tq 135)), gq 137 128 (.mv (tq 9)), gq 138 128 (.ias 6 (tq 136) (tq 137)), gq 139 128 (.fa 3 (tq 138)), gq 140 128 (.ldo (tq 139)), gq 141 128 (.bin 0 .eql (tq 134) (tq 140)), hq 142 125 (.pick (tq 128) (tq 141) ff), oq 143 (.pick (tq 125) tt (tq 142)), mq 144 143, ⟨(some 145), (.call (.func 7) []), (some (144, true))⟩, oq 146 (.pick (tq 144) (tq 145) ff), mq 8 146])
 .ret))))))))))) := by kernel_rfl
theorem b6 : bodyM Tryz.prog [] 6 = some (41, [(.tmp 4)],
 (.seq (.reg [bq 2 24 0, oq 4 (.mv ff)])
 (.seq (.reg [kq 5 0])
 (.seq (.seq (.reg [kq 6 0])
 (.block 0
 (.loop
 (.seq (.seq (.reg [mq 7 6, mq 8 1, oq 9 (.lnS (tq 8)), oq 10 (.bin 0 .lss (tq 7) (tq 9)), mq 11 10, gq 12 11 (.mv (tq 5)), gq 13 11 (.bin 0 .leq (tq 12) (nq 3000)), oq 14 (.pick (tq 11) (tq 13) ff)])
 (.cond (tq 14)
 .skip
 (.exit 0)))
 (.seq (.block 1
 (.reg [mq 17 5, mq 18 1, mq 19 6, iq 20 1 18 19, lq 21 20, oq 22 (.lnT (tq 21)), oq 23 (.bin 0 .add (tq 17) (tq 22)), mq 5 23]))
 (.reg [mq 15 6, oq 16 (.bin 0 .add (tq 15) (nq 1)), mq 6 16]))))))
 (.seq (.reg [mq 24 5, oq 25 (.bin 0 .leq (tq 24) (nq 3000)), mq 26 25, gq 27 26 (.mv (tq 1)), gq 28 26 (.lnS (tq 27)), gq 29 26 (.bin 0 .leq (tq 28) (nq 20)), oq 30 (.pick (tq 26) (tq 29) ff), mq 31 30, gq 32 31 (.fa 0 (tq 2)), gq 33 31 (.ldo (tq 32)), gq 34 31 (.lnS (tq 33)), gq 35 31 (.bin 0 .leq (tq 34) (nq 300)), oq 36 (.pick (tq 31) (tq 35) ff), mq 37 36, gq 38 37 (.lda 3 (tq 2)), ⟨(some 39), (.call (.func 9) [(tq 38)]), (some (37, true))⟩, oq 40 (.pick (tq 37) (tq 39) ff), mq 4 40])
 .ret))))) := by kernel_rfl
theorem b8 : bodyM Tryz.prog [16, 22] 8 = some (122, [(.cell 8 24), (.tmp 9), (.tmp 10)],
 (.seq (.reg [bq 4 24 0, oq 8 (.alc 24 [.nils, (.int .i64 0), (.int .i64 0)]), oq 9 (.mv (.const (.string ⟨#[]⟩))), kq 10 0])
 (.seq (.reg [mq 19 2, cq 20 16 [(tq 19)], mq 18 20, xq 21 18 0, xq 22 18 1, oq 11 (.alc 46 [(.str ⟨#[]⟩), (.int .i64 0), (.int .i64 0)]), sq 3 11 21, mq 12 22])
 (.seq (.seq (.reg [mq 23 12, oq 24 (.un .not (tq 23))])
 (.cond (tq 24)
 (.seq (.reg [dq 25 3 4, sq 3 8 25, oq 9 (.mv (.const (.string ⟨#[]⟩))), kq 10 127])
 .ret)
 .skip))
 (.seq (.reg [mq 27 3, fq 28 0 11, lq 29 28, cq 30 17 [(tq 27), (tq 29)], mq 26 30, xq 31 26 0, xq 32 26 1, xq 33 26 2, mq 13 31, mq 14 32, mq 12 33])
 (.seq (.reg [dq 34 3 4, mq 35 1, mq 36 13, oq 37 (.bld [.nils, (.int .i64 0), (.int .i64 0), (.int .i64 0), (.str ⟨#[]⟩), .nilp, .nils, (.int .i64 0)] [(0, (3, (tq 34))), (3, (1, (tq 35))), (4, (1, (tq 36)))]), bq 38 57 37, mq 15 38])
 (.seq (.seq (.reg [mq 39 2, oq 40 (.bin 0 .eql (tq 39) (.const (.string ⟨#[114, 109]⟩))), mq 41 40, gq 42 41 (.mv (tq 15)), ⟨(some 43), (.call (.func 18) [(tq 42), (.const (.int .u8 102))]), (some (41, true))⟩, oq 44 (.pick (tq 41) (tq 43) ff)])
 (.cond (tq 44)
 (.reg [fq 45 1 11, vq (.sto 1 (tq 45) (nq 0))])
 .skip))
 (.seq (.seq (.reg [mq 46 12, oq 47 (.un .not (tq 46)), mq 48 47, hq 49 48 (.mv (tq 14)), hq 50 48 (.lnS (tq 49)), hq 51 48 (.fa 1 (tq 11)), hq 52 48 (.ldo (tq 51)), hq 53 48 (.bin 0 .lss (tq 50) (tq 52)), oq 54 (.pick (tq 48) tt (tq 53)), mq 55 54, hq 56 55 (.fa 2 (tq 11)), hq 57 55 (.ldo (tq 56)), hq 58 55 (.bin 0 .geq (tq 57) (nq 0)), hq 59 55 (.mv (tq 58)), gq 60 59 (.mv (tq 14)), gq 61 59 (.lnS (tq 60)), gq 62 59 (.fa 2 (tq 11)), gq 63 59 (.ldo (tq 62)), gq 64 59 (.bin 0 .gtr (tq 61) (tq 63)), hq 65 55 (.pick (tq 59) (tq 64) ff), oq 66 (.pick (tq 55) tt (tq 65))])
 (.cond (tq 66)
 (.seq (.reg [dq 67 3 4, sq 3 8 67, oq 9 (.mv (.const (.string ⟨#[]⟩))), kq 10 2])
 .ret)
 .skip))
 (.seq (.seq (.reg [mq 68 2, oq 69 (.bin 0 .eql (tq 68) (.const (.string ⟨#[108, 115]⟩)))])
 (.cond (tq 69)
 (.seq (.reg [mq 70 14, cq 71 20 [(tq 70)], cq 72 19 [(tq 71)], mq 14 72])
 (.seq (.reg [mq 73 14, oq 74 (.lnS (tq 73)), oq 75 (.bin 0 .eql (tq 74) (nq 0))])
 (.cond (tq 75)
 (.reg [oq 76 (.bsl 9 1 [(.str ⟨#[]⟩)] 1 [(0, (.const (.string ⟨#[46]⟩)))]), mq 14 76])
 .skip)))
 .skip))
 (.seq (.seq (.reg [fq 77 1 11, lq 78 77, oq 79 (.bin 0 .eql (tq 78) (nq 2))])
 (.cond (tq 79)
 (.seq (.reg [mq 80 15, mq 81 2, mq 82 14, cq 83 21 [(tq 80), (tq 81), (tq 82)]])
 (.seq (.regX 16 (opsAt (cOf Tryz.prog 8) [1, 1, 1, 1, 1, 1, 1, 1, 0, 1, 0, 1, 0]))
 .ret))
 .skip))
 (.seq (.seq (.reg [mq 96 14, oq 97 (.lnS (tq 96)), kq 98 0])
 (.block 0
 (.loop
 (.seq (.reg [oq 99 (.bin 0 .lss (tq 98) (tq 97))])
 (.seq (.cond (tq 99)
 .skip
 (.exit 0))
 (.seq (.block 1
 (.seq (.reg [iq 100 1 96 98, lq 101 100, mq 17 101])
 (.reg [mq 102 15, mq 103 2, mq 104 17, mq 105 14, oq 106 (.lnS (tq 105)), oq 107 (.bin 0 .gtr (tq 106) (nq 1)), cq 108 23 [(tq 102), (tq 103), (tq 104), (tq 107)]])))
 (.reg [oq 109 (.bin 0 .add (tq 98) (nq 1)), mq 98 109])))))))
 (.seq (.regX 22 (opsAt (cOf Tryz.prog 8) [1, 1, 1, 1, 1, 1, 1, 1, 1, 1, 0]))
 .ret)))))))))))) := by kernel_rfl
theorem b9 : bodyM Tryz.prog [] 9 = some (160, [(.tmp 2)],
 (.seq (.reg [bq 1 24 0, oq 2 (.mv ff)])
 (.seq (.reg [fq 10 0 1, lq 11 10, oq 12 (.lnS (tq 11)), mq 3 12])
 (.seq (.seq (.reg [mq 13 3, oq 14 (.bin 0 .lss (tq 13) (nq 1)), mq 15 14, hq 16 15 (.mv (tq 3)), hq 17 15 (.fa 1 (tq 1)), hq 18 15 (.ldo (tq 17)), hq 19 15 (.bin 0 .gtr (tq 16) (tq 18)), oq 20 (.pick (tq 15) tt (tq 19)), mq 21 20, hq 22 21 (.fa 1 (tq 1)), hq 23 21 (.ldo (tq 22)), hq 24 21 (.bin 0 .gtr (tq 23) (nq 256)), oq 25 (.pick (tq 21) tt (tq 24)), mq 26 25, hq 27 26 (.fa 2 (tq 1)), hq 28 26 (.ldo (tq 27)), hq 29 26 (.bin 0 .lss (tq 28) (nq 0)), oq 30 (.pick (tq 26) tt (tq 29)), mq 31 30, hq 32 31 (.fa 2 (tq 1)), hq 33 31 (.ldo (tq 32)), hq 34 31 (.bin 0 .gtr (tq 33) (nq 65536)), oq 35 (.pick (tq 31) tt (tq 34)), mq 36 35, hq 37 36 (.fa 0 (tq 1)), hq 38 36 (.ldo (tq 37)), hq 39 36 (.ias 6 (tq 38) (nq 0)), hq 40 36 (.fa 0 (tq 39)), hq 41 36 (.ldo (tq 40)), hq 42 36 (.bin 0 .neq (tq 41) (nq 2)), oq 43 (.pick (tq 36) tt (tq 42)), mq 44 43, hq 45 44 (.fa 0 (tq 1)), hq 46 44 (.ldo (tq 45)), hq 47 44 (.ias 6 (tq 46) (nq 0)), hq 48 44 (.fa 5 (tq 47)), hq 49 44 (.ldo (tq 48)), hq 50 44 (.bin 0 .neq (tq 49) (nq 0)), oq 51 (.pick (tq 44) tt (tq 50))])
 (.cond (tq 51)
 (.seq (.reg [oq 2 (.mv ff)])
 .ret)
 .skip))
 (.seq (.reg [mq 52 3, oq 53 (.mks 3 1 8 [(.int .i64 0)] (tq 52) (tq 52)), mq 4 53])
 (.seq (.reg [kq 5 0])
 (.seq (.seq (.reg [kq 6 0])
 (.block 0
 (.loop
 (.seq (.seq (.reg [mq 54 6, mq 55 3, oq 56 (.bin 0 .lss (tq 54) (tq 55))])
 (.cond (tq 56)
 .skip
 (.exit 0)))
 (.seq (.block 1
 (.seq (.reg [fq 59 0 1, lq 60 59, mq 61 6, iq 62 6 60 61, dq 63 6 62, oq 7 (.alc 38 [(.int .i64 0), (.int .i64 0), (.int .i64 0), (.str ⟨#[]⟩), .nils, (.int .i64 0)]), sq 6 7 63])
 (.seq (.seq (.reg [dq 64 6 7, cq 65 24 [(tq 64)], oq 66 (.un .not (tq 65)), mq 67 66, hq 68 67 (.fa 3 (tq 7)), hq 69 67 (.ldo (tq 68)), hq 70 67 (.lnT (tq 69)), hq 71 67 (.bin 0 .gtr (tq 70) (nq 65536)), oq 72 (.pick (tq 67) tt (tq 71))])
 (.cond (tq 72)
 (.seq (.reg [oq 2 (.mv ff)])
 .ret)
 .skip))
 (.seq (.reg [mq 73 5, fq 74 3 7, lq 75 74, oq 76 (.lnT (tq 75)), oq 77 (.bin 0 .add (tq 73) (tq 76)), mq 5 77])
 (.seq (.reg [fq 78 0 7, lq 79 78, oq 80 (.bin 0 .eql (tq 79) (nq 2)), mq 81 80, gq 82 81 (.lda 3 (tq 1)), gq 83 81 (.fa 5 (tq 7)), gq 84 81 (.ldo (tq 83)), ⟨(some 85), (.call (.func 25) [(tq 82), (tq 84)]), (some (81, true))⟩, gq 86 81 (.un .not (tq 85)), gq 87 81 (.mv (tq 86)), hq 88 87 (.fa 4 (tq 7)), hq 89 87 (.ldo (tq 88)), hq 90 87 (.lnS (tq 89)), hq 91 87 (.bin 0 .gtr (tq 90) (nq 1024)), gq 92 81 (.pick (tq 87) tt (tq 91)), gq 93 81 (.mv (tq 92)), hq 94 93 (.lda 3 (tq 1)), hq 95 93 (.mv (tq 6)), hq 96 93 (.mv (tq 4)), ⟨(some 97), (.call (.func 26) [(tq 94), (tq 95), (tq 96)]), (some (93, false))⟩, hq 98 93 (.un .not (tq 97)), gq 99 81 (.pick (tq 93) tt (tq 98)), oq 100 (.pick (tq 81) (tq 99) ff)])
 (.cond (tq 100)
 (.seq (.reg [oq 2 (.mv ff)])
 .ret)
 .skip))))))
 (.reg [mq 57 6, oq 58 (.bin 0 .add (tq 57) (nq 1)), mq 6 58]))))))
 (.seq (.seq (.reg [kq 8 0])
 (.block 2
 (.loop
 (.seq (.seq (.reg [mq 101 8, mq 102 3, oq 103 (.bin 0 .lss (tq 101) (tq 102))])
 (.cond (tq 103)
 .skip
 (.exit 2)))
 (.seq (.block 3
 (.seq (.reg [fq 106 0 1, lq 107 106, mq 108 8, iq 109 6 107 108, dq 110 6 109, oq 9 (.alc 38 [(.int .i64 0), (.int .i64 0), (.int .i64 0), (.str ⟨#[]⟩), .nils, (.int .i64 0)]), sq 6 9 110])
 (.seq (.reg [fq 111 2 9, lq 112 111, mq 113 4, mq 114 8, iq 115 1 113 114, lq 116 115, oq 117 (.bin 0 .neq (tq 112) (tq 116)), mq 118 117, hq 119 118 (.fa 0 (tq 9)), hq 120 118 (.ldo (tq 119)), hq 121 118 (.bin 0 .neq (tq 120) (nq 0)), hq 122 118 (.mv (tq 121)), gq 123 122 (.mv (tq 8)), gq 124 122 (.bin 0 .gtr (tq 123) (nq 0)), hq 125 118 (.pick (tq 122) (tq 124) ff), hq 126 118 (.mv (tq 125)), gq 127 126 (.mv (tq 4)), gq 128 126 (.mv (tq 8)), gq 129 126 (.ias 1 (tq 127) (tq 128)), gq 130 126 (.ldo (tq 129)), gq 131 126 (.bin 0 .eql (tq 130) (nq 0)), hq 132 118 (.pick (tq 126) (tq 131) ff), oq 133 (.pick (tq 118) tt (tq 132)), mq 134 133, hq 135 134 (.fa 0 (tq 9)), hq 136 134 (.ldo (tq 135)), hq 137 134 (.bin 0 .eql (tq 136) (nq 2)), hq 138 134 (.mv (tq 137)), gq 139 138 (.lda 3 (tq 1)), gq 140 138 (.mv (tq 8)), ⟨(some 141), (.call (.func 27) [(tq 139), (tq 140)]), (some (138, true))⟩, gq 142 138 (.un .not (tq 141)), gq 143 138 (.mv (tq 142)), hq 144 143 (.mv (tq 8)), hq 145 143 (.bin 0 .gtr (tq 144) (nq 0)), hq 146 143 (.mv (tq 145)), gq 147 146 (.mv (tq 4)), gq 148 146 (.mv (tq 8)), gq 149 146 (.ias 1 (tq 147) (tq 148)), gq 150 146 (.ldo (tq 149)), gq 151 146 (.bin 0 .neq (tq 150) (nq 1)), hq 152 143 (.pick (tq 146) (tq 151) ff), gq 153 138 (.pick (tq 143) tt (tq 152)), hq 154 134 (.pick (tq 138) (tq 153) ff), oq 155 (.pick (tq 134) tt (tq 154))])
 (.cond (tq 155)
 (.seq (.reg [oq 2 (.mv ff)])
 .ret)
 .skip))))
 (.reg [mq 104 8, oq 105 (.bin 0 .add (tq 104) (nq 1)), mq 8 105]))))))
 (.seq (.reg [mq 156 5, fq 157 2 1, lq 158 157, oq 159 (.bin 0 .leq (tq 156) (tq 158)), mq 2 159])
 .ret))))))))) := by kernel_rfl
theorem b10 : bodyM Tryz.prog [] 10 = some (71, [(.tmp 4)],
 (.seq (.reg [bq 2 24 0, oq 4 (.mv (.const (.string ⟨#[]⟩)))])
 (.seq (.seq (.reg [dq 10 3 2, mq 11 1, cq 12 25 [(tq 10), (tq 11)], oq 13 (.un .not (tq 12)), mq 14 13, hq 15 14 (.fa 0 (tq 2)), hq 16 14 (.ldo (tq 15)), hq 17 14 (.mv (tq 1)), hq 18 14 (.ias 6 (tq 16) (tq 17)), hq 19 14 (.fa 0 (tq 18)), hq 20 14 (.ldo (tq 19)), hq 21 14 (.bin 0 .neq (tq 20) (nq 2)), oq 22 (.pick (tq 14) tt (tq 21))])
 (.cond (tq 22)
 (.seq (.reg [oq 4 (.mv (.const (.string ⟨#[]⟩)))])
 .ret)
 .skip))
 (.seq (.reg [oq 5 (.mv (.const (.string ⟨#[]⟩)))])
 (.seq (.seq (.reg [kq 6 0])
 (.block 0
 (.loop
 (.seq (.seq (.reg [mq 23 1, oq 24 (.bin 0 .neq (tq 23) (nq 0)), mq 25 24, gq 26 25 (.mv (tq 6)), gq 27 25 (.fa 0 (tq 2)), gq 28 25 (.ldo (tq 27)), gq 29 25 (.lnS (tq 28)), gq 30 25 (.bin 0 .leq (tq 26) (tq 29)), oq 31 (.pick (tq 25) (tq 30) ff)])
 (.cond (tq 31)
 .skip
 (.exit 0)))
 (.seq (.block 1
 (.seq (.reg [fq 34 0 2, lq 35 34, mq 36 1, iq 37 6 35 36, fq 38 5 37, lq 39 38, mq 7 39])
 (.seq (.reg [fq 40 0 2, lq 41 40, mq 42 7, iq 43 6 41 42, fq 44 4 43, lq 45 44, mq 8 45])
 (.seq (.seq (.reg [kq 9 0])
 (.block 2
 (.loop
 (.seq (.seq (.reg [mq 46 9, mq 47 8, oq 48 (.lnS (tq 47)), oq 49 (.bin 0 .lss (tq 46) (tq 48))])
 (.cond (tq 49)
 .skip
 (.exit 2)))
 (.seq (.block 3
 (.seq (.reg [mq 52 8, mq 53 9, iq 54 2 52 53, fq 55 1 54, lq 56 55, mq 57 1, oq 58 (.bin 0 .eql (tq 56) (tq 57))])
 (.cond (tq 58)
 (.reg [mq 59 8, mq 60 9, iq 61 2 59 60, fq 62 0 61, lq 63 62, oq 64 (.bin 0 .add (.const (.string ⟨#[47]⟩)) (tq 63)), mq 65 5, oq 66 (.bin 0 .add (tq 64) (tq 65)), mq 5 66])
 .skip)))
 (.reg [mq 50 9, oq 51 (.bin 0 .add (tq 50) (nq 1)), mq 9 51]))))))
 (.reg [mq 67 7, mq 1 67])))))
 (.reg [mq 32 6, oq 33 (.bin 0 .add (tq 32) (nq 1)), mq 6 33]))))))
 (.seq (.seq (.reg [mq 68 5, oq 69 (.bin 0 .eql (tq 68) (.const (.string ⟨#[]⟩)))])
 (.cond (tq 69)
 (.seq (.reg [oq 4 (.mv (.const (.string ⟨#[47]⟩)))])
 .ret)
 .skip))
 (.seq (.reg [mq 70 5, mq 4 70])
 .ret))))))) := by kernel_rfl
theorem b11 : bodyM Tryz.prog [] 11 = some (107, [(.tmp 4)],
 (.seq (.reg [bq 2 24 0, bq 3 24 1, oq 4 (.mv ff)])
 (.seq (.seq (.reg [fq 9 1 2, lq 10 9, fq 11 1 3, lq 12 11, oq 13 (.bin 0 .neq (tq 10) (tq 12)), mq 14 13, hq 15 14 (.fa 2 (tq 2)), hq 16 14 (.ldo (tq 15)), hq 17 14 (.fa 2 (tq 3)), hq 18 14 (.ldo (tq 17)), hq 19 14 (.bin 0 .neq (tq 16) (tq 18)), oq 20 (.pick (tq 14) tt (tq 19)), mq 21 20, hq 22 21 (.fa 0 (tq 2)), hq 23 21 (.ldo (tq 22)), hq 24 21 (.lnS (tq 23)), hq 25 21 (.fa 0 (tq 3)), hq 26 21 (.ldo (tq 25)), hq 27 21 (.lnS (tq 26)), hq 28 21 (.bin 0 .neq (tq 24) (tq 27)), oq 29 (.pick (tq 21) tt (tq 28))])
 (.cond (tq 29)
 (.seq (.reg [oq 4 (.mv ff)])
 .ret)
 .skip))
 (.seq (.seq (.reg [kq 5 0])
 (.block 0
 (.loop
 (.seq (.seq (.reg [mq 30 5, fq 31 0 2, lq 32 31, oq 33 (.lnS (tq 32)), oq 34 (.bin 0 .lss (tq 30) (tq 33))])
 (.cond (tq 34)
 .skip
 (.exit 0)))
 (.seq (.block 1
 (.seq (.reg [fq 37 0 2, lq 38 37, mq 39 5, iq 40 6 38 39, dq 41 6 40, oq 6 (.alc 38 [(.int .i64 0), (.int .i64 0), (.int .i64 0), (.str ⟨#[]⟩), .nils, (.int .i64 0)]), sq 6 6 41])
 (.seq (.reg [fq 42 0 3, lq 43 42, mq 44 5, iq 45 6 43 44, dq 46 6 45, oq 7 (.alc 38 [(.int .i64 0), (.int .i64 0), (.int .i64 0), (.str ⟨#[]⟩), .nils, (.int .i64 0)]), sq 6 7 46])
 (.seq (.seq (.reg [fq 47 0 6, lq 48 47, fq 49 0 7, lq 50 49, oq 51 (.bin 0 .neq (tq 48) (tq 50)), mq 52 51, hq 53 52 (.fa 1 (tq 6)), hq 54 52 (.ldo (tq 53)), hq 55 52 (.fa 1 (tq 7)), hq 56 52 (.ldo (tq 55)), hq 57 52 (.bin 0 .neq (tq 54) (tq 56)), oq 58 (.pick (tq 52) tt (tq 57)), mq 59 58, hq 60 59 (.fa 2 (tq 6)), hq 61 59 (.ldo (tq 60)), hq 62 59 (.fa 2 (tq 7)), hq 63 59 (.ldo (tq 62)), hq 64 59 (.bin 0 .neq (tq 61) (tq 63)), oq 65 (.pick (tq 59) tt (tq 64)), mq 66 65, hq 67 66 (.fa 3 (tq 6)), hq 68 66 (.ldo (tq 67)), hq 69 66 (.fa 3 (tq 7)), hq 70 66 (.ldo (tq 69)), hq 71 66 (.bin 0 .neq (tq 68) (tq 70)), oq 72 (.pick (tq 66) tt (tq 71)), mq 73 72, hq 74 73 (.fa 5 (tq 6)), hq 75 73 (.ldo (tq 74)), hq 76 73 (.fa 5 (tq 7)), hq 77 73 (.ldo (tq 76)), hq 78 73 (.bin 0 .neq (tq 75) (tq 77)), oq 79 (.pick (tq 73) tt (tq 78)), mq 80 79, hq 81 80 (.fa 4 (tq 6)), hq 82 80 (.ldo (tq 81)), hq 83 80 (.lnS (tq 82)), hq 84 80 (.fa 4 (tq 7)), hq 85 80 (.ldo (tq 84)), hq 86 80 (.lnS (tq 85)), hq 87 80 (.bin 0 .neq (tq 83) (tq 86)), oq 88 (.pick (tq 80) tt (tq 87))])
 (.cond (tq 88)
 (.seq (.reg [oq 4 (.mv ff)])
 .ret)
 .skip))
 (.seq (.reg [kq 8 0])
 (.block 2
 (.loop
 (.seq (.seq (.reg [mq 89 8, fq 90 4 6, lq 91 90, oq 92 (.lnS (tq 91)), oq 93 (.bin 0 .lss (tq 89) (tq 92))])
 (.cond (tq 93)
 .skip
 (.exit 2)))
 (.seq (.block 3
 (.seq (.reg [fq 96 4 6, lq 97 96, mq 98 8, iq 99 2 97 98, dq 100 2 99, fq 101 4 7, lq 102 101, mq 103 8, iq 104 2 102 103, dq 105 2 104, oq 106 (.bin 21 .neq (tq 100) (tq 105))])
 (.cond (tq 106)
 (.seq (.reg [oq 4 (.mv ff)])
 .ret)
 .skip)))
 (.reg [mq 94 8, oq 95 (.bin 0 .add (tq 94) (nq 1)), mq 8 95]))))))))))
 (.reg [mq 35 5, oq 36 (.bin 0 .add (tq 35) (nq 1)), mq 5 36]))))))
 (.seq (.reg [oq 4 (.mv tt)])
 .ret))))) := by kernel_rfl
theorem b16 : bodyM Tryz.prog [] 16 = some (26, [(.cell 2 46), (.tmp 3)],
 (.seq (.reg [oq 2 (.alc 46 [(.str ⟨#[]⟩), (.int .i64 0), (.int .i64 0)]), oq 3 (.mv ff)])
 (.seq (.seq (.reg [mq 4 0])
 (.block 0
 (.seq (.reg [oq 6 (.bin 0 .eql (tq 4) (.const (.string ⟨#[109, 107, 100, 105, 114]⟩))), mq 5 6])
 (.cond (tq 5)
 (.seq (.reg [⟨(some 7), (.i (.bld [(.str ⟨#[]⟩), (.int .i64 0), (.int .i64 0)] [(0, (1, (.const (.string ⟨#[112]⟩)))), (1, (1, (nq 1))), (2, (1, (nq (-1))))])), none⟩, sq 3 2 7, oq 3 (.mv tt)])
 .ret)
 (.seq (.reg [oq 9 (.bin 0 .eql (tq 4) (.const (.string ⟨#[114, 109]⟩))), mq 8 9])
 (.cond (tq 8)
 (.seq (.reg [⟨(some 10), (.i (.bld [(.str ⟨#[]⟩), (.int .i64 0), (.int .i64 0)] [(0, (1, (.const (.string ⟨#[114, 102]⟩)))), (1, (1, (nq 1))), (2, (1, (nq (-1))))])), none⟩, sq 3 2 10, oq 3 (.mv tt)])
 .ret)
 (.seq (.reg [oq 12 (.bin 0 .eql (tq 4) (.const (.string ⟨#[108, 110]⟩))), mq 11 12])
 (.cond (tq 11)
 (.seq (.reg [oq 13 (.bld [(.str ⟨#[]⟩), (.int .i64 0), (.int .i64 0)] [(0, (1, (.const (.string ⟨#[115]⟩)))), (1, (1, (nq 2))), (2, (1, (nq 2)))]), sq 3 2 13, oq 3 (.mv tt)])
 .ret)
 (.seq (.reg [oq 15 (.bin 0 .eql (tq 4) (.const (.string ⟨#[108, 115]⟩))), mq 14 15])
 (.cond (tq 14)
 (.seq (.reg [⟨(some 16), (.i (.bld [(.str ⟨#[]⟩), (.int .i64 0), (.int .i64 0)] [(0, (1, (.const (.string ⟨#[97, 49]⟩)))), (1, (1, (nq 0))), (2, (1, (nq (-1))))])), none⟩, sq 3 2 16, oq 3 (.mv tt)])
 .ret)
 (.seq (.seq (.reg [oq 18 (.bin 0 .eql (tq 4) (.const (.string ⟨#[114, 109, 100, 105, 114]⟩))), mq 17 18])
 (.cond (tq 17)
 .skip
 (.reg [oq 19 (.bin 0 .eql (tq 4) (.const (.string ⟨#[116, 111, 117, 99, 104]⟩))), mq 17 19])))
 (.cond (tq 17)
 (.seq (.reg [⟨(some 20), (.i (.bld [(.str ⟨#[]⟩), (.int .i64 0), (.int .i64 0)] [(0, (1, (.const (.string ⟨#[]⟩)))), (1, (1, (nq 1))), (2, (1, (nq (-1))))])), none⟩, sq 3 2 20, oq 3 (.mv tt)])
 .ret)
 (.seq (.seq (.reg [oq 22 (.bin 0 .eql (tq 4) (.const (.string ⟨#[109, 118]⟩))), mq 21 22])
 (.cond (tq 21)
 .skip
 (.reg [oq 23 (.bin 0 .eql (tq 4) (.const (.string ⟨#[99, 112]⟩))), mq 21 23])))
 (.cond (tq 21)
 (.seq (.reg [⟨(some 24), (.i (.bld [(.str ⟨#[]⟩), (.int .i64 0), (.int .i64 0)] [(0, (1, (.const (.string ⟨#[]⟩)))), (1, (1, (nq 2))), (2, (1, (nq (-1))))])), none⟩, sq 3 2 24, oq 3 (.mv tt)])
 .ret)
 .skip))))))))))))))
 (.seq (.reg [oq 25 (.bld [(.str ⟨#[]⟩), (.int .i64 0), (.int .i64 0)] []), sq 3 2 25, oq 3 (.mv ff)])
 .ret)))) := by kernel_rfl
theorem b17 : bodyM Tryz.prog [] 17 = some (49, [(.tmp 4), (.tmp 5), (.tmp 6)],
 (.seq (.reg [oq 4 (.mv (.const (.string ⟨#[]⟩))), oq 5 (.mv (.const (.slice none 0 0))), oq 6 (.mv ff)])
 (.seq (.reg [oq 7 (.mv (.const (.string ⟨#[]⟩)))])
 (.seq (.block 0
 (.loop
 (.seq (.seq (.reg [mq 9 0, oq 10 (.lnS (tq 9)), oq 11 (.bin 0 .gtr (tq 10) (nq 0)), mq 12 11, gq 13 12 (.mv (tq 0)), gq 14 12 (.ias 1 (tq 13) (nq 0)), gq 15 12 (.ldo (tq 14)), gq 16 12 (.lnT (tq 15)), gq 17 12 (.bin 0 .gtr (tq 16) (nq 1)), oq 18 (.pick (tq 12) (tq 17) ff), mq 19 18, gq 20 19 (.mv (tq 0)), gq 21 19 (.ias 1 (tq 20) (nq 0)), gq 22 19 (.ldo (tq 21)), gq 23 19 (.ixT (tq 22) (nq 0)), gq 24 19 (.bin 0 .eql (tq 23) (.const (.int .u8 45))), oq 25 (.pick (tq 19) (tq 24) ff)])
 (.cond (tq 25)
 .skip
 (.exit 0)))
 (.block 1
 (.seq (.reg [mq 26 0, oq 27 (.ias 1 (tq 26) (nq 0)), lq 28 27, oq 29 (.slT (tq 28) (some (nq 1)) none), mq 8 29])
 (.seq (.reg [mq 30 0, oq 31 (.slL 1 (tq 30) (some (nq 1)) none), mq 0 31])
 (.seq (.seq (.reg [mq 32 8, oq 33 (.bin 0 .eql (tq 32) (.const (.string ⟨#[45]⟩)))])
 (.cond (tq 33)
 (.exit 0)
 .skip))
 (.seq (.seq (.reg [mq 34 8, mq 35 1, cq 36 35 [(tq 34), (tq 35)], mq 37 1, cq 38 34 [(tq 36), (tq 37)], oq 39 (.bin 0 .neq (tq 38) (.const (.string ⟨#[]⟩))), mq 40 39, hq 41 40 (.mv (tq 1)), hq 42 40 (.bin 0 .eql (tq 41) (.const (.string ⟨#[]⟩))), oq 43 (.pick (tq 40) tt (tq 42))])
 (.cond (tq 43)
 (.seq (.reg [oq 4 (.mv (.const (.string ⟨#[]⟩))), oq 5 (.mv (.const (.slice none 0 0))), oq 6 (.mv ff)])
 .ret)
 .skip))
 (.reg [mq 44 7, mq 45 8, oq 46 (.bin 0 .add (tq 44) (tq 45)), mq 7 46])))))))))
 (.seq (.reg [mq 47 7, mq 48 0, mq 4 47, mq 5 48, oq 6 (.mv tt)])
 .ret))))) := by kernel_rfl
end Go.Mm
end
section
set_option maxRecDepth 100000
namespace Go.Mm
open Go.Proofs
theorem b18 : bodyM Tryz.prog [] 18 = some (12, [(.tmp 4)],
 (.seq (.reg [oq 4 (.mv ff)])
 (.seq (.reg [mq 5 0, oq 6 (.nck (tq 5)), fq 7 4 6, lq 8 7, mq 9 1, cq 10 36 [(tq 8), (tq 9)], oq 11 (.bin 0 .geq (tq 10) (nq 0)), mq 4 11])
 .ret))) := by kernel_rfl
theorem b19 : bodyM Tryz.prog [] 19 = some (9, [(.tmp 2)],
 (.seq (.reg [oq 2 (.mv (.const (.slice none 0 0)))])
 (.seq (.reg [mq 4 0, cq 5 37 [(tq 4)], mq 3 5])
 (.seq (.reg [mq 6 3, cq 7 38 [(tq 6)]])
 (.seq (.reg [mq 8 3, mq 2 8])
 .ret))))) := by kernel_rfl
theorem b20 : bodyM Tryz.prog [] 20 = some (4, [(.tmp 2)],
 (.seq (.reg [bq 1 25 0, oq 2 (.mv (.const .nilFunc))])
 (.seq (.reg [oq 3 (.fun_ 39 [(tq 1)]), mq 2 3])
 .ret))) := by kernel_rfl
theorem b21 : bodyM Tryz.prog [] 21 = some (51, [],
 (.seq (.reg [mq 10 2, oq 11 (.lnS (tq 10)), oq 12 (.bin 0 .sub (tq 11) (nq 1)), mq 6 12])
 (.seq (.reg [mq 13 2, mq 14 6, iq 15 1 13 14, lq 16 15, mq 7 16])
 (.block 0
 (.seq (.reg [mq 21 0, mq 22 7, cq 23 40 [(tq 21), (tq 22)], mq 20 23])
 (.cond (tq 20)
 (.seq (.reg [mq 24 2, mq 25 6, oq 26 (.slL 1 (tq 24) none (some (tq 25))), oq 27 (.lnS (tq 26)), kq 28 0])
 (.block 1
 (.loop
 (.seq (.reg [oq 29 (.bin 0 .lss (tq 28) (tq 27))])
 (.seq (.cond (tq 29)
 .skip
 (.exit 1))
 (.seq (.block 2
 (.seq (.reg [iq 30 1 26 28, lq 31 30, mq 9 31])
 (.reg [mq 32 0, mq 33 1, mq 34 9, mq 35 7, mq 36 9, cq 37 43 [(tq 36)], cq 38 42 [(tq 35), (tq 37)], cq 39 41 [(tq 32), (tq 33), (tq 34), (tq 38)]])))
 (.reg [oq 40 (.bin 0 .add (tq 28) (nq 1)), mq 28 40])))))))
 (.seq (.reg [mq 42 6, oq 43 (.bin 0 .eql (tq 42) (nq 1)), mq 41 43])
 (.cond (tq 41)
 (.reg [mq 44 0, mq 45 1, mq 46 2, oq 47 (.ias 1 (tq 46) (nq 0)), lq 48 47, mq 49 7, cq 50 41 [(tq 44), (tq 45), (tq 48), (tq 49)]])
 (.reg [mq 17 0, oq 18 (.nck (tq 17)), fq 19 7 18, vq (.sto 1 (tq 19) (nq 1))]))))))))) := by kernel_rfl
theorem b23 : bodyM Tryz.prog [] 23 = some (46, [],
 (.seq (.reg [mq 8 1])
 (.block 0
 (.seq (.reg [oq 10 (.bin 0 .eql (tq 8) (.const (.string ⟨#[109, 107, 100, 105, 114]⟩))), mq 9 10])
 (.cond (tq 9)
 (.reg [mq 11 0, mq 12 2, cq 13 44 [(tq 11), (tq 12)]])
 (.seq (.reg [oq 15 (.bin 0 .eql (tq 8) (.const (.string ⟨#[114, 109, 100, 105, 114]⟩))), mq 14 15])
 (.cond (tq 14)
 (.reg [mq 16 0, mq 17 0, oq 18 (.nck (tq 17)), fq 19 0 18, dq 20 3 19, mq 21 0, oq 22 (.nck (tq 21)), fq 23 3 22, lq 24 23, mq 25 2, cq 26 46 [(tq 20), (tq 24), (tq 25)], xq 27 26 0, xq 28 26 1, cq 29 45 [(tq 16), (tq 27), (tq 28)]])
 (.seq (.reg [oq 31 (.bin 0 .eql (tq 8) (.const (.string ⟨#[114, 109]⟩))), mq 30 31])
 (.cond (tq 30)
 (.reg [mq 32 0, mq 33 2, cq 34 47 [(tq 32), (tq 33)]])
 (.seq (.reg [oq 36 (.bin 0 .eql (tq 8) (.const (.string ⟨#[116, 111, 117, 99, 104]⟩))), mq 35 36])
 (.cond (tq 35)
 (.reg [mq 37 0, mq 38 2, cq 39 48 [(tq 37), (tq 38)]])
 (.seq (.reg [oq 41 (.bin 0 .eql (tq 8) (.const (.string ⟨#[108, 115]⟩))), mq 40 41])
 (.cond (tq 40)
 (.reg [mq 42 0, mq 43 2, mq 44 3, cq 45 49 [(tq 42), (tq 43), (tq 44)]])
 .skip))))))))))))) := by kernel_rfl
theorem b24 : bodyM Tryz.prog [] 24 = some (91, [(.tmp 2)],
 (.seq (.reg [bq 1 38 0, oq 2 (.mv ff)])
 (.seq (.seq (.reg [fq 4 0 1, lq 5 4, oq 6 (.bin 0 .eql (tq 5) (nq 0))])
 (.cond (tq 6)
 (.seq (.reg [fq 7 1 1, lq 8 7, oq 9 (.bin 0 .eql (tq 8) (nq 0)), mq 10 9, gq 11 10 (.fa 2 (tq 1)), gq 12 10 (.ldo (tq 11)), gq 13 10 (.bin 0 .eql (tq 12) (nq 0)), oq 14 (.pick (tq 10) (tq 13) ff), mq 15 14, gq 16 15 (.fa 3 (tq 1)), gq 17 15 (.ldo (tq 16)), gq 18 15 (.bin 0 .eql (tq 17) (.const (.string ⟨#[]⟩))), oq 19 (.pick (tq 15) (tq 18) ff), mq 20 19, gq 21 20 (.fa 4 (tq 1)), gq 22 20 (.ldo (tq 21)), gq 23 20 (.lnS (tq 22)), gq 24 20 (.bin 0 .eql (tq 23) (nq 0)), oq 25 (.pick (tq 20) (tq 24) ff), mq 26 25, gq 27 26 (.fa 5 (tq 1)), gq 28 26 (.ldo (tq 27)), gq 29 26 (.bin 0 .eql (tq 28) (nq 0)), oq 30 (.pick (tq 26) (tq 29) ff), mq 2 30])
 .ret)
 .skip))
 (.seq (.seq (.reg [fq 31 1 1, lq 32 31, oq 33 (.bin 0 .lss (tq 32) (nq 0)), mq 34 33, hq 35 34 (.fa 1 (tq 1)), hq 36 34 (.ldo (tq 35)), hq 37 34 (.bin 0 .gtr (tq 36) (nq 7)), oq 38 (.pick (tq 34) tt (tq 37))])
 (.cond (tq 38)
 (.seq (.reg [oq 2 (.mv ff)])
 .ret)
 .skip))
 (.seq (.seq (.reg [fq 39 0 1, lq 40 39])
 (.block 0
 (.seq (.reg [oq 42 (.bin 0 .eql (tq 40) (nq 1)), mq 41 42])
 (.cond (tq 41)
 (.seq (.reg [fq 43 4 1, lq 44 43, oq 45 (.lnS (tq 44)), oq 46 (.bin 0 .eql (tq 45) (nq 0)), mq 47 46, gq 48 47 (.fa 5 (tq 1)), gq 49 47 (.ldo (tq 48)), gq 50 47 (.bin 0 .eql (tq 49) (nq 0)), oq 51 (.pick (tq 47) (tq 50) ff), mq 2 51])
 .ret)
 (.seq (.reg [oq 53 (.bin 0 .eql (tq 40) (nq 3)), mq 52 53])
 (.cond (tq 52)
 (.seq (.seq (.reg [kq 3 0])
 (.block 1
 (.loop
 (.seq (.seq (.reg [mq 54 3, fq 55 3 1, lq 56 55, oq 57 (.lnT (tq 56)), oq 58 (.bin 0 .lss (tq 54) (tq 57))])
 (.cond (tq 58)
 .skip
 (.exit 1)))
 (.seq (.block 2
 (.seq (.reg [fq 61 3 1, lq 62 61, mq 63 3, oq 64 (.ixT (tq 62) (tq 63)), oq 65 (.bin 0 .eql (tq 64) (.const (.int .u8 0)))])
 (.cond (tq 65)
 (.seq (.reg [oq 2 (.mv ff)])
 .ret)
 .skip)))
 (.reg [mq 59 3, oq 60 (.bin 0 .add (tq 59) (nq 1)), mq 3 60]))))))
 (.seq (.reg [fq 66 4 1, lq 67 66, oq 68 (.lnS (tq 67)), oq 69 (.bin 0 .eql (tq 68) (nq 0)), mq 70 69, gq 71 70 (.fa 5 (tq 1)), gq 72 70 (.ldo (tq 71)), gq 73 70 (.bin 0 .eql (tq 72) (nq 0)), oq 74 (.pick (tq 70) (tq 73) ff), mq 75 74, gq 76 75 (.fa 3 (tq 1)), gq 77 75 (.ldo (tq 76)), gq 78 75 (.bin 0 .neq (tq 77) (.const (.string ⟨#[]⟩))), oq 79 (.pick (tq 75) (tq 78) ff), mq 80 79, gq 81 80 (.fa 3 (tq 1)), gq 82 80 (.ldo (tq 81)), gq 83 80 (.lnT (tq 82)), gq 84 80 (.bin 0 .leq (tq 83) (nq 1024)), oq 85 (.pick (tq 80) (tq 84) ff), mq 2 85])
 .ret))
 (.seq (.reg [oq 87 (.bin 0 .eql (tq 40) (nq 2)), mq 86 87])
 (.cond (tq 86)
 (.seq (.reg [fq 88 3 1, lq 89 88, oq 90 (.bin 0 .eql (tq 89) (.const (.string ⟨#[]⟩))), mq 2 90])
 .ret)
 .skip))))))))
 (.seq (.reg [oq 2 (.mv ff)])
 .ret)))))) := by kernel_rfl
theorem b25 : bodyM Tryz.prog [] 25 = some (14, [(.tmp 4)],
 (.seq (.reg [bq 2 24 0, oq 4 (.mv ff)])
 (.seq (.reg [mq 5 1, oq 6 (.bin 0 .geq (tq 5) (nq 0)), mq 7 6, gq 8 7 (.mv (tq 1)), gq 9 7 (.fa 0 (tq 2)), gq 10 7 (.ldo (tq 9)), gq 11 7 (.lnS (tq 10)), gq 12 7 (.bin 0 .lss (tq 8) (tq 11)), oq 13 (.pick (tq 7) (tq 12) ff), mq 4 13])
 .ret))) := by kernel_rfl
theorem b26 : bodyM Tryz.prog [7] 26 = some (98, [(.tmp 6)],
 (.seq (.reg [bq 3 24 0, oq 6 (.mv ff)])
 (.seq (.reg [fq 10 0 3, lq 11 10, mq 12 1, iq 13 6 11 12, fq 14 4 13, lq 15 14, mq 7 15])
 (.seq (.seq (.reg [kq 8 0])
 (.block 0
 (.loop
 (.seq (.seq (.reg [mq 16 8, mq 17 7, oq 18 (.lnS (tq 17)), oq 19 (.bin 0 .lss (tq 16) (tq 18))])
 (.cond (tq 19)
 .skip
 (.exit 0)))
 (.seq (.block 1
 (.seq (.seq (.reg [mq 22 7, mq 23 8, iq 24 2 22 23, fq 25 0 24, lq 26 25, cq 27 50 [(tq 26)], oq 28 (.un .not (tq 27)), mq 29 28, hq 30 29 (.mv (tq 8)), hq 31 29 (.bin 0 .gtr (tq 30) (nq 0)), hq 32 29 (.mv (tq 31)), gq 33 32 (.mv (tq 7)), gq 34 32 (.mv (tq 8)), gq 35 32 (.bin 0 .sub (tq 34) (nq 1)), gq 36 32 (.ias 2 (tq 33) (tq 35)), gq 37 32 (.fa 0 (tq 36)), gq 38 32 (.ldo (tq 37)), gq 39 32 (.mv (tq 7)), gq 40 32 (.mv (tq 8)), gq 41 32 (.ias 2 (tq 39) (tq 40)), gq 42 32 (.fa 0 (tq 41)), gq 43 32 (.ldo (tq 42)), gq 44 32 (.bin 0 .geq (tq 38) (tq 43)), hq 45 29 (.pick (tq 32) (tq 44) ff), oq 46 (.pick (tq 29) tt (tq 45)), mq 47 46, hq 48 47 (.lda 3 (tq 3)), hq 49 47 (.mv (tq 7)), hq 50 47 (.mv (tq 8)), hq 51 47 (.ias 2 (tq 49) (tq 50)), hq 52 47 (.fa 1 (tq 51)), hq 53 47 (.ldo (tq 52)), ⟨(some 54), (.call (.func 25) [(tq 48), (tq 53)]), (some (47, false))⟩, hq 55 47 (.un .not (tq 54)), oq 56 (.pick (tq 47) tt (tq 55))])
 (.cond (tq 56)
 (.seq (.reg [oq 6 (.mv ff)])
 .ret)
 .skip))
 (.seq (.regX 7 (opsAt (cOf Tryz.prog 26) [1, 1, 0, 1, 0, 0, 1, 0, 0, 1, 0]))
 (.seq (.seq (.reg [fq 66 0 9, lq 67 66, oq 68 (.bin 0 .eql (tq 67) (nq 0)), mq 69 68, hq 70 69 (.fa 0 (tq 9)), hq 71 69 (.ldo (tq 70)), hq 72 69 (.bin 0 .eql (tq 71) (nq 2)), hq 73 69 (.mv (tq 72)), gq 74 73 (.mv (tq 7)), gq 75 73 (.mv (tq 8)), gq 76 73 (.ias 2 (tq 74) (tq 75)), gq 77 73 (.fa 1 (tq 76)), gq 78 73 (.ldo (tq 77)), gq 79 73 (.bin 0 .eql (tq 78) (nq 0)), gq 80 73 (.mv (tq 79)), hq 81 80 (.fa 5 (tq 9)), hq 82 80 (.ldo (tq 81)), hq 83 80 (.mv (tq 1)), hq 84 80 (.bin 0 .neq (tq 82) (tq 83)), gq 85 73 (.pick (tq 80) tt (tq 84)), hq 86 69 (.pick (tq 73) (tq 85) ff), oq 87 (.pick (tq 69) tt (tq 86))])
 (.cond (tq 87)
 (.seq (.reg [oq 6 (.mv ff)])
 .ret)
 .skip))
 (.reg [mq 88 2, mq 89 7, mq 90 8, iq 91 2 89 90, fq 92 1 91, lq 93 92, iq 94 1 88 93, lq 95 94, oq 96 (.bin 0 .add (tq 95) (nq 1)), iq 97 1 88 93, sq 1 97 96])))))
 (.reg [mq 20 8, oq 21 (.bin 0 .add (tq 20) (nq 1)), mq 8 21]))))))
 (.seq (.reg [oq 6 (.mv tt)])
 .ret))))) := by kernel_rfl
theorem b27 : bodyM Tryz.prog [] 27 = some (34, [(.tmp 4)],
 (.seq (.reg [bq 2 24 0, oq 4 (.mv ff)])
 (.seq (.seq (.reg [kq 5 0])
 (.block 0
 (.loop
 (.seq (.seq (.reg [mq 6 5, fq 7 0 2, lq 8 7, oq 9 (.lnS (tq 8)), oq 10 (.bin 0 .leq (tq 6) (tq 9))])
 (.cond (tq 10)
 .skip
 (.exit 0)))
 (.seq (.block 1
 (.seq (.seq (.reg [mq 13 1, oq 14 (.bin 0 .eql (tq 13) (nq 0))])
 (.cond (tq 14)
 (.seq (.reg [oq 4 (.mv tt)])
 .ret)
 .skip))
 (.seq (.reg [fq 15 0 2, lq 16 15, mq 17 1, iq 18 6 16 17, fq 19 5 18, lq 20 19, mq 1 20])
 (.seq (.reg [dq 21 3 2, mq 22 1, cq 23 25 [(tq 21), (tq 22)], oq 24 (.un .not (tq 23)), mq 25 24, hq 26 25 (.fa 0 (tq 2)), hq 27 25 (.ldo (tq 26)), hq 28 25 (.mv (tq 1)), hq 29 25 (.ias 6 (tq 27) (tq 28)), hq 30 25 (.fa 0 (tq 29)), hq 31 25 (.ldo (tq 30)), hq 32 25 (.bin 0 .neq (tq 31) (nq 2)), oq 33 (.pick (tq 25) tt (tq 32))])
 (.cond (tq 33)
 (.seq (.reg [oq 4 (.mv ff)])
 .ret)
 .skip)))))
 (.reg [mq 11 5, oq 12 (.bin 0 .add (tq 11) (nq 1)), mq 5 12]))))))
 (.seq (.reg [oq 4 (.mv ff)])
 .ret)))) := by kernel_rfl
theorem b34 : bodyM Tryz.prog [] 34 = some (39, [(.tmp 4)],
 (.seq (.reg [oq 4 (.mv (.const (.string ⟨#[]⟩)))])
 (.seq (.block 0
 (.loop
 (.seq (.seq (.reg [mq 10 0, oq 11 (.lnT (tq 10)), oq 12 (.bin 0 .gtr (tq 11) (nq 0))])
 (.cond (tq 12)
 .skip
 (.exit 0)))
 (.block 1
 (.seq (.reg [mq 14 0, cq 15 53 [(tq 14)], mq 13 15, xq 16 13 0, xq 17 13 1, mq 5 16, mq 6 17])
 (.seq (.reg [oq 7 (.mv ff)])
 (.seq (.seq (.reg [mq 18 1, oq 19 (.rng (tq 18))])
 (.block 2
 (.loop
 (.seq (.reg [oq 20 (.nxt (tq 19)), xq 21 20 0])
 (.seq (.cond (tq 21)
 .skip
 (.exit 2))
 (.block 3
 (.seq (.reg [xq 22 20 2, mq 9 22])
 (.reg [mq 23 7, mq 24 23, hq 25 24 (.mv (tq 5)), hq 26 24 (.mv (tq 9)), hq 27 24 (.bin 0 .eql (tq 25) (tq 26)), oq 28 (.pick (tq 24) tt (tq 27)), mq 7 28]))))))))
 (.seq (.seq (.reg [mq 29 7, oq 30 (.un .not (tq 29))])
 (.cond (tq 30)
 (.seq (.reg [mq 31 0, mq 4 31])
 .ret)
 .skip))
 (.reg [mq 32 0, mq 33 0, oq 34 (.lnT (tq 33)), mq 35 6, oq 36 (.bin 0 .sub (tq 34) (tq 35)), oq 37 (.slT (tq 32) none (some (tq 36))), mq 0 37])))))))))
 (.seq (.reg [mq 38 0, mq 4 38])
 .ret)))) := by kernel_rfl
theorem b35 : bodyM Tryz.prog [] 35 = some (32, [(.tmp 4)],
 (.seq (.reg [oq 4 (.mv (.const (.string ⟨#[]⟩)))])
 (.seq (.seq (.reg [mq 10 0, oq 11 (.rng (tq 10))])
 (.block 0
 (.loop
 (.seq (.reg [oq 12 (.nxt (tq 11)), xq 13 12 0])
 (.seq (.cond (tq 13)
 .skip
 (.exit 0))
 (.block 1
 (.seq (.reg [xq 14 12 1, xq 15 12 2, mq 5 14, mq 6 15])
 (.seq (.reg [oq 7 (.mv ff)])
 (.seq (.seq (.reg [mq 16 1, oq 17 (.rng (tq 16))])
 (.block 2
 (.loop
 (.seq (.reg [oq 18 (.nxt (tq 17)), xq 19 18 0])
 (.seq (.cond (tq 19)
 .skip
 (.exit 2))
 (.block 3
 (.seq (.reg [xq 20 18 2, mq 9 20])
 (.reg [mq 21 7, mq 22 21, hq 23 22 (.mv (tq 6)), hq 24 22 (.mv (tq 9)), hq 25 22 (.bin 0 .eql (tq 23) (tq 24)), oq 26 (.pick (tq 22) tt (tq 25)), mq 7 26]))))))))
 (.seq (.reg [mq 27 7, oq 28 (.un .not (tq 27))])
 (.cond (tq 28)
 (.seq (.reg [mq 29 0, mq 30 5, oq 31 (.slT (tq 29) (some (tq 30)) none), mq 4 31])
 .ret)
 .skip)))))))))))
 (.seq (.reg [oq 4 (.mv (.const (.string ⟨#[]⟩)))])
 .ret)))) := by kernel_rfl
theorem b36 : bodyM Tryz.prog [] 36 = some (8, [(.tmp 4)],
 (.seq (.reg [kq 4 0])
 (.seq (.reg [mq 5 0, mq 6 1, cq 7 54 [(tq 5), (tq 6)], mq 4 7])
 .ret))) := by kernel_rfl
theorem b37 : bodyM Tryz.prog [] 37 = some (5, [(.tmp 2)],
 (.seq (.reg [oq 2 (.mv (.const (.slice none 0 0)))])
 (.seq (.reg [mq 3 0, cq 4 55 [(.const (.slice none 0 0)), (tq 3)], mq 2 4])
 .ret))) := by kernel_rfl
theorem b39 : bodyM Tryz.prog [] 39 = some (16, [],
 (.seq (.reg [lq 5 1, oq 6 (.lnS (tq 5)), kq 7 0])
 (.block 0
 (.loop
 (.seq (.reg [oq 8 (.bin 0 .lss (tq 7) (tq 6))])
 (.seq (.cond (tq 8)
 .skip
 (.exit 0))
 (.seq (.block 1
 (.seq (.reg [iq 9 1 5 7, lq 10 9, mq 4 10])
 (.seq (.reg [mq 11 0, mq 12 4, ⟨(some 13), (.call (tq 11) [(tq 12)]), none⟩, oq 14 (.un .not (tq 13))])
 (.cond (tq 14)
 .ret
 .skip))))
 (.reg [oq 15 (.bin 0 .add (tq 7) (nq 1)), mq 7 15])))))))) := by kernel_rfl
theorem b40 : bodyM Tryz.prog [] 40 = some (26, [(.tmp 4)],
 (.seq (.reg [oq 4 (.mv ff)])
 (.seq (.reg [mq 8 0, mq 9 1, cq 10 58 [(tq 8), (tq 9), tt], mq 7 10, xq 11 7 0, xq 12 7 1, mq 5 11, mq 6 12])
 (.seq (.reg [mq 13 6, mq 14 13, gq 15 14 (.mv (tq 0)), gq 16 14 (.nck (tq 15)), gq 17 14 (.fa 0 (tq 16)), gq 18 14 (.fa 0 (tq 17)), gq 19 14 (.ldo (tq 18)), gq 20 14 (.mv (tq 5)), gq 21 14 (.ias 6 (tq 19) (tq 20)), gq 22 14 (.fa 0 (tq 21)), gq 23 14 (.ldo (tq 22)), gq 24 14 (.bin 0 .eql (tq 23) (nq 2)), oq 25 (.pick (tq 14) (tq 24) ff), mq 4 25])
 .ret)))) := by kernel_rfl
theorem b41 : bodyM Tryz.prog [] 41 = some (67, [],
 (.block 0
 (.seq (.reg [mq 24 1, oq 25 (.bin 0 .eql (tq 24) (.const (.string ⟨#[99, 112]⟩))), mq 23 25])
 (.cond (tq 23)
 (.reg [mq 26 0, mq 27 2, mq 28 3, cq 29 59 [(tq 26), (tq 27), (tq 28)]])
 (.seq (.reg [mq 31 1, oq 32 (.bin 0 .eql (tq 31) (.const (.string ⟨#[109, 118]⟩))), mq 30 32])
 (.cond (tq 30)
 (.reg [mq 33 0, mq 34 0, oq 35 (.nck (tq 34)), fq 36 0 35, dq 37 3 36, mq 38 0, oq 39 (.nck (tq 38)), fq 40 3 39, lq 41 40, mq 42 2, mq 43 3, cq 44 60 [(tq 37), (tq 41), (tq 42), (tq 43)], xq 45 44 0, xq 46 44 1, cq 47 45 [(tq 33), (tq 45), (tq 46)]])
 (.seq (.reg [mq 49 0, cq 50 18 [(tq 49), (.const (.int .u8 115))], mq 48 50])
 (.cond (tq 48)
 (.reg [mq 51 0, mq 52 0, oq 53 (.nck (tq 52)), fq 54 0 53, dq 55 3 54, mq 56 0, oq 57 (.nck (tq 56)), fq 58 3 57, lq 59 58, mq 60 2, mq 61 3, cq 62 62 [(tq 55), (tq 59), (tq 60), (tq 61)], xq 63 62 0, xq 64 62 1, xq 65 62 2, cq 66 61 [(tq 51), (tq 63), (tq 64), (tq 65)]])
 (.reg [mq 8 0, mq 9 0, oq 10 (.nck (tq 9)), fq 11 0 10, dq 12 3 11, mq 13 0, oq 14 (.nck (tq 13)), fq 15 3 14, lq 16 15, mq 17 2, mq 18 3, cq 19 63 [(tq 12), (tq 16), (tq 17), (tq 18)], xq 20 19 0, xq 21 19 1, cq 22 45 [(tq 8), (tq 20), (tq 21)]]))))))))) := by kernel_rfl
theorem b42 : bodyM Tryz.prog [] 42 = some (22, [(.tmp 4)],
 (.seq (.reg [oq 4 (.mv (.const (.string ⟨#[]⟩)))])
 (.seq (.block 0
 (.seq (.reg [mq 6 0, oq 7 (.bin 0 .eql (tq 6) (.const (.string ⟨#[]⟩))), mq 8 7, hq 9 8 (.mv (tq 1)), ⟨(some 10), (.call (.func 64) [(tq 9)]), (some (8, false))⟩, oq 11 (.pick (tq 8) tt (tq 10)), mq 5 11])
 (.cond (tq 5)
 (.seq (.reg [mq 12 1, mq 4 12])
 .ret)
 (.seq (.reg [mq 14 1, oq 15 (.bin 0 .eql (tq 14) (.const (.string ⟨#[]⟩))), mq 13 15])
 (.cond (tq 13)
 (.seq (.reg [mq 16 0, mq 4 16])
 .ret)
 .skip)))))
 (.seq (.reg [mq 17 0, ⟨(some 18), (.call (.func 65) [(tq 17), (.const (.string ⟨#[47]⟩))]), none⟩, oq 19 (.bin 0 .add (tq 18) (.const (.string ⟨#[47]⟩))), mq 20 1, oq 21 (.bin 0 .add (tq 19) (tq 20)), mq 4 21])
 .ret)))) := by kernel_rfl
theorem b43 : bodyM Tryz.prog [] 43 = some (12, [(.tmp 2)],
 (.seq (.reg [oq 2 (.mv (.const (.string ⟨#[]⟩)))])
 (.seq (.reg [oq 3 (.alc 9 [(.str ⟨#[]⟩)]), vq (.sto 1 (tq 3) (.const (.string ⟨#[]⟩)))])
 (.seq (.seq (.reg [mq 5 0, cq 6 64 [(tq 5)]])
 (.cond (tq 6)
 (.reg [vq (.sto 1 (tq 3) (.const (.string ⟨#[47]⟩)))])
 .skip))
 (.seq (.seq (.reg [mq 7 0, cq 8 66 [(tq 7)]])
 (.block 0
 (.range (tq 8) #[9] (cAt (cOf Tryz.prog 43) [1, 1, 1, 0, 1, 0, 0]) (cAt (cOf Tryz.prog 43) [1, 1, 1, 0, 1, 0, 1]))))
 (.seq (.reg [lq 11 3, mq 2 11])
 .ret)))))) := by kernel_rfl
theorem b44 : bodyM Tryz.prog [2, 5] 44 = some (48, [],
 (.seq (.reg [bq 2 51 0])
 (.seq (.seq (.reg [lq 5 2, cq 6 18 [(tq 5), (.const (.int .u8 112))], oq 7 (.un .not (tq 6))])
 (.cond (tq 7)
 (.seq (.regX 2 (opsAt (cOf Tryz.prog 44) [1, 0, 1, 0, 0]))
 .ret)
 .skip))
 (.seq (.reg [mq 23 1, cq 24 68 [(tq 23)]])
 (.block 0
 (.range (tq 24) #[25] (cAt (cOf Tryz.prog 44) [1, 1, 1, 0, 0]) (cAt (cOf Tryz.prog 44) [1, 1, 1, 0, 1]))))))) := by kernel_rfl
theorem b45 : bodyM Tryz.prog [] 45 = some (16, [(.tmp 6)],
 (.seq (.reg [bq 4 24 1, oq 6 (.mv ff)])
 (.seq (.seq (.reg [mq 7 2, oq 8 (.bin 0 .neq (tq 7) (nq 0))])
 (.cond (tq 8)
 (.seq (.reg [mq 9 0, oq 10 (.nck (tq 9)), fq 11 7 10, vq (.sto 1 (tq 11) (nq 1))])
 (.seq (.reg [oq 6 (.mv ff)])
 .ret))
 .skip))
 (.seq (.reg [mq 12 0, dq 13 3 4, oq 14 (.nck (tq 12)), fq 15 0 14, sq 3 15 13])
 (.seq (.reg [oq 6 (.mv tt)])
 .ret))))) := by kernel_rfl
theorem b46 : bodyM Tryz.prog [3] 46 = some (53, [(.cell 6 24), (.tmp 7)],
 (.seq (.reg [bq 3 24 0, oq 6 (.alc 24 [.nils, (.int .i64 0), (.int .i64 0)]), kq 7 0])
 (.seq (.reg [dq 12 3 3, mq 13 1, mq 14 2, cq 15 69 [(tq 12), (tq 13), (tq 14)], mq 11 15, xq 16 11 0, xq 17 11 1, oq 8 (.alc 104 [(.int .i64 0), (.str ⟨#[]⟩), (.int .i64 0)]), sq 3 8 16, mq 9 17])
 (.seq (.seq (.reg [mq 18 9, oq 19 (.bin 0 .eql (tq 18) (nq 0))])
 (.cond (tq 19)
 (.regX 3 (opsAt (cOf Tryz.prog 46) [1, 1, 0, 1, 0]))
 .skip))
 (.seq (.seq (.reg [mq 43 9, oq 44 (.bin 0 .neq (tq 43) (nq 0))])
 (.cond (tq 44)
 (.seq (.reg [dq 45 3 3, mq 46 9, sq 3 6 45, mq 7 46])
 .ret)
 .skip))
 (.seq (.reg [dq 47 3 3, cq 48 73 [(tq 47)], oq 10 (.alc 24 [.nils, (.int .i64 0), (.int .i64 0)]), sq 3 10 48])
 (.seq (.reg [dq 49 3 10, dq 50 3 8, cq 51 74 [(tq 49), (tq 50)]])
 (.seq (.reg [dq 52 3 10, sq 3 6 52, kq 7 0])
 .ret)))))))) := by kernel_rfl
theorem b47 : bodyM Tryz.prog [8] 47 = some (84, [],
 (.seq (.reg [bq 2 51 0])
 (.seq (.reg [oq 9 (.fun_ 75 [(tq 2)]), mq 4 9])
 (.seq (.reg [lq 11 2, mq 12 1, cq 13 58 [(tq 11), (tq 12), ff], mq 10 13, xq 14 10 0, xq 15 10 1, mq 5 14, mq 6 15])
 (.seq (.seq (.reg [lq 16 2, cq 17 18 [(tq 16), (.const (.int .u8 114))], oq 18 (.un .not (tq 17)), mq 19 18, hq 20 19 (.mv (tq 6)), hq 21 19 (.un .not (tq 20)), oq 22 (.pick (tq 19) tt (tq 21)), mq 23 22, hq 24 23 (.ldo (tq 2)), hq 25 23 (.nck (tq 24)), hq 26 23 (.fa 0 (tq 25)), hq 27 23 (.fa 0 (tq 26)), hq 28 23 (.ldo (tq 27)), hq 29 23 (.mv (tq 5)), hq 30 23 (.ias 6 (tq 28) (tq 29)), hq 31 23 (.fa 0 (tq 30)), hq 32 23 (.ldo (tq 31)), hq 33 23 (.bin 0 .neq (tq 32) (nq 2)), oq 34 (.pick (tq 23) tt (tq 33))])
 (.cond (tq 34)
 (.seq (.reg [mq 35 4, lq 36 2, oq 37 (.nck (tq 36)), fq 38 0 37, dq 39 3 38, lq 40 2, oq 41 (.nck (tq 40)), fq 42 3 41, lq 43 42, mq 44 1, cq 45 76 [(tq 39), (tq 43), (tq 44)], xq 46 45 0, xq 47 45 1, ⟨(some 48), (.call (tq 35) [(tq 46), (tq 47)]), none⟩])
 .ret)
 .skip))
 (.seq (.seq (.reg [lq 49 2, oq 50 (.nck (tq 49)), fq 51 0 50, fq 52 0 51, lq 53 52, mq 54 5, iq 55 6 53 54, fq 56 4 55, lq 57 56, oq 58 (.lnS (tq 57)), kq 59 0])
 (.block 0
 (.loop
 (.seq (.reg [oq 60 (.bin 0 .lss (tq 59) (tq 58))])
 (.seq (.cond (tq 60)
 .skip
 (.exit 0))
 (.seq (.block 1
 (.seq (.reg [iq 61 2 57 59, dq 62 2 61, oq 8 (.alc 71 [(.str ⟨#[]⟩), (.int .i64 0)]), sq 2 8 62])
 (.regX 8 (opsAt (cOf Tryz.prog 47) [1, 1, 1, 1, 0, 1, 0, 0, 1, 1, 0, 0, 1]))))
 (.reg [oq 69 (.bin 0 .add (tq 59) (nq 1)), mq 59 69])))))))
 (.reg [mq 70 4, lq 71 2, oq 72 (.nck (tq 71)), fq 73 0 72, dq 74 3 73, lq 75 2, oq 76 (.nck (tq 75)), fq 77 3 76, lq 78 77, mq 79 1, cq 80 46 [(tq 74), (tq 78), (tq 79)], xq 81 80 0, xq 82 80 1, ⟨(some 83), (.call (tq 70) [(tq 81), (tq 82)]), none⟩]))))))) := by kernel_rfl
theorem b48 : bodyM Tryz.prog [] 48 = some (29, [],
 (.seq (.reg [mq 7 0, mq 8 1, cq 9 58 [(tq 7), (tq 8), tt], mq 6 9, xq 10 6 0, xq 11 6 1, mq 4 10, mq 5 11])
 (.seq (.reg [mq 12 5, oq 13 (.un .not (tq 12))])
 (.cond (tq 13)
 (.reg [mq 14 0, mq 15 0, oq 16 (.nck (tq 15)), fq 17 0 16, dq 18 3 17, mq 19 0, oq 20 (.nck (tq 19)), fq 21 3 20, lq 22 21, mq 23 1, cq 24 77 [(tq 18), (tq 22), (tq 23), (nq 6)], xq 25 24 0, xq 26 24 1, xq 27 24 2, cq 28 61 [(tq 14), (tq 25), (tq 26), (tq 27)]])
 .skip)))) := by kernel_rfl
theorem b49 : bodyM Tryz.prog [] 49 = some (83, [],
 (.seq (.reg [mq 12 0, mq 13 1, cq 14 58 [(tq 12), (tq 13), tt], mq 11 14, xq 15 11 0, xq 16 11 1, mq 6 15, mq 7 16])
 (.seq (.block 0
 (.seq (.reg [mq 18 7, oq 19 (.un .not (tq 18)), mq 17 19])
 (.cond (tq 17)
 (.seq (.reg [mq 20 0, oq 21 (.nck (tq 20)), fq 22 7 21, vq (.sto 1 (tq 22) (nq 1))])
 .ret)
 (.seq (.reg [mq 24 0, oq 25 (.nck (tq 24)), fq 26 0 25, fq 27 0 26, lq 28 27, mq 29 6, iq 30 6 28 29, fq 31 0 30, lq 32 31, oq 33 (.bin 0 .neq (tq 32) (nq 2)), mq 23 33])
 (.cond (tq 23)
 (.seq (.reg [mq 34 0, mq 35 1, cq 36 78 [(tq 34), (tq 35)]])
 .ret)
 .skip)))))
 (.seq (.seq (.reg [mq 37 2])
 (.cond (tq 37)
 (.reg [mq 38 0, mq 39 1, oq 40 (.bin 0 .add (tq 39) (.const (.string ⟨#[58]⟩))), cq 41 78 [(tq 38), (tq 40)]])
 .skip))
 (.seq (.seq (.reg [mq 42 0, oq 43 (.nck (tq 42)), fq 44 0 43, dq 45 3 44, mq 46 6, cq 47 79 [(tq 45), (tq 46), (nq 4)], oq 48 (.un .not (tq 47))])
 (.cond (tq 48)
 (.seq (.reg [mq 49 0, oq 50 (.nck (tq 49)), fq 51 7 50, vq (.sto 1 (tq 51) (nq 1))])
 .ret)
 .skip))
 (.seq (.reg [mq 52 0, cq 53 18 [(tq 52), (.const (.int .u8 97))], mq 8 53])
 (.seq (.seq (.reg [mq 54 8])
 (.cond (tq 54)
 (.reg [mq 55 0, ⟨(some 56), (.call (.func 78) [(tq 55), (.const (.string ⟨#[46, 10, 46, 46]⟩))]), none⟩])
 .skip))
 (.seq (.reg [mq 57 0, oq 58 (.nck (tq 57)), fq 59 0 58, fq 60 0 59, lq 61 60, mq 62 6, iq 63 6 61 62, fq 64 4 63, lq 65 64, oq 66 (.lnS (tq 65)), kq 67 0])
 (.block 1
 (.loop
 (.seq (.reg [oq 68 (.bin 0 .lss (tq 67) (tq 66))])
 (.seq (.cond (tq 68)
 .skip
 (.exit 1))
 (.seq (.block 2
 (.seq (.reg [iq 69 2 65 67, dq 70 2 69, oq 10 (.alc 71 [(.str ⟨#[]⟩), (.int .i64 0)]), sq 2 10 70])
 (.seq (.reg [mq 71 8, mq 72 71, hq 73 72 (.fa 0 (tq 10)), hq 74 72 (.ldo (tq 73)), hq 75 72 (.ixT (tq 74) (nq 0)), hq 76 72 (.bin 0 .neq (tq 75) (.const (.int .u8 46))), oq 77 (.pick (tq 72) tt (tq 76))])
 (.cond (tq 77)
 (.reg [mq 78 0, fq 79 0 10, lq 80 79, cq 81 78 [(tq 78), (tq 80)]])
 .skip))))
 (.reg [oq 82 (.bin 0 .add (tq 67) (nq 1)), mq 67 82])))))))))))))) := by kernel_rfl
theorem b50 : bodyM Tryz.prog [] 50 = some (35, [(.tmp 2)],
 (.seq (.reg [oq 2 (.mv ff)])
 (.seq (.seq (.reg [kq 3 0])
 (.block 0
 (.loop
 (.seq (.seq (.reg [mq 4 3, mq 5 0, oq 6 (.lnT (tq 5)), oq 7 (.bin 0 .lss (tq 4) (tq 6))])
 (.cond (tq 7)
 .skip
 (.exit 0)))
 (.seq (.block 1
 (.seq (.reg [mq 10 0, mq 11 3, oq 12 (.ixT (tq 10) (tq 11)), oq 13 (.bin 0 .eql (tq 12) (.const (.int .u8 47))), mq 14 13, hq 15 14 (.mv (tq 0)), hq 16 14 (.mv (tq 3)), hq 17 14 (.ixT (tq 15) (tq 16)), hq 18 14 (.bin 0 .eql (tq 17) (.const (.int .u8 0))), oq 19 (.pick (tq 14) tt (tq 18))])
 (.cond (tq 19)
 (.seq (.reg [oq 2 (.mv ff)])
 .ret)
 .skip)))
 (.reg [mq 8 3, oq 9 (.bin 0 .add (tq 8) (nq 1)), mq 3 9]))))))
 (.seq (.reg [mq 20 0, oq 21 (.bin 0 .neq (tq 20) (.const (.string ⟨#[]⟩))), mq 22 21, gq 23 22 (.mv (tq 0)), gq 24 22 (.lnT (tq 23)), gq 25 22 (.bin 0 .leq (tq 24) (nq 64)), oq 26 (.pick (tq 22) (tq 25) ff), mq 27 26, gq 28 27 (.mv (tq 0)), gq 29 27 (.bin 0 .neq (tq 28) (.const (.string ⟨#[46]⟩))), oq 30 (.pick (tq 27) (tq 29) ff), mq 31 30, gq 32 31 (.mv (tq 0)), gq 33 31 (.bin 0 .neq (tq 32) (.const (.string ⟨#[46, 46]⟩))), oq 34 (.pick (tq 31) (tq 33) ff), mq 2 34])
 .ret)))) := by kernel_rfl
theorem b53 : bodyM Tryz.prog [] 53 = some (51, [(.tmp 2), (.tmp 3)],
 (.seq (.reg [oq 2 (.mv (.const (.int .i32 0))), kq 3 0])
 (.seq (.reg [mq 7 0, oq 8 (.lnT (tq 7)), mq 4 8])
 (.seq (.seq (.reg [mq 9 4, oq 10 (.bin 0 .eql (tq 9) (nq 0))])
 (.cond (tq 10)
 (.seq (.reg [oq 2 (.mv (.const (.int .i32 65533))), kq 3 0])
 .ret)
 .skip))
 (.seq (.reg [mq 11 4, oq 12 (.bin 0 .sub (tq 11) (nq 1)), mq 5 12])
 (.seq (.reg [mq 13 0, mq 14 5, oq 15 (.ixT (tq 13) (tq 14)), oq 16 (.cvI .i32 (tq 15)), mq 2 16])
 (.seq (.seq (.reg [mq 17 2, oq 18 (.bin 0 .lss (tq 17) (.const (.int .i32 128)))])
 (.cond (tq 18)
 (.seq (.reg [mq 19 2, mq 2 19, kq 3 1])
 .ret)
 .skip))
 (.seq (.reg [mq 20 4, oq 21 (.bin 0 .sub (tq 20) (nq 4)), oq 22 (.blt .max [3, 3] [(tq 21), (nq 0)]), mq 6 22])
 (.seq (.seq (.reg [mq 23 5, oq 24 (.bin 0 .sub (tq 23) (nq 1)), mq 5 24])
 (.block 0
 (.loop
 (.seq (.seq (.reg [mq 25 5, mq 26 6, oq 27 (.bin 0 .geq (tq 25) (tq 26))])
 (.cond (tq 27)
 .skip
 (.exit 0)))
 (.seq (.block 1
 (.seq (.reg [mq 30 0, mq 31 5, oq 32 (.ixT (tq 30) (tq 31)), cq 33 82 [(tq 32)]])
 (.cond (tq 33)
 (.exit 0)
 .skip)))
 (.reg [mq 28 5, oq 29 (.bin 0 .sub (tq 28) (nq 1)), mq 5 29]))))))
 (.seq (.seq (.reg [mq 34 5, oq 35 (.bin 0 .lss (tq 34) (nq 0))])
 (.cond (tq 35)
 (.reg [kq 5 0])
 .skip))
 (.seq (.reg [mq 37 0, mq 38 5, mq 39 4, oq 40 (.slT (tq 37) (some (tq 38)) (some (tq 39))), cq 41 83 [(tq 40)], mq 36 41, xq 42 36 0, xq 43 36 1, mq 2 42, mq 3 43])
 (.seq (.seq (.reg [mq 44 5, mq 45 3, oq 46 (.bin 0 .add (tq 44) (tq 45)), mq 47 4, oq 48 (.bin 0 .neq (tq 46) (tq 47))])
 (.cond (tq 48)
 (.seq (.reg [oq 2 (.mv (.const (.int .i32 65533))), kq 3 1])
 .ret)
 .skip))
 (.seq (.reg [mq 49 2, mq 50 3, mq 2 49, mq 3 50])
 .ret))))))))))))) := by kernel_rfl
theorem b54 : bodyM Tryz.prog [] 54 = some (8, [(.tmp 4)],
 (.seq (.reg [kq 4 0])
 (.seq (.reg [mq 5 0, mq 6 1, cq 7 84 [(tq 5), (tq 6)], mq 4 7])
 .ret))) := by kernel_rfl
theorem b55 : bodyM Tryz.prog [] 55 = some (13, [(.tmp 4)],
 (.seq (.reg [bq 2 25 0, oq 4 (.mv (.const (.slice none 0 0)))])
 (.seq (.seq (.reg [mq 6 1])
 (.block 0
 (.range (tq 6) #[7] (cAt (cOf Tryz.prog 55) [1, 0, 1, 0, 0]) (cAt (cOf Tryz.prog 55) [1, 0, 1, 0, 1]))))
 (.seq (.reg [lq 12 2, mq 4 12])
 .ret)))) := by kernel_rfl
theorem b58 : bodyM Tryz.prog [] 58 = some (27, [(.tmp 6), (.tmp 7)],
 (.seq (.reg [kq 6 0, oq 7 (.mv ff)])
 (.seq (.reg [mq 11 0, oq 12 (.nck (tq 11)), fq 13 0 12, dq 14 3 13, mq 15 0, oq 16 (.nck (tq 15)), fq 17 3 16, lq 18 17, mq 19 1, mq 20 2, cq 21 96 [(tq 14), (tq 18), (tq 19), (tq 20)], mq 10 21, xq 22 10 0, xq 23 10 1, mq 8 22, mq 9 23])
 (.seq (.reg [mq 24 8, mq 25 9, oq 26 (.bin 0 .eql (tq 25) (nq 0)), mq 6 24, mq 7 26])
 .ret)))) := by kernel_rfl
theorem b59 : bodyM Tryz.prog [8] 59 = some (135, [],
 (.seq (.reg [mq 14 0, mq 15 1, cq 16 58 [(tq 14), (tq 15), tt], mq 13 16, xq 17 13 0, xq 18 13 1, mq 6 17, mq 7 18])
 (.seq (.seq (.reg [mq 19 7, oq 20 (.un .not (tq 19)), mq 21 20, hq 22 21 (.mv (tq 0)), hq 23 21 (.nck (tq 22)), hq 24 21 (.fa 0 (tq 23)), hq 25 21 (.fa 0 (tq 24)), hq 26 21 (.ldo (tq 25)), hq 27 21 (.mv (tq 6)), hq 28 21 (.ias 6 (tq 26) (tq 27)), hq 29 21 (.fa 0 (tq 28)), hq 30 21 (.ldo (tq 29)), hq 31 21 (.bin 0 .neq (tq 30) (nq 1)), oq 32 (.pick (tq 21) tt (tq 31)), mq 33 32, hq 34 33 (.mv (tq 0)), hq 35 33 (.nck (tq 34)), hq 36 33 (.fa 0 (tq 35)), hq 37 33 (.lda 3 (tq 36)), hq 38 33 (.mv (tq 6)), ⟨(some 39), (.call (.func 79) [(tq 37), (tq 38), (nq 4)]), (some (33, false))⟩, hq 40 33 (.un .not (tq 39)), oq 41 (.pick (tq 33) tt (tq 40))])
 (.cond (tq 41)
 (.seq (.reg [mq 42 0, oq 43 (.nck (tq 42)), fq 44 7 43, vq (.sto 1 (tq 44) (nq 1))])
 .ret)
 .skip))
 (.seq (.reg [mq 45 0, oq 46 (.nck (tq 45)), fq 47 0 46, fq 48 0 47, lq 49 48, mq 50 6, iq 51 6 49 50, dq 52 6 51, oq 8 (.alc 38 [(.int .i64 0), (.int .i64 0), (.int .i64 0), (.str ⟨#[]⟩), .nils, (.int .i64 0)]), sq 6 8 52])
 (.seq (.reg [mq 54 0, mq 55 2, cq 56 58 [(tq 54), (tq 55), tt], mq 53 56, xq 57 53 0, xq 58 53 1, mq 9 57, mq 7 58])
 (.seq (.seq (.reg [mq 59 7, mq 60 59, gq 61 60 (.mv (tq 0)), gq 62 60 (.nck (tq 61)), gq 63 60 (.fa 0 (tq 62)), gq 64 60 (.fa 0 (tq 63)), gq 65 60 (.ldo (tq 64)), gq 66 60 (.mv (tq 9)), gq 67 60 (.ias 6 (tq 65) (tq 66)), gq 68 60 (.fa 0 (tq 67)), gq 69 60 (.ldo (tq 68)), gq 70 60 (.bin 0 .neq (tq 69) (nq 1)), gq 71 60 (.mv (tq 70)), hq 72 71 (.mv (tq 9)), hq 73 71 (.mv (tq 6)), hq 74 71 (.bin 0 .eql (tq 72) (tq 73)), gq 75 60 (.pick (tq 71) tt (tq 74)), gq 76 60 (.mv (tq 75)), hq 77 76 (.mv (tq 0)), hq 78 76 (.nck (tq 77)), hq 79 76 (.fa 0 (tq 78)), hq 80 76 (.lda 3 (tq 79)), hq 81 76 (.mv (tq 9)), ⟨(some 82), (.call (.func 79) [(tq 80), (tq 81), (nq 2)]), (some (76, false))⟩, hq 83 76 (.un .not (tq 82)), gq 84 60 (.pick (tq 76) tt (tq 83)), oq 85 (.pick (tq 60) (tq 84) ff)])
 (.cond (tq 85)
 (.seq (.reg [mq 86 0, oq 87 (.nck (tq 86)), fq 88 7 87, vq (.sto 1 (tq 88) (nq 1))])
 .ret)
 .skip))
 (.seq (.seq (.reg [mq 89 7, oq 90 (.un .not (tq 89))])
 (.cond (tq 90)
 (.seq (.regX 8 (opsAt (cOf Tryz.prog 59) [1, 1, 1, 1, 1, 0, 1, 0, 0]))
 (.seq (.seq (.reg [mq 107 0, dq 108 3 10, mq 109 12, cq 110 45 [(tq 107), (tq 108), (tq 109)], oq 111 (.un .not (tq 110))])
 (.cond (tq 111)
 .ret
 .skip))
 (.reg [mq 112 11, mq 9 112])))
 .skip))
 (.seq (.reg [mq 113 0, mq 114 0, oq 115 (.nck (tq 114)), fq 116 0 115, dq 117 3 116, mq 118 9, cq 119 97 [(tq 117), (tq 118), (nq 0)], xq 120 119 0, xq 121 119 1, cq 122 45 [(tq 113), (tq 120), (tq 121)]])
 (.cond (tq 122)
 (.reg [mq 123 0, mq 124 0, oq 125 (.nck (tq 124)), fq 126 0 125, dq 127 3 126, mq 128 9, fq 129 3 8, lq 130 129, cq 131 98 [(tq 127), (tq 128), (nq 0), (tq 130)], xq 132 131 0, xq 133 131 1, cq 134 45 [(tq 123), (tq 132), (tq 133)]])
 .skip))))))))) := by kernel_rfl
end Go.Mm
end
section
set_option maxRecDepth 100000
namespace Go.Mm
open Go.Proofs
theorem b61 : bodyM Tryz.prog [] 61 = some (13, [(.tmp 8)],
 (.seq (.reg [bq 5 24 1, oq 8 (.mv ff)])
 (.seq (.reg [mq 9 0, dq 10 3 5, mq 11 3, cq 12 45 [(tq 9), (tq 10), (tq 11)], mq 8 12])
 .ret))) := by kernel_rfl
theorem b62 : bodyM Tryz.prog [] 62 = some (35, [(.cell 8 24), (.tmp 9), (.tmp 10)],
 (.seq (.reg [bq 4 24 0, bq 6 9 2, oq 8 (.alc 24 [.nils, (.int .i64 0), (.int .i64 0)]), kq 9 0, kq 10 0])
 (.seq (.block 0
 (.seq (.reg [lq 12 6, oq 13 (.bin 0 .eql (tq 12) (.const (.string ⟨#[]⟩))), mq 14 13, hq 15 14 (.ldo (tq 6)), ⟨(some 16), (.call (.func 36) [(tq 15), (.const (.int .u8 0))]), (some (14, false))⟩, hq 17 14 (.bin 0 .geq (tq 16) (nq 0)), oq 18 (.pick (tq 14) tt (tq 17)), mq 11 18])
 (.cond (tq 11)
 (.seq (.reg [dq 19 3 4, sq 3 8 19, kq 9 0, kq 10 22])
 .ret)
 (.seq (.reg [lq 21 6, oq 22 (.lnT (tq 21)), oq 23 (.bin 0 .gtr (tq 22) (nq 1024)), mq 20 23])
 (.cond (tq 20)
 (.seq (.reg [dq 24 3 4, sq 3 8 24, kq 9 0, kq 10 36])
 .ret)
 .skip)))))
 (.seq (.reg [dq 25 3 4, mq 26 1, mq 27 3, lq 28 6, oq 29 (.lnT (tq 28)), oq 30 (.fun_ 112 [(tq 6)]), cq 31 111 [(tq 25), (tq 26), (tq 27), ff, (tq 29), (tq 30)], xq 32 31 0, xq 33 31 1, xq 34 31 2, sq 3 8 32, mq 9 33, mq 10 34])
 .ret)))) := by kernel_rfl
theorem b63 : bodyM Tryz.prog [] 63 = some (67, [(.cell 8 24), (.tmp 9)],
 (.seq (.reg [bq 4 24 0, oq 8 (.alc 24 [.nils, (.int .i64 0), (.int .i64 0)]), kq 9 0])
 (.seq (.reg [dq 16 3 4, mq 17 1, mq 18 2, cq 19 96 [(tq 16), (tq 17), (tq 18), ff], mq 15 19, xq 20 15 0, xq 21 15 1, mq 10 20, mq 11 21])
 (.seq (.block 0
 (.seq (.reg [mq 23 11, oq 24 (.bin 0 .neq (tq 23) (nq 0)), mq 22 24])
 (.cond (tq 22)
 (.seq (.reg [dq 25 3 4, mq 26 11, sq 3 8 25, mq 9 26])
 .ret)
 (.seq (.reg [fq 28 0 4, lq 29 28, mq 30 10, iq 31 6 29 30, fq 32 0 31, lq 33 32, oq 34 (.bin 0 .eql (tq 33) (nq 2)), mq 27 34])
 (.cond (tq 27)
 (.seq (.reg [dq 35 3 4, sq 3 8 35, kq 9 1])
 .ret)
 .skip)))))
 (.seq (.reg [dq 37 3 4, mq 38 1, mq 39 3, cq 40 113 [(tq 37), (tq 38), (tq 39), ff], mq 36 40, xq 41 36 0, xq 42 36 1, xq 43 36 2, mq 12 41, mq 13 42, mq 11 43])
 (.seq (.block 1
 (.seq (.reg [mq 45 11, oq 46 (.bin 0 .neq (tq 45) (nq 0)), mq 44 46])
 (.cond (tq 44)
 (.seq (.reg [dq 47 3 4, mq 48 11, sq 3 8 47, mq 9 48])
 .ret)
 (.seq (.reg [fq 50 0 4, lq 51 50, mq 52 12, iq 53 6 51 52, fq 54 4 53, lq 55 54, oq 56 (.lnS (tq 55)), oq 57 (.bin 0 .geq (tq 56) (nq 1024)), mq 49 57])
 (.cond (tq 49)
 (.seq (.reg [dq 58 3 4, sq 3 8 58, kq 9 28])
 .ret)
 .skip)))))
 (.seq (.reg [dq 59 3 4, cq 60 114 [(tq 59)], oq 14 (.alc 24 [.nils, (.int .i64 0), (.int .i64 0)]), sq 3 14 60])
 (.seq (.reg [dq 61 3 14, mq 62 12, mq 63 13, mq 64 10, cq 65 115 [(tq 61), (tq 62), (tq 63), (tq 64)]])
 (.seq (.reg [dq 66 3 14, sq 3 8 66, kq 9 0])
 .ret))))))))) := by kernel_rfl
theorem b64 : bodyM Tryz.prog [] 64 = some (5, [(.tmp 2)],
 (.seq (.reg [oq 2 (.mv ff)])
 (.seq (.reg [mq 3 0, ⟨(some 4), (.call (.func 116) [(tq 3), (.const (.string ⟨#[47]⟩))]), none⟩, mq 2 4])
 .ret))) := by kernel_rfl
theorem b65 : bodyM Tryz.prog [] 65 = some (8, [(.tmp 4)],
 (.seq (.reg [oq 4 (.mv (.const (.string ⟨#[]⟩)))])
 (.seq (.reg [mq 5 0, mq 6 1, cq 7 117 [(tq 5), (tq 6)], mq 4 7])
 .ret))) := by kernel_rfl
theorem b66 : bodyM Tryz.prog [] 66 = some (4, [(.tmp 2)],
 (.seq (.reg [bq 1 9 0, oq 2 (.mv (.const .nilFunc))])
 (.seq (.reg [oq 3 (.fun_ 118 [(tq 1)]), mq 2 3])
 .ret))) := by kernel_rfl
theorem b67 : bodyM Tryz.prog [] 67 = some (22, [(.cell 8 24), (.tmp 9), (.tmp 10)],
 (.seq (.reg [bq 4 24 0, bq 7 3 3, oq 8 (.alc 24 [.nils, (.int .i64 0), (.int .i64 0)]), kq 9 0, kq 10 0])
 (.seq (.seq (.reg [lq 11 7, cq 12 120 [(tq 11)]])
 (.cond (tq 12)
 (.seq (.reg [dq 13 3 4, sq 3 8 13, kq 9 0, kq 10 22])
 .ret)
 .skip))
 (.seq (.reg [dq 14 3 4, mq 15 1, mq 16 2, oq 17 (.fun_ 121 [(tq 7)]), cq 18 111 [(tq 14), (tq 15), (tq 16), tt, (nq 0), (tq 17)], xq 19 18 0, xq 20 18 1, xq 21 18 2, sq 3 8 19, mq 9 20, mq 10 21])
 .ret)))) := by kernel_rfl
theorem b68 : bodyM Tryz.prog [] 68 = some (4, [(.tmp 2)],
 (.seq (.reg [bq 1 9 0, oq 2 (.mv (.const .nilFunc))])
 (.seq (.reg [oq 3 (.fun_ 122 [(tq 1)]), mq 2 3])
 .ret))) := by kernel_rfl
theorem b69 : bodyM Tryz.prog [5] 69 = some (50, [(.cell 6 104), (.tmp 7)],
 (.seq (.reg [bq 3 24 0, oq 6 (.alc 104 [(.int .i64 0), (.str ⟨#[]⟩), (.int .i64 0)]), kq 7 0])
 (.seq (.reg [dq 13 3 3, mq 14 1, mq 15 2, cq 16 99 [(tq 13), (tq 14), (tq 15)], mq 12 16, xq 17 12 0, xq 18 12 1, xq 19 12 2, mq 8 17, mq 9 18, mq 10 19])
 (.seq (.seq (.reg [mq 20 10, oq 21 (.bin 0 .neq (tq 20) (nq 0))])
 (.cond (tq 21)
 (.seq (.reg [oq 22 (.bld [(.int .i64 0), (.str ⟨#[]⟩), (.int .i64 0)] []), mq 23 10, sq 3 6 22, mq 7 23])
 .ret)
 .skip))
 (.seq (.reg [dq 24 3 3, mq 25 8, mq 26 9, cq 27 104 [(tq 24), (tq 25), (tq 26)], mq 11 27])
 (.seq (.regX 5 (opsAt (cOf Tryz.prog 69) [1, 1, 1, 1, 0]))
 (.seq (.reg [mq 45 8, mq 46 9, mq 47 11, oq 48 (.bld [(.int .i64 0), (.str ⟨#[]⟩), (.int .i64 0)] [(0, (1, (tq 45))), (1, (1, (tq 46))), (2, (1, (tq 47)))]), mq 49 10, sq 3 6 48, mq 7 49])
 .ret))))))) := by kernel_rfl
theorem b70 : bodyM Tryz.prog [] 70 = some (18, [(.tmp 2)],
 (.seq (.reg [kq 2 0])
 (.seq (.seq (.reg [mq 6 0, oq 7 (.lnS (tq 6)), kq 8 0])
 (.block 0
 (.loop
 (.seq (.reg [oq 9 (.bin 0 .lss (tq 8) (tq 7))])
 (.seq (.cond (tq 9)
 .skip
 (.exit 0))
 (.seq (.block 1
 (.seq (.reg [iq 10 1 6 8, lq 11 10, mq 4 11])
 (.seq (.reg [mq 12 4, ⟨(some 13), (.call (tq 12) []), none⟩, mq 5 13])
 (.seq (.reg [mq 14 5, oq 15 (.bin 0 .neq (tq 14) (nq 0))])
 (.cond (tq 15)
 (.seq (.reg [mq 16 5, mq 2 16])
 .ret)
 .skip)))))
 (.reg [oq 17 (.bin 0 .add (tq 8) (nq 1)), mq 8 17])))))))
 (.seq (.reg [kq 2 0])
 .ret)))) := by kernel_rfl
theorem b71 : bodyM Tryz.prog [] 71 = some (6, [(.tmp 4)],
 (.seq (.reg [bq 2 83 0, bq 3 4 1, oq 4 (.mv (.const .nilFunc))])
 (.seq (.reg [oq 5 (.fun_ 124 [(tq 3), (tq 2)]), mq 4 5])
 .ret))) := by kernel_rfl
theorem b72 : bodyM Tryz.prog [] 72 = some (12, [(.tmp 4)],
 (.seq (.reg [bq 2 24 0, oq 4 (.mv ff)])
 (.seq (.reg [fq 5 0 2, lq 6 5, mq 7 1, iq 8 6 6 7, fq 9 0 8, lq 10 9, oq 11 (.bin 0 .eql (tq 10) (nq 2)), mq 4 11])
 .ret))) := by kernel_rfl
theorem b73 : bodyM Tryz.prog [] 73 = some (8, [(.cell 2 24)],
 (.seq (.reg [bq 1 24 0, oq 2 (.alc 24 [.nils, (.int .i64 0), (.int .i64 0)])])
 (.seq (.reg [fq 3 0 1, lq 4 3, cq 5 125 [(tq 4)], fq 6 0 1, sq 1 6 5])
 (.seq (.reg [dq 7 3 1, sq 3 2 7])
 .ret)))) := by kernel_rfl
theorem b74 : bodyM Tryz.prog [] 74 = some (31, [],
 (.seq (.reg [bq 2 24 0, bq 3 104 1])
 (.seq (.reg [dq 4 3 2, dq 5 3 3, cq 6 105 [(tq 4), (tq 5)]])
 (.seq (.reg [fq 7 0 2, lq 8 7, fq 9 2 3, lq 10 9, iq 11 6 8 10, fq 12 2 11, lq 13 12, oq 14 (.bin 0 .sub (tq 13) (nq 1)), iq 15 6 8 10, fq 16 2 15, sq 1 16 14])
 (.seq (.reg [fq 17 0 2, lq 18 17, fq 19 2 3, lq 20 19, iq 21 6 18 20, fq 22 2 21, lq 23 22, oq 24 (.bin 0 .eql (tq 23) (nq 0))])
 (.cond (tq 24)
 (.reg [fq 25 0 2, lq 26 25, fq 27 2 3, lq 28 27, oq 29 (.bld [(.int .i64 0), (.int .i64 0), (.int .i64 0), (.str ⟨#[]⟩), .nils, (.int .i64 0)] []), iq 30 6 26 28, sq 6 30 29])
 .skip)))))) := by kernel_rfl
theorem b75 : bodyM Tryz.prog [] 75 = some (16, [],
 (.seq (.reg [bq 3 24 0])
 (.seq (.reg [mq 5 1, oq 6 (.bin 0 .neq (tq 5) (nq 2)), mq 7 6, hq 8 7 (.ldo (tq 2)), ⟨(some 9), (.call (.func 18) [(tq 8), (.const (.int .u8 102))]), (some (7, false))⟩, hq 10 7 (.un .not (tq 9)), oq 11 (.pick (tq 7) tt (tq 10))])
 (.cond (tq 11)
 (.reg [lq 12 2, dq 13 3 3, mq 14 1, cq 15 45 [(tq 12), (tq 13), (tq 14)]])
 .skip)))) := by kernel_rfl
theorem b76 : bodyM Tryz.prog [] 76 = some (40, [(.cell 6 24), (.tmp 7)],
 (.seq (.reg [bq 3 24 0, oq 6 (.alc 24 [.nils, (.int .i64 0), (.int .i64 0)]), kq 7 0])
 (.seq (.reg [dq 12 3 3, mq 13 1, mq 14 2, cq 15 69 [(tq 12), (tq 13), (tq 14)], mq 11 15, xq 16 11 0, xq 17 11 1, oq 8 (.alc 104 [(.int .i64 0), (.str ⟨#[]⟩), (.int .i64 0)]), sq 3 8 16, mq 9 17])
 (.seq (.seq (.reg [mq 18 9, oq 19 (.bin 0 .eql (tq 18) (nq 0))])
 (.cond (tq 19)
 (.reg [dq 20 3 3, fq 21 2 8, lq 22 21, cq 23 72 [(tq 20), (tq 22)], cq 24 71 [(nq 21), (tq 23)], mq 25 2, cq 26 101 [(tq 25)], cq 27 71 [(nq 20), (tq 26)], oq 28 (.bsl 108 1 [.nilf] 2 [(0, (tq 24)), (1, (tq 27))]), cq 29 70 [(tq 28)], mq 9 29])
 .skip))
 (.seq (.seq (.reg [mq 30 9, oq 31 (.bin 0 .neq (tq 30) (nq 0))])
 (.cond (tq 31)
 (.seq (.reg [dq 32 3 3, mq 33 9, sq 3 6 32, mq 7 33])
 .ret)
 .skip))
 (.seq (.reg [dq 34 3 3, cq 35 73 [(tq 34)], oq 10 (.alc 24 [.nils, (.int .i64 0), (.int .i64 0)]), sq 3 10 35])
 (.seq (.reg [dq 36 3 10, dq 37 3 8, cq 38 74 [(tq 36), (tq 37)]])
 (.seq (.reg [dq 39 3 10, sq 3 6 39, kq 7 0])
 .ret)))))))) := by kernel_rfl
theorem b77 : bodyM Tryz.prog [] 77 = some (22, [(.cell 8 24), (.tmp 9), (.tmp 10)],
 (.seq (.reg [bq 4 24 0, bq 7 3 3, oq 8 (.alc 24 [.nils, (.int .i64 0), (.int .i64 0)]), kq 9 0, kq 10 0])
 (.seq (.seq (.reg [lq 11 7, cq 12 120 [(tq 11)]])
 (.cond (tq 12)
 (.seq (.reg [dq 13 3 4, sq 3 8 13, kq 9 0, kq 10 22])
 .ret)
 .skip))
 (.seq (.reg [dq 14 3 4, mq 15 1, mq 16 2, oq 17 (.fun_ 126 [(tq 7)]), cq 18 111 [(tq 14), (tq 15), (tq 16), ff, (nq 0), (tq 17)], xq 19 18 0, xq 20 18 1, xq 21 18 2, sq 3 8 19, mq 9 20, mq 10 21])
 .ret)))) := by kernel_rfl
theorem b78 : bodyM Tryz.prog [] 78 = some (10, [],
 (.reg [mq 4 0, oq 5 (.nck (tq 4)), fq 6 5 5, mq 7 1, oq 8 (.bin 0 .add (tq 7) (.const (.string ⟨#[10]⟩))), cq 9 127 [(tq 6), (tq 8)]])) := by kernel_rfl
theorem b79 : bodyM Tryz.prog [] 79 = some (27, [(.tmp 6)],
 (.seq (.reg [bq 3 24 0, oq 6 (.mv ff)])
 (.seq (.reg [mq 7 2, oq 8 (.bin 0 .shr (tq 7) (.const (.int .u64 3))), oq 9 (.bin 0 .eql (tq 8) (nq 0)), mq 10 9, gq 11 10 (.lda 3 (tq 3)), gq 12 10 (.mv (tq 1)), ⟨(some 13), (.call (.func 128) [(tq 11), (tq 12)]), (some (10, true))⟩, oq 14 (.pick (tq 10) (tq 13) ff), mq 15 14, gq 16 15 (.fa 0 (tq 3)), gq 17 15 (.ldo (tq 16)), gq 18 15 (.mv (tq 1)), gq 19 15 (.ias 6 (tq 17) (tq 18)), gq 20 15 (.fa 1 (tq 19)), gq 21 15 (.ldo (tq 20)), gq 22 15 (.mv (tq 2)), gq 23 15 (.bin 0 .and (tq 21) (tq 22)), gq 24 15 (.mv (tq 2)), gq 25 15 (.bin 0 .eql (tq 23) (tq 24)), oq 26 (.pick (tq 15) (tq 25) ff), mq 6 26])
 .ret))) := by kernel_rfl
theorem b82 : bodyM Tryz.prog [] 82 = some (6, [(.tmp 2)],
 (.seq (.reg [oq 2 (.mv ff)])
 (.seq (.reg [mq 3 0, oq 4 (.bin 0 .and (tq 3) (.const (.int .u8 192))), oq 5 (.bin 0 .neq (tq 4) (.const (.int .u8 128))), mq 2 5])
 .ret))) := by kernel_rfl
theorem b83 : bodyM Tryz.prog [] 83 = some (19, [(.tmp 2), (.tmp 3)],
 (.seq (.reg [oq 2 (.mv (.const (.int .i32 0))), kq 3 0])
 (.seq (.seq (.reg [mq 4 0, oq 5 (.bin 0 .neq (tq 4) (.const (.string ⟨#[]⟩))), mq 6 5, gq 7 6 (.mv (tq 0)), gq 8 6 (.ixT (tq 7) (nq 0)), gq 9 6 (.bin 0 .lss (tq 8) (.const (.int .u8 128))), oq 10 (.pick (tq 6) (tq 9) ff)])
 (.cond (tq 10)
 (.seq (.reg [mq 11 0, oq 12 (.ixT (tq 11) (nq 0)), oq 13 (.cvI .i32 (tq 12)), mq 2 13, kq 3 1])
 .ret)
 (.reg [mq 15 0, cq 16 129 [(tq 15)], mq 14 16, xq 17 14 0, xq 18 14 1, mq 2 17, mq 3 18])))
 .ret))) := by kernel_rfl
theorem b96 : bodyM Tryz.prog [] 96 = some (48, [(.tmp 8), (.tmp 9)],
 (.seq (.reg [bq 4 24 0, kq 8 0, kq 9 0])
 (.seq (.reg [dq 15 3 4, mq 16 1, mq 17 2, cq 18 136 [(tq 15), (tq 16), (tq 17)], mq 14 18, xq 19 14 0, xq 20 14 1, mq 10 19, mq 11 20])
 (.seq (.seq (.reg [mq 21 11, oq 22 (.bin 0 .neq (tq 21) (nq 0))])
 (.cond (tq 22)
 (.seq (.reg [mq 23 11, kq 8 0, mq 9 23])
 .ret)
 .skip))
 (.seq (.reg [mq 24 2, ⟨(some 25), (.call (.func 137) [(tq 24), (.const (.string ⟨#[47]⟩))]), none⟩, mq 12 25])
 (.seq (.reg [mq 27 10, mq 28 3, mq 29 28, hq 30 29 (.mv (tq 12)), oq 31 (.pick (tq 29) tt (tq 30)), cq 32 138 [(tq 27), (tq 31)], mq 26 32, xq 33 26 0, xq 34 26 1, mq 13 33, mq 11 34])
 (.seq (.seq (.reg [mq 35 11, oq 36 (.bin 0 .eql (tq 35) (nq 0)), mq 37 36, gq 38 37 (.mv (tq 12)), oq 39 (.pick (tq 37) (tq 38) ff), mq 40 39, gq 41 40 (.lda 3 (tq 4)), gq 42 40 (.mv (tq 13)), ⟨(some 43), (.call (.func 139) [(tq 41), (tq 42)]), (some (40, true))⟩, gq 44 40 (.un .not (tq 43)), oq 45 (.pick (tq 40) (tq 44) ff)])
 (.cond (tq 45)
 (.seq (.reg [kq 8 0, kq 9 20])
 .ret)
 .skip))
 (.seq (.reg [mq 46 13, mq 47 11, mq 8 46, mq 9 47])
 .ret)))))))) := by kernel_rfl
theorem b97 : bodyM Tryz.prog [] 97 = some (32, [(.cell 6 24), (.tmp 7)],
 (.seq (.reg [bq 3 24 0, oq 6 (.alc 24 [.nils, (.int .i64 0), (.int .i64 0)]), kq 7 0])
 (.seq (.reg [dq 9 3 3, mq 10 1, cq 11 140 [(tq 9), (tq 10)], mq 8 11])
 (.seq (.block 0
 (.seq (.reg [mq 13 8, oq 14 (.bin 0 .neq (tq 13) (nq 0)), mq 12 14])
 (.cond (tq 12)
 (.seq (.reg [dq 15 3 3, mq 16 8, sq 3 6 15, mq 7 16])
 .ret)
 (.seq (.reg [mq 18 2, oq 19 (.bin 0 .lss (tq 18) (nq 0)), mq 17 19])
 (.cond (tq 17)
 (.seq (.reg [dq 20 3 3, sq 3 6 20, kq 7 22])
 .ret)
 (.seq (.reg [mq 22 2, oq 23 (.bin 0 .gtr (tq 22) (nq 65536)), mq 21 23])
 (.cond (tq 21)
 (.seq (.reg [dq 24 3 3, sq 3 6 24, kq 7 27])
 .ret)
 .skip)))))))
 (.seq (.reg [dq 25 3 3, mq 26 1, mq 27 2, mq 28 2, ⟨(some 29), (.call (.func 141) [(tq 25), (tq 26), (tq 27), (tq 28), (.const (.string ⟨#[]⟩))]), none⟩, xq 30 29 0, xq 31 29 1, sq 3 6 30, mq 7 31])
 .ret))))) := by kernel_rfl
theorem b98 : bodyM Tryz.prog [] 98 = some (57, [(.cell 8 24), (.tmp 9)],
 (.seq (.reg [bq 4 24 0, oq 8 (.alc 24 [.nils, (.int .i64 0), (.int .i64 0)]), kq 9 0])
 (.seq (.reg [dq 11 3 4, mq 12 1, cq 13 140 [(tq 11), (tq 12)], mq 10 13])
 (.seq (.block 0
 (.seq (.reg [mq 15 10, oq 16 (.bin 0 .neq (tq 15) (nq 0)), mq 14 16])
 (.cond (tq 14)
 (.seq (.reg [dq 17 3 4, mq 18 10, sq 3 8 17, mq 9 18])
 .ret)
 (.seq (.reg [mq 20 2, oq 21 (.bin 0 .lss (tq 20) (nq 0)), mq 19 21])
 (.cond (tq 19)
 (.seq (.reg [dq 22 3 4, sq 3 8 22, kq 9 22])
 .ret)
 (.seq (.reg [mq 24 3, oq 25 (.bin 0 .eql (tq 24) (.const (.string ⟨#[]⟩))), mq 23 25])
 (.cond (tq 23)
 (.seq (.reg [dq 26 3 4, sq 3 8 26, kq 9 0])
 .ret)
 (.seq (.reg [mq 28 2, oq 29 (.bin 0 .gtr (tq 28) (nq 65536)), mq 30 29, hq 31 30 (.mv (tq 3)), hq 32 30 (.lnT (tq 31)), hq 33 30 (.mv (tq 2)), hq 34 30 (.bin 0 .sub (nq 65536) (tq 33)), hq 35 30 (.bin 0 .gtr (tq 32) (tq 34)), oq 36 (.pick (tq 30) tt (tq 35)), mq 27 36])
 (.cond (tq 27)
 (.seq (.reg [dq 37 3 4, sq 3 8 37, kq 9 27])
 .ret)
 .skip)))))))))
 (.seq (.reg [dq 38 3 4, mq 39 1, fq 40 0 4, lq 41 40, mq 42 1, iq 43 6 41 42, fq 44 3 43, lq 45 44, oq 46 (.lnT (tq 45)), mq 47 2, mq 48 3, oq 49 (.lnT (tq 48)), oq 50 (.bin 0 .add (tq 47) (tq 49)), oq 51 (.blt .max [3, 3] [(tq 46), (tq 50)]), mq 52 2, mq 53 3, cq 54 141 [(tq 38), (tq 39), (tq 51), (tq 52), (tq 53)], xq 55 54 0, xq 56 54 1, sq 3 8 55, mq 9 56])
 .ret))))) := by kernel_rfl
theorem b99 : bodyM Tryz.prog [] 99 = some (63, [(.tmp 6), (.tmp 7), (.tmp 8)],
 (.seq (.reg [bq 3 24 0, kq 6 0, oq 7 (.mv (.const (.string ⟨#[]⟩))), kq 8 0])
 (.seq (.reg [dq 14 3 3, mq 15 1, mq 16 2, cq 17 136 [(tq 14), (tq 15), (tq 16)], mq 13 17, xq 18 13 0, xq 19 13 1, mq 9 18, mq 10 19])
 (.seq (.block 0
 (.seq (.reg [mq 21 10, oq 22 (.bin 0 .neq (tq 21) (nq 0)), mq 20 22])
 (.cond (tq 20)
 (.seq (.reg [mq 23 10, kq 6 0, oq 7 (.mv (.const (.string ⟨#[]⟩))), mq 8 23])
 .ret)
 (.seq (.reg [mq 25 9, oq 26 (.nck (tq 25)), fq 27 4 26, lq 28 27, oq 29 (.lnS (tq 28)), oq 30 (.bin 0 .eql (tq 29) (nq 0)), mq 24 30])
 (.cond (tq 24)
 (.seq (.reg [kq 6 0, oq 7 (.mv (.const (.string ⟨#[]⟩))), kq 8 17])
 .ret)
 .skip)))))
 (.seq (.reg [mq 31 9, oq 32 (.nck (tq 31)), fq 33 4 32, lq 34 33, oq 35 (.ias 1 (tq 34) (nq 0)), lq 36 35, mq 11 36])
 (.seq (.reg [mq 37 9, mq 38 9, oq 39 (.nck (tq 38)), fq 40 4 39, lq 41 40, oq 42 (.slL 1 (tq 41) (some (nq 1)) none), oq 43 (.nck (tq 37)), fq 44 4 43, sq 1 44 42])
 (.seq (.reg [mq 46 9, cq 47 138 [(tq 46), tt], mq 45 47, xq 48 45 0, xq 49 45 1, mq 12 48, mq 10 49])
 (.seq (.seq (.reg [mq 50 10, oq 51 (.bin 0 .eql (tq 50) (nq 0)), mq 52 51, gq 53 52 (.lda 3 (tq 3)), gq 54 52 (.mv (tq 12)), ⟨(some 55), (.call (.func 139) [(tq 53), (tq 54)]), (some (52, true))⟩, gq 56 52 (.un .not (tq 55)), oq 57 (.pick (tq 52) (tq 56) ff)])
 (.cond (tq 57)
 (.reg [kq 10 20])
 .skip))
 (.seq (.seq (.reg [mq 58 10, oq 59 (.bin 0 .neq (tq 58) (nq 0))])
 (.cond (tq 59)
 (.seq (.reg [mq 60 10, kq 6 0, oq 7 (.mv (.const (.string ⟨#[]⟩))), mq 8 60])
 .ret)
 .skip))
 (.seq (.reg [mq 61 12, mq 62 11, mq 6 61, mq 7 62, kq 8 0])
 .ret)))))))))) := by kernel_rfl
theorem b100 : bodyM Tryz.prog [] 100 = some (28, [(.tmp 2)],
 (.seq (.reg [oq 2 (.mv ff)])
 (.seq (.reg [mq 3 0, oq 4 (.bin 0 .neq (tq 3) (.const (.string ⟨#[]⟩))), mq 5 4, gq 6 5 (.mv (tq 0)), gq 7 5 (.lnT (tq 6)), gq 8 5 (.bin 0 .leq (tq 7) (nq 64)), oq 9 (.pick (tq 5) (tq 8) ff), mq 10 9, gq 11 10 (.mv (tq 0)), gq 12 10 (.bin 0 .neq (tq 11) (.const (.string ⟨#[46]⟩))), oq 13 (.pick (tq 10) (tq 12) ff), mq 14 13, gq 15 14 (.mv (tq 0)), gq 16 14 (.bin 0 .neq (tq 15) (.const (.string ⟨#[46, 46]⟩))), oq 17 (.pick (tq 14) (tq 16) ff), mq 18 17, gq 19 18 (.mv (tq 0)), ⟨(some 20), (.call (.func 36) [(tq 19), (.const (.int .u8 47))]), (some (18, true))⟩, gq 21 18 (.bin 0 .lss (tq 20) (nq 0)), oq 22 (.pick (tq 18) (tq 21) ff), mq 23 22, gq 24 23 (.mv (tq 0)), ⟨(some 25), (.call (.func 36) [(tq 24), (.const (.int .u8 0))]), (some (23, true))⟩, gq 26 23 (.bin 0 .lss (tq 25) (nq 0)), oq 27 (.pick (tq 23) (tq 26) ff), mq 2 27])
 .ret))) := by kernel_rfl
theorem b101 : bodyM Tryz.prog [] 101 = some (5, [(.tmp 2)],
 (.seq (.reg [oq 2 (.mv ff)])
 (.seq (.reg [mq 3 0, ⟨(some 4), (.call (.func 137) [(tq 3), (.const (.string ⟨#[47]⟩))]), none⟩, mq 2 4])
 .ret))) := by kernel_rfl
theorem b102 : bodyM Tryz.prog [] 102 = some (15, [(.tmp 4)],
 (.seq (.reg [kq 4 0])
 (.seq (.reg [lq 5 0, mq 6 5, gq 7 6 (.lda 3 (tq 1)), gq 8 6 (.ldo (tq 2)), gq 9 6 (.fa 2 (tq 3)), gq 10 6 (.ldo (tq 9)), ⟨(some 11), (.call (.func 103) [(tq 7), (tq 8), (tq 10)]), (some (6, true))⟩, oq 12 (.pick (tq 6) (tq 11) ff), cq 13 71 [(nq 22), (tq 12)], ⟨(some 14), (.call (tq 13) []), none⟩, mq 4 14])
 .ret))) := by kernel_rfl
theorem b103 : bodyM Tryz.prog [] 103 = some (15, [(.cell 6 4)],
 (.seq (.reg [bq 3 24 0, bq 5 3 2, oq 6 (.alc 4 [(.bool false)])])
 (.seq (.seq (.reg [dq 8 3 3, mq 9 1, cq 10 142 [(tq 8), (tq 9)]])
 (.block 0
 (.range (tq 10) #[11] (cAt (cOf Tryz.prog 103) [1, 0, 1, 0, 0]) (cAt (cOf Tryz.prog 103) [1, 0, 1, 0, 1]))))
 (.seq (.reg [vq (.sto 1 (tq 6) ff)])
 .ret)))) := by kernel_rfl
theorem b104 : bodyM Tryz.prog [] 104 = some (33, [(.tmp 6)],
 (.seq (.reg [bq 3 24 0, kq 6 0])
 (.seq (.seq (.reg [dq 10 3 3, mq 11 1, cq 12 143 [(tq 10), (tq 11)], oq 13 (.un .not (tq 12))])
 (.cond (tq 13)
 (.seq (.reg [kq 6 (-1)])
 .ret)
 .skip))
 (.seq (.reg [fq 14 0 3, lq 15 14, mq 16 1, iq 17 6 15 16, fq 18 4 17, lq 19 18, mq 7 19])
 (.seq (.reg [mq 21 7, mq 22 2, cq 23 107 [(tq 21), (tq 22), (.func 144)], mq 20 23, xq 24 20 0, xq 25 20 1, mq 8 24, mq 9 25])
 (.seq (.seq (.reg [mq 26 9, oq 27 (.un .not (tq 26))])
 (.cond (tq 27)
 (.seq (.reg [kq 6 (-1)])
 .ret)
 .skip))
 (.seq (.reg [mq 28 7, mq 29 8, iq 30 2 28 29, fq 31 1 30, lq 32 31, mq 6 32])
 .ret))))))) := by kernel_rfl
theorem b105 : bodyM Tryz.prog [1] 105 = some (20, [],
 (.seq (.reg [bq 2 24 0, bq 3 104 1])
 (.regX 1 (opsAt (cOf Tryz.prog 105) [1])))) := by kernel_rfl
theorem b106 : bodyM Tryz.prog [] 106 = some (8, [(.tmp 2)],
 (.seq (.reg [oq 2 (.mv (.const (.slice none 0 0)))])
 (.seq (.seq (.reg [mq 3 0, oq 4 (.bin 3 .eql (tq 3) (.const (.slice none 0 0)))])
 (.cond (tq 4)
 (.seq (.reg [oq 2 (.mv (.const (.slice none 0 0)))])
 .ret)
 .skip))
 (.seq (.reg [oq 5 (.bsl 71 2 [(.str ⟨#[]⟩), (.int .i64 0)] 0 []), mq 6 0, oq 7 (.app 71 2 24 (tq 5) (tq 6)), mq 2 7])
 .ret)))) := by kernel_rfl
theorem b107 : bodyM Tryz.prog [] 107 = some (49, [(.tmp 6), (.tmp 7)],
 (.seq (.reg [kq 6 0, oq 7 (.mv ff)])
 (.seq (.reg [mq 12 0, oq 13 (.lnS (tq 12)), mq 8 13])
 (.seq (.reg [mq 14 8, kq 9 0, mq 10 14])
 (.seq (.block 0
 (.loop
 (.seq (.seq (.reg [mq 15 9, mq 16 10, oq 17 (.bin 0 .lss (tq 15) (tq 16))])
 (.cond (tq 17)
 .skip
 (.exit 0)))
 (.block 1
 (.seq (.reg [mq 18 9, mq 19 10, oq 20 (.bin 0 .add (tq 18) (tq 19)), oq 21 (.cvI .u64 (tq 20)), oq 22 (.bin 0 .shr (tq 21) (.const (.int .u64 1))), oq 23 (.cvI .i64 (tq 22)), mq 11 23])
 (.seq (.reg [mq 24 2, mq 25 0, mq 26 11, iq 27 2 25 26, dq 28 2 27, mq 29 1, ⟨(some 30), (.call (tq 24) [(tq 28), (tq 29)]), none⟩, oq 31 (.bin 0 .lss (tq 30) (nq 0))])
 (.cond (tq 31)
 (.reg [mq 32 11, oq 33 (.bin 0 .add (tq 32) (nq 1)), mq 9 33])
 (.reg [mq 34 11, mq 10 34]))))))))
 (.seq (.reg [mq 35 9, mq 36 9, mq 37 8, oq 38 (.bin 0 .lss (tq 36) (tq 37)), mq 39 38, gq 40 39 (.mv (tq 2)), gq 41 39 (.mv (tq 0)), gq 42 39 (.mv (tq 9)), gq 43 39 (.ias 2 (tq 41) (tq 42)), gq 44 39 (.lda 2 (tq 43)), gq 45 39 (.mv (tq 1)), ⟨(some 46), (.call (tq 40) [(tq 44), (tq 45)]), (some (39, true))⟩, gq 47 39 (.bin 0 .eql (tq 46) (nq 0)), oq 48 (.pick (tq 39) (tq 47) ff), mq 6 35, mq 7 48])
 .ret)))))) := by kernel_rfl
theorem b108 : bodyM Tryz.prog [] 108 = some (9, [(.tmp 4)],
 (.seq (.reg [bq 2 71 0, kq 4 0])
 (.seq (.reg [fq 5 0 2, lq 6 5, mq 7 1, cq 8 109 [(tq 6), (tq 7)], mq 4 8])
 .ret))) := by kernel_rfl
theorem b109 : bodyM Tryz.prog [] 109 = some (8, [(.tmp 4)],
 (.seq (.reg [kq 4 0])
 (.seq (.reg [mq 5 0, mq 6 1, cq 7 147 [(tq 5), (tq 6)], mq 4 7])
 .ret))) := by kernel_rfl
theorem b111 : bodyM Tryz.prog [9] 111 = some (80, [(.cell 12 24), (.tmp 13), (.tmp 14)],
 (.seq (.reg [bq 6 24 0, oq 12 (.alc 24 [.nils, (.int .i64 0), (.int .i64 0)]), kq 13 0, kq 14 0])
 (.seq (.reg [dq 23 3 6, mq 24 1, mq 25 2, mq 26 3, cq 27 113 [(tq 23), (tq 24), (tq 25), (tq 26)], mq 22 27, xq 28 22 0, xq 29 22 1, xq 30 22 2, mq 15 28, mq 16 29, mq 17 30])
 (.seq (.seq (.reg [mq 31 17, oq 32 (.bin 0 .neq (tq 31) (nq 0))])
 (.cond (tq 32)
 (.seq (.reg [dq 33 3 6, mq 34 17, sq 3 12 33, kq 13 0, mq 14 34])
 .ret)
 .skip))
 (.seq (.reg [dq 36 3 6, cq 37 150 [(tq 36)], mq 35 37, xq 38 35 0, xq 39 35 1, mq 18 38, mq 19 39])
 (.seq (.reg [fq 40 0 6, lq 41 40, cq 42 151 [(tq 41), (.func 152)], mq 20 42])
 (.seq (.seq (.reg [mq 43 20, oq 44 (.bin 0 .lss (tq 43) (nq 0)), mq 45 44, hq 46 45 (.mv (tq 4)), hq 47 45 (.fa 2 (tq 6)), hq 48 45 (.ldo (tq 47)), hq 49 45 (.mv (tq 19)), hq 50 45 (.bin 0 .sub (tq 48) (tq 49)), hq 51 45 (.bin 0 .gtr (tq 46) (tq 50)), oq 52 (.pick (tq 45) tt (tq 51)), mq 53 52, hq 54 53 (.fa 0 (tq 6)), hq 55 53 (.ldo (tq 54)), hq 56 53 (.mv (tq 15)), hq 57 53 (.ias 6 (tq 55) (tq 56)), hq 58 53 (.fa 4 (tq 57)), hq 59 53 (.ldo (tq 58)), hq 60 53 (.lnS (tq 59)), hq 61 53 (.bin 0 .geq (tq 60) (nq 1024)), oq 62 (.pick (tq 53) tt (tq 61))])
 (.cond (tq 62)
 (.seq (.reg [dq 63 3 6, sq 3 12 63, kq 13 0, kq 14 28])
 .ret)
 .skip))
 (.seq (.reg [dq 64 3 6, cq 65 114 [(tq 64)], oq 21 (.alc 24 [.nils, (.int .i64 0), (.int .i64 0)]), sq 3 21 65])
 (.seq (.regX 9 (opsAt (cOf Tryz.prog 111) [1, 1, 1, 1, 1, 1, 1, 0]))
 (.seq (.reg [dq 73 3 21, mq 74 15, mq 75 16, mq 76 20, cq 77 115 [(tq 73), (tq 74), (tq 75), (tq 76)]])
 (.seq (.reg [dq 78 3 21, mq 79 20, sq 3 12 78, mq 13 79, kq 14 0])
 .ret))))))))))) := by kernel_rfl
theorem b112 : bodyM Tryz.prog [] 112 = some (6, [(.cell 3 38)],
 (.seq (.reg [oq 3 (.alc 38 [(.int .i64 0), (.int .i64 0), (.int .i64 0), (.str ⟨#[]⟩), .nils, (.int .i64 0)])])
 (.seq (.reg [lq 4 1, oq 5 (.bld [(.int .i64 0), (.int .i64 0), (.int .i64 0), (.str ⟨#[]⟩), .nils, (.int .i64 0)] [(0, (1, (nq 3))), (1, (1, (nq 7))), (3, (1, (tq 4)))]), sq 6 3 5])
 .ret))) := by kernel_rfl
theorem b113 : bodyM Tryz.prog [] 113 = some (58, [(.tmp 8), (.tmp 9), (.tmp 10)],
 (.seq (.reg [bq 4 24 0, kq 8 0, oq 9 (.mv (.const (.string ⟨#[]⟩))), kq 10 0])
 (.seq (.reg [dq 15 3 4, mq 16 1, mq 17 2, cq 18 99 [(tq 15), (tq 16), (tq 17)], mq 14 18, xq 19 14 0, xq 20 14 1, xq 21 14 2, mq 11 19, mq 12 20, mq 13 21])
 (.seq (.block 0
 (.seq (.reg [mq 23 13, oq 24 (.bin 0 .neq (tq 23) (nq 0)), mq 22 24])
 (.cond (tq 22)
 .skip
 (.seq (.reg [mq 26 12, oq 27 (.bin 0 .eql (tq 26) (.const (.string ⟨#[46]⟩))), mq 28 27, hq 29 28 (.mv (tq 12)), hq 30 28 (.bin 0 .eql (tq 29) (.const (.string ⟨#[46, 46]⟩))), oq 31 (.pick (tq 28) tt (tq 30)), mq 32 31, hq 33 32 (.lda 3 (tq 4)), hq 34 32 (.mv (tq 11)), hq 35 32 (.mv (tq 12)), ⟨(some 36), (.call (.func 104) [(tq 33), (tq 34), (tq 35)]), (some (32, false))⟩, hq 37 32 (.bin 0 .geq (tq 36) (nq 0)), oq 38 (.pick (tq 32) tt (tq 37)), mq 25 38])
 (.cond (tq 25)
 (.reg [kq 13 17])
 (.seq (.reg [mq 40 12, cq 41 100 [(tq 40)], oq 42 (.un .not (tq 41)), mq 39 42])
 (.cond (tq 39)
 (.reg [kq 13 22])
 (.seq (.reg [dq 44 3 4, mq 45 11, cq 46 79 [(tq 44), (tq 45), (nq 3)], oq 47 (.un .not (tq 46)), mq 43 47])
 (.cond (tq 43)
 (.reg [kq 13 13])
 (.seq (.reg [mq 49 3, oq 50 (.un .not (tq 49)), mq 51 50, gq 52 51 (.mv (tq 2)), ⟨(some 53), (.call (.func 137) [(tq 52), (.const (.string ⟨#[47]⟩))]), (some (51, true))⟩, oq 54 (.pick (tq 51) (tq 53) ff), mq 48 54])
 (.cond (tq 48)
 (.reg [kq 13 20])
 .skip)))))))))))
 (.seq (.reg [mq 55 11, mq 56 12, mq 57 13, mq 8 55, mq 9 56, mq 10 57])
 .ret))))) := by kernel_rfl
theorem b114 : bodyM Tryz.prog [] 114 = some (8, [(.cell 2 24)],
 (.seq (.reg [bq 1 24 0, oq 2 (.alc 24 [.nils, (.int .i64 0), (.int .i64 0)])])
 (.seq (.reg [fq 3 0 1, lq 4 3, cq 5 125 [(tq 4)], fq 6 0 1, sq 1 6 5])
 (.seq (.reg [dq 7 3 1, sq 3 2 7])
 .ret)))) := by kernel_rfl
end Go.Mm
end
section
set_option maxRecDepth 100000
namespace Go.Mm
open Go.Proofs
theorem b115 : bodyM Tryz.prog [3] 115 = some (45, [],
 (.seq (.reg [bq 4 24 0])
 (.seq (.reg [fq 11 0 4, lq 12 11, mq 13 1, iq 14 6 12 13, fq 15 4 14, lq 16 15, cq 17 106 [(tq 16)], mq 8 17])
 (.seq (.reg [mq 19 8, mq 20 2, cq 21 107 [(tq 19), (tq 20), (.func 153)], mq 18 21, xq 22 18 0, xq 23 18 1, mq 9 22, mq 10 23])
 (.seq (.regX 3 (opsAt (cOf Tryz.prog 115) [1, 1, 1, 0]))
 (.reg [fq 36 0 4, lq 37 36, mq 38 3, iq 39 6 37 38, fq 40 2 39, lq 41 40, oq 42 (.bin 0 .add (tq 41) (nq 1)), iq 43 6 37 38, fq 44 2 43, sq 1 44 42])))))) := by kernel_rfl
theorem b116 : bodyM Tryz.prog [] 116 = some (8, [(.tmp 4)],
 (.seq (.reg [oq 4 (.mv ff)])
 (.seq (.reg [mq 5 0, mq 6 1, cq 7 154 [(tq 5), (tq 6)], mq 4 7])
 .ret))) := by kernel_rfl
theorem b117 : bodyM Tryz.prog [] 117 = some (16, [(.tmp 4)],
 (.seq (.reg [oq 4 (.mv (.const (.string ⟨#[]⟩)))])
 (.seq (.seq (.reg [mq 5 0, mq 6 1, cq 7 155 [(tq 5), (tq 6)]])
 (.cond (tq 7)
 (.seq (.reg [mq 8 0, mq 9 0, oq 10 (.lnT (tq 9)), mq 11 1, oq 12 (.lnT (tq 11)), oq 13 (.bin 0 .sub (tq 10) (tq 12)), oq 14 (.slT (tq 8) none (some (tq 13))), mq 4 14])
 .ret)
 .skip))
 (.seq (.reg [mq 15 0, mq 4 15])
 .ret)))) := by kernel_rfl
theorem b118 : bodyM Tryz.prog [] 118 = some (23, [],
 (.block 0
 (.loop
 (.seq (.seq (.reg [lq 6 1, oq 7 (.bin 0 .neq (tq 6) (.const (.string ⟨#[]⟩)))])
 (.cond (tq 7)
 .skip
 (.exit 0)))
 (.block 1
 (.seq (.reg [lq 9 1, ⟨(some 10), (.call (.func 119) [(tq 9), (.const (.string ⟨#[47]⟩))]), none⟩, mq 8 10, xq 11 8 0, xq 12 8 1, xq 13 8 2, mq 3 11, mq 4 12, mq 5 13])
 (.seq (.seq (.reg [mq 14 3, oq 15 (.bin 0 .neq (tq 14) (.const (.string ⟨#[]⟩))), mq 16 15, gq 17 16 (.mv (tq 0)), gq 18 16 (.mv (tq 3)), ⟨(some 19), (.call (tq 17) [(tq 18)]), (some (16, true))⟩, gq 20 16 (.un .not (tq 19)), oq 21 (.pick (tq 16) (tq 20) ff)])
 (.cond (tq 21)
 .ret
 .skip))
 (.reg [mq 22 4, sq 1 1 22])))))))) := by kernel_rfl
theorem b119 : bodyM Tryz.prog [] 119 = some (13, [(.tmp 4), (.tmp 5), (.tmp 6)],
 (.seq (.reg [oq 4 (.mv (.const (.string ⟨#[]⟩))), oq 5 (.mv (.const (.string ⟨#[]⟩))), oq 6 (.mv ff)])
 (.seq (.reg [mq 7 0, mq 8 1, cq 9 156 [(tq 7), (tq 8)], xq 10 9 0, xq 11 9 1, xq 12 9 2, mq 4 10, mq 5 11, mq 6 12])
 .ret))) := by kernel_rfl
theorem b120 : bodyM Tryz.prog [] 120 = some (6, [(.tmp 2)],
 (.seq (.reg [oq 2 (.mv ff)])
 (.seq (.reg [mq 3 0, oq 4 (.bin 0 .shr (tq 3) (.const (.int .u64 3))), oq 5 (.bin 0 .neq (tq 4) (nq 0)), mq 2 5])
 .ret))) := by kernel_rfl
theorem b121 : bodyM Tryz.prog [] 121 = some (7, [(.cell 3 38)],
 (.seq (.reg [oq 3 (.alc 38 [(.int .i64 0), (.int .i64 0), (.int .i64 0), (.str ⟨#[]⟩), .nils, (.int .i64 0)])])
 (.seq (.reg [lq 4 1, mq 5 0, oq 6 (.bld [(.int .i64 0), (.int .i64 0), (.int .i64 0), (.str ⟨#[]⟩), .nils, (.int .i64 0)] [(0, (1, (nq 2))), (1, (1, (tq 4))), (5, (1, (tq 5)))]), sq 6 3 6])
 .ret))) := by kernel_rfl
theorem b122 : bodyM Tryz.prog [] 122 = some (31, [],
 (.seq (.reg [lq 7 1, cq 8 123 [(tq 7)], mq 3 8])
 (.seq (.seq (.reg [mq 9 3, oq 10 (.lnS (tq 9)), oq 11 (.bin 0 .eql (tq 10) (nq 0))])
 (.cond (tq 11)
 (.seq (.reg [mq 12 0, lq 13 1, ⟨(some 14), (.call (tq 12) [(tq 13)]), none⟩])
 .ret)
 .skip))
 (.seq (.reg [oq 4 (.mv (.const (.string ⟨#[]⟩)))])
 (.seq (.seq (.reg [lq 15 1, ⟨(some 16), (.call (.func 116) [(tq 15), (.const (.string ⟨#[47]⟩))]), none⟩])
 (.cond (tq 16)
 (.reg [oq 4 (.mv (.const (.string ⟨#[47]⟩)))])
 .skip))
 (.seq (.reg [mq 17 3, oq 18 (.lnS (tq 17)), kq 19 0])
 (.block 0
 (.loop
 (.seq (.reg [oq 20 (.bin 0 .lss (tq 19) (tq 18))])
 (.seq (.cond (tq 20)
 .skip
 (.exit 0))
 (.seq (.block 1
 (.seq (.reg [iq 21 1 17 19, lq 22 21, mq 6 22])
 (.seq (.reg [mq 23 4, mq 24 6, cq 25 42 [(tq 23), (tq 24)], mq 4 25])
 (.seq (.reg [mq 26 0, mq 27 4, ⟨(some 28), (.call (tq 26) [(tq 27)]), none⟩, oq 29 (.un .not (tq 28))])
 (.cond (tq 29)
 .ret
 .skip)))))
 (.reg [oq 30 (.bin 0 .add (tq 19) (nq 1)), mq 19 30])))))))))))) := by kernel_rfl
theorem b123 : bodyM Tryz.prog [] 123 = some (6, [(.tmp 2)],
 (.seq (.reg [oq 2 (.mv (.const (.slice none 0 0)))])
 (.seq (.reg [mq 3 0, cq 4 66 [(tq 3)], cq 5 37 [(tq 4)], mq 2 5])
 .ret))) := by kernel_rfl
theorem b124 : bodyM Tryz.prog [] 124 = some (5, [(.tmp 2)],
 (.seq (.reg [kq 2 0])
 (.seq (.seq (.reg [lq 3 0])
 (.cond (tq 3)
 (.seq (.reg [lq 4 1, mq 2 4])
 .ret)
 .skip))
 (.seq (.reg [kq 2 0])
 .ret)))) := by kernel_rfl
theorem b125 : bodyM Tryz.prog [] 125 = some (8, [(.tmp 2)],
 (.seq (.reg [oq 2 (.mv (.const (.slice none 0 0)))])
 (.seq (.seq (.reg [mq 3 0, oq 4 (.bin 3 .eql (tq 3) (.const (.slice none 0 0)))])
 (.cond (tq 4)
 (.seq (.reg [oq 2 (.mv (.const (.slice none 0 0)))])
 .ret)
 .skip))
 (.seq (.reg [oq 5 (.bsl 38 6 [(.int .i64 0), (.int .i64 0), (.int .i64 0), (.str ⟨#[]⟩), .nils, (.int .i64 0)] 0 []), mq 6 0, oq 7 (.app 38 6 72 (tq 5) (tq 6)), mq 2 7])
 .ret)))) := by kernel_rfl
theorem b126 : bodyM Tryz.prog [] 126 = some (6, [(.cell 3 38)],
 (.seq (.reg [oq 3 (.alc 38 [(.int .i64 0), (.int .i64 0), (.int .i64 0), (.str ⟨#[]⟩), .nils, (.int .i64 0)])])
 (.seq (.reg [lq 4 1, oq 5 (.bld [(.int .i64 0), (.int .i64 0), (.int .i64 0), (.str ⟨#[]⟩), .nils, (.int .i64 0)] [(0, (1, (nq 1))), (1, (1, (tq 4)))]), sq 6 3 5])
 .ret))) := by kernel_rfl
theorem b128 : bodyM Tryz.prog [] 128 = some (23, [(.tmp 4)],
 (.seq (.reg [bq 2 24 0, oq 4 (.mv ff)])
 (.seq (.reg [mq 5 1, oq 6 (.bin 0 .geq (tq 5) (nq 0)), mq 7 6, gq 8 7 (.mv (tq 1)), gq 9 7 (.fa 0 (tq 2)), gq 10 7 (.ldo (tq 9)), gq 11 7 (.lnS (tq 10)), gq 12 7 (.bin 0 .lss (tq 8) (tq 11)), oq 13 (.pick (tq 7) (tq 12) ff), mq 14 13, gq 15 14 (.fa 0 (tq 2)), gq 16 14 (.ldo (tq 15)), gq 17 14 (.mv (tq 1)), gq 18 14 (.ias 6 (tq 16) (tq 17)), gq 19 14 (.fa 0 (tq 18)), gq 20 14 (.ldo (tq 19)), gq 21 14 (.bin 0 .neq (tq 20) (nq 0)), oq 22 (.pick (tq 14) (tq 21) ff), mq 4 22])
 .ret))) := by kernel_rfl
theorem b129 : bodyM Tryz.prog [] 129 = some (117, [(.tmp 2), (.tmp 3)],
 (.seq (.reg [oq 2 (.mv (.const (.int .i32 0))), kq 3 0])
 (.seq (.reg [mq 13 0, oq 14 (.lnT (tq 13)), mq 4 14])
 (.seq (.seq (.reg [mq 15 4, oq 16 (.bin 0 .lss (tq 15) (nq 1))])
 (.cond (tq 16)
 (.seq (.reg [oq 2 (.mv (.const (.int .i32 65533))), kq 3 0])
 .ret)
 .skip))
 (.seq (.reg [mq 17 0, oq 18 (.ixT (tq 17) (nq 0)), mq 5 18])
 (.seq (.reg [mq 19 5, oq 20 (.iaa 256 1 (.global 1) (tq 19)), lq 21 20, mq 6 21])
 (.seq (.seq (.reg [mq 22 6, oq 23 (.bin 0 .geq (tq 22) (.const (.int .u8 240)))])
 (.cond (tq 23)
 (.seq (.reg [mq 24 6, oq 25 (.cvI .i32 (tq 24)), oq 26 (.bin 0 .shl (tq 25) (.const (.int .u64 31))), oq 27 (.bin 0 .shr (tq 26) (.const (.int .u64 31))), mq 7 27])
 (.seq (.reg [mq 28 0, oq 29 (.ixT (tq 28) (nq 0)), oq 30 (.cvI .i32 (tq 29)), mq 31 7, oq 32 (.bin 0 .andNot (tq 30) (tq 31)), mq 33 7, oq 34 (.bin 0 .and (.const (.int .i32 65533)) (tq 33)), oq 35 (.bin 0 .or (tq 32) (tq 34)), mq 2 35, kq 3 1])
 .ret))
 .skip))
 (.seq (.reg [mq 36 6, oq 37 (.bin 0 .and (tq 36) (.const (.int .u8 7))), oq 38 (.cvI .i64 (tq 37)), mq 8 38])
 (.seq (.reg [mq 39 6, oq 40 (.bin 0 .shr (tq 39) (.const (.int .u64 4))), oq 41 (.iaa 16 2 (.global 2) (tq 40)), dq 42 2 41, oq 9 (.alc 175 [(.int .u8 0), (.int .u8 0)]), sq 2 9 42])
 (.seq (.seq (.reg [mq 43 4, mq 44 8, oq 45 (.bin 0 .lss (tq 43) (tq 44))])
 (.cond (tq 45)
 (.seq (.reg [oq 2 (.mv (.const (.int .i32 65533))), kq 3 1])
 .ret)
 .skip))
 (.seq (.reg [mq 46 0, oq 47 (.ixT (tq 46) (nq 1)), mq 10 47])
 (.seq (.seq (.reg [mq 48 10, fq 49 0 9, lq 50 49, oq 51 (.bin 0 .lss (tq 48) (tq 50)), mq 52 51, hq 53 52 (.fa 1 (tq 9)), hq 54 52 (.ldo (tq 53)), hq 55 52 (.mv (tq 10)), hq 56 52 (.bin 0 .lss (tq 54) (tq 55)), oq 57 (.pick (tq 52) tt (tq 56))])
 (.cond (tq 57)
 (.seq (.reg [oq 2 (.mv (.const (.int .i32 65533))), kq 3 1])
 .ret)
 .skip))
 (.seq (.seq (.reg [mq 58 8, oq 59 (.bin 0 .leq (tq 58) (nq 2))])
 (.cond (tq 59)
 (.seq (.reg [mq 60 5, oq 61 (.bin 0 .and (tq 60) (.const (.int .u8 31))), oq 62 (.cvI .i32 (tq 61)), oq 63 (.bin 0 .shl (tq 62) (.const (.int .u64 6))), mq 64 10, oq 65 (.bin 0 .and (tq 64) (.const (.int .u8 63))), oq 66 (.cvI .i32 (tq 65)), oq 67 (.bin 0 .or (tq 63) (tq 66)), mq 2 67, kq 3 2])
 .ret)
 .skip))
 (.seq (.reg [mq 68 0, oq 69 (.ixT (tq 68) (nq 2)), mq 11 69])
 (.seq (.seq (.reg [mq 70 11, oq 71 (.bin 0 .lss (tq 70) (.const (.int .u8 128))), mq 72 71, hq 73 72 (.mv (tq 11)), hq 74 72 (.bin 0 .lss (.const (.int .u8 191)) (tq 73)), oq 75 (.pick (tq 72) tt (tq 74))])
 (.cond (tq 75)
 (.seq (.reg [oq 2 (.mv (.const (.int .i32 65533))), kq 3 1])
 .ret)
 .skip))
 (.seq (.seq (.reg [mq 76 8, oq 77 (.bin 0 .leq (tq 76) (nq 3))])
 (.cond (tq 77)
 (.seq (.reg [mq 78 5, oq 79 (.bin 0 .and (tq 78) (.const (.int .u8 15))), oq 80 (.cvI .i32 (tq 79)), oq 81 (.bin 0 .shl (tq 80) (.const (.int .u64 12))), mq 82 10, oq 83 (.bin 0 .and (tq 82) (.const (.int .u8 63))), oq 84 (.cvI .i32 (tq 83)), oq 85 (.bin 0 .shl (tq 84) (.const (.int .u64 6))), oq 86 (.bin 0 .or (tq 81) (tq 85)), mq 87 11, oq 88 (.bin 0 .and (tq 87) (.const (.int .u8 63))), oq 89 (.cvI .i32 (tq 88)), oq 90 (.bin 0 .or (tq 86) (tq 89)), mq 2 90, kq 3 3])
 .ret)
 .skip))
 (.seq (.reg [mq 91 0, oq 92 (.ixT (tq 91) (nq 3)), mq 12 92])
 (.seq (.seq (.reg [mq 93 12, oq 94 (.bin 0 .lss (tq 93) (.const (.int .u8 128))), mq 95 94, hq 96 95 (.mv (tq 12)), hq 97 95 (.bin 0 .lss (.const (.int .u8 191)) (tq 96)), oq 98 (.pick (tq 95) tt (tq 97))])
 (.cond (tq 98)
 (.seq (.reg [oq 2 (.mv (.const (.int .i32 65533))), kq 3 1])
 .ret)
 .skip))
 (.seq (.reg [mq 99 5, oq 100 (.bin 0 .and (tq 99) (.const (.int .u8 7))), oq 101 (.cvI .i32 (tq 100)), oq 102 (.bin 0 .shl (tq 101) (.const (.int .u64 18))), mq 103 10, oq 104 (.bin 0 .and (tq 103) (.const (.int .u8 63))), oq 105 (.cvI .i32 (tq 104)), oq 106 (.bin 0 .shl (tq 105) (.const (.int .u64 12))), oq 107 (.bin 0 .or (tq 102) (tq 106)), mq 108 11, oq 109 (.bin 0 .and (tq 108) (.const (.int .u8 63))), oq 110 (.cvI .i32 (tq 109)), oq 111 (.bin 0 .shl (tq 110) (.const (.int .u64 6))), oq 112 (.bin 0 .or (tq 107) (tq 111)), mq 113 12, oq 114 (.bin 0 .and (tq 113) (.const (.int .u8 63))), oq 115 (.cvI .i32 (tq 114)), oq 116 (.bin 0 .or (tq 112) (tq 115)), mq 2 116, kq 3 4])
 .ret))))))))))))))))))) := by kernel_rfl
theorem b136 : bodyM Tryz.prog [] 136 = some (35, [(.tmp 6), (.tmp 7)],
 (.seq (.reg [bq 3 24 0, oq 6 (.mv (.const (.pointer none))), kq 7 0])
 (.seq (.block 0
 (.seq (.reg [mq 10 2, oq 11 (.bin 0 .eql (tq 10) (.const (.string ⟨#[]⟩))), mq 12 11, hq 13 12 (.lda 3 (tq 3)), hq 14 12 (.mv (tq 1)), ⟨(some 15), (.call (.func 139) [(tq 13), (tq 14)]), (some (12, false))⟩, hq 16 12 (.un .not (tq 15)), oq 17 (.pick (tq 12) tt (tq 16)), mq 9 17])
 (.cond (tq 9)
 (.seq (.reg [oq 6 (.mv (.const (.pointer none))), kq 7 2])
 .ret)
 (.seq (.reg [mq 19 2, oq 20 (.lnT (tq 19)), oq 21 (.bin 0 .gtr (tq 20) (nq 1024)), mq 18 21])
 (.cond (tq 18)
 (.seq (.reg [oq 6 (.mv (.const (.pointer none))), kq 7 36])
 .ret)
 .skip)))))
 (.seq (.reg [dq 22 3 3, mq 23 1, oq 24 (.bld [.nils, (.int .i64 0), (.int .i64 0), (.int .i64 0), .nils, (.int .i64 0)] [(0, (3, (tq 22))), (3, (1, (tq 23)))]), bq 25 163 24, mq 8 25])
 (.seq (.reg [mq 26 8, mq 27 2, cq 28 159 [(tq 26), (tq 27)]])
 (.seq (.seq (.reg [mq 29 8, oq 30 (.nck (tq 29)), fq 31 4 30, lq 32 31, cq 33 160 [(tq 32), (.func 161)]])
 (.cond (tq 33)
 (.seq (.reg [oq 6 (.mv (.const (.pointer none))), kq 7 36])
 .ret)
 .skip))
 (.seq (.reg [mq 34 8, mq 6 34, kq 7 0])
 .ret))))))) := by kernel_rfl
theorem b137 : bodyM Tryz.prog [] 137 = some (8, [(.tmp 4)],
 (.seq (.reg [oq 4 (.mv ff)])
 (.seq (.reg [mq 5 0, mq 6 1, cq 7 155 [(tq 5), (tq 6)], mq 4 7])
 .ret))) := by kernel_rfl
theorem b138 : bodyM Tryz.prog [] 138 = some (88, [(.tmp 4), (.tmp 5)],
 (.seq (.reg [bq 2 156 0, bq 3 4 1, kq 4 0, kq 5 0])
 (.seq (.reg [oq 6 (.alc 83 [(.int .i64 0)]), vq (.sto 1 (tq 6) (nq 0))])
 (.seq .skip
 (.seq (.seq (.reg [lq 10 2, cq 11 162 [(tq 10)]])
 (.block 0
 (.range (tq 11) #[12] (cAt (cOf Tryz.prog 138) [1, 0, 1, 1, 0, 1, 0, 0]) (cAt (cOf Tryz.prog 138) [1, 0, 1, 1, 0, 1, 0, 1]))))
 (.seq (.seq (.reg [lq 81 6, oq 82 (.bin 0 .neq (tq 81) (nq 0))])
 (.cond (tq 82)
 (.seq (.reg [lq 83 6, kq 4 0, mq 5 83])
 .ret)
 .skip))
 (.seq (.reg [lq 84 2, oq 85 (.nck (tq 84)), fq 86 3 85, lq 87 86, mq 4 87, kq 5 0])
 .ret))))))) := by kernel_rfl
theorem b139 : bodyM Tryz.prog [] 139 = some (17, [(.tmp 4)],
 (.seq (.reg [bq 2 24 0, oq 4 (.mv ff)])
 (.seq (.reg [dq 5 3 2, mq 6 1, cq 7 128 [(tq 5), (tq 6)], mq 8 7, gq 9 8 (.fa 0 (tq 2)), gq 10 8 (.ldo (tq 9)), gq 11 8 (.mv (tq 1)), gq 12 8 (.ias 6 (tq 10) (tq 11)), gq 13 8 (.fa 0 (tq 12)), gq 14 8 (.ldo (tq 13)), gq 15 8 (.bin 0 .eql (tq 14) (nq 2)), oq 16 (.pick (tq 8) (tq 15) ff), mq 4 16])
 .ret))) := by kernel_rfl
theorem b140 : bodyM Tryz.prog [] 140 = some (22, [(.tmp 4)],
 (.seq (.reg [bq 2 24 0, kq 4 0])
 (.seq (.seq (.reg [mq 5 1, oq 6 (.bin 0 .lss (tq 5) (nq 0)), mq 7 6, hq 8 7 (.mv (tq 1)), hq 9 7 (.fa 0 (tq 2)), hq 10 7 (.ldo (tq 9)), hq 11 7 (.lnS (tq 10)), hq 12 7 (.bin 0 .geq (tq 8) (tq 11)), oq 13 (.pick (tq 7) tt (tq 12))])
 (.cond (tq 13)
 (.seq (.reg [kq 4 2])
 .ret)
 .skip))
 (.seq (.reg [oq 14 (.bld [(.int .i64 0), (.int .i64 0), (.int .i64 0), (.int .i64 0)] [(0, (1, (nq 2))), (2, (1, (nq 21))), (3, (1, (nq 22)))]), fq 15 0 2, lq 16 15, mq 17 1, iq 18 6 16 17, fq 19 0 18, lq 20 19, oq 21 (.oth (.index 182 (tq 14) (tq 20))), mq 4 21])
 .ret)))) := by kernel_rfl
theorem b141 : bodyM Tryz.prog [] 141 = some (61, [(.cell 10 24), (.tmp 11)],
 (.seq (.reg [bq 5 24 0, oq 10 (.alc 24 [.nils, (.int .i64 0), (.int .i64 0)]), kq 11 0])
 (.seq (.reg [fq 16 0 5, lq 17 16, mq 18 1, iq 19 6 17 18, fq 20 3 19, lq 21 20, mq 12 21])
 (.seq (.seq (.reg [dq 23 3 5, cq 24 150 [(tq 23)], mq 22 24, xq 25 22 0, xq 26 22 1, mq 13 25, mq 14 26])
 (.seq (.reg [mq 27 14, mq 28 12, oq 29 (.lnT (tq 28)), oq 30 (.bin 0 .sub (tq 27) (tq 29)), mq 31 2, oq 32 (.bin 0 .add (tq 30) (tq 31)), fq 33 2 5, lq 34 33, oq 35 (.bin 0 .gtr (tq 32) (tq 34))])
 (.cond (tq 35)
 (.seq (.reg [dq 36 3 5, sq 3 10 36, kq 11 28])
 .ret)
 .skip)))
 (.seq (.reg [mq 37 2, oq 38 (.mks 5 1 1 [(.int .u8 0)] (tq 37) (tq 37)), mq 15 38])
 (.seq (.reg [mq 39 15, mq 40 12, oq 41 (.cpy 1 (tq 39) (tq 40))])
 (.seq (.reg [mq 42 15, mq 43 3, mq 44 2, oq 45 (.blt .min [3, 3] [(tq 43), (tq 44)]), oq 46 (.slL 1 (tq 42) (some (tq 45)) none), mq 47 4, oq 48 (.cpy 1 (tq 46) (tq 47))])
 (.seq (.reg [fq 49 0 5, lq 50 49, cq 51 125 [(tq 50)], fq 52 0 5, sq 1 52 51])
 (.seq (.reg [fq 53 0 5, lq 54 53, mq 55 1, mq 56 15, oq 57 (.cvB (tq 56)), iq 58 6 54 55, fq 59 3 58, sq 1 59 57])
 (.seq (.reg [dq 60 3 5, sq 3 10 60, kq 11 0])
 .ret)))))))))) := by kernel_rfl
theorem b142 : bodyM Tryz.prog [] 142 = some (6, [(.tmp 4)],
 (.seq (.reg [bq 2 24 0, bq 3 3 1, oq 4 (.mv (.const .nilFunc))])
 (.seq (.reg [oq 5 (.fun_ 164 [(tq 3), (tq 2)]), mq 4 5])
 .ret))) := by kernel_rfl
theorem b143 : bodyM Tryz.prog [] 143 = some (17, [(.tmp 4)],
 (.seq (.reg [bq 2 24 0, oq 4 (.mv ff)])
 (.seq (.reg [dq 5 3 2, mq 6 1, cq 7 165 [(tq 5), (tq 6)], mq 8 7, gq 9 8 (.fa 0 (tq 2)), gq 10 8 (.ldo (tq 9)), gq 11 8 (.mv (tq 1)), gq 12 8 (.ias 6 (tq 10) (tq 11)), gq 13 8 (.fa 0 (tq 12)), gq 14 8 (.ldo (tq 13)), gq 15 8 (.bin 0 .eql (tq 14) (nq 2)), oq 16 (.pick (tq 8) (tq 15) ff), mq 4 16])
 .ret))) := by kernel_rfl
theorem b144 : bodyM Tryz.prog [] 144 = some (9, [(.tmp 4)],
 (.seq (.reg [bq 2 71 0, kq 4 0])
 (.seq (.reg [fq 5 0 2, lq 6 5, mq 7 1, cq 8 109 [(tq 6), (tq 7)], mq 4 8])
 .ret))) := by kernel_rfl
theorem b146 : bodyM Tryz.prog [] 146 = some (9, [(.tmp 3)],
 (.seq (.reg [bq 2 71 0, oq 3 (.mv ff)])
 (.seq (.reg [fq 4 0 2, lq 5 4, fq 6 1 1, lq 7 6, oq 8 (.bin 0 .eql (tq 5) (tq 7)), mq 3 8])
 .ret))) := by kernel_rfl
theorem b147 : bodyM Tryz.prog [] 147 = some (8, [(.tmp 4)],
 (.seq (.reg [kq 4 0])
 (.seq (.reg [mq 5 0, mq 6 1, cq 7 167 [(tq 5), (tq 6)], mq 4 7])
 .ret))) := by kernel_rfl
theorem b150 : bodyM Tryz.prog [] 150 = some (28, [(.tmp 2), (.tmp 3)],
 (.seq (.reg [bq 1 24 0, kq 2 0, kq 3 0])
 (.seq (.reg [kq 4 0, kq 5 0])
 (.seq (.seq (.reg [fq 8 0 1, lq 9 8, oq 10 (.lnS (tq 9)), kq 11 0])
 (.block 0
 (.loop
 (.seq (.reg [oq 12 (.bin 0 .lss (tq 11) (tq 10))])
 (.seq (.cond (tq 12)
 .skip
 (.exit 0))
 (.seq (.block 1
 (.seq (.reg [iq 13 6 9 11, dq 14 6 13, oq 7 (.alc 38 [(.int .i64 0), (.int .i64 0), (.int .i64 0), (.str ⟨#[]⟩), .nils, (.int .i64 0)]), sq 6 7 14])
 (.seq (.reg [mq 15 4, fq 16 0 7, lq 17 16, oq 18 (.blt .min [3, 3] [(tq 17), (nq 1)]), oq 19 (.bin 0 .add (tq 15) (tq 18)), mq 4 19])
 (.reg [mq 20 5, fq 21 3 7, lq 22 21, oq 23 (.lnT (tq 22)), oq 24 (.bin 0 .add (tq 20) (tq 23)), mq 5 24]))))
 (.reg [oq 25 (.bin 0 .add (tq 11) (nq 1)), mq 11 25])))))))
 (.seq (.reg [mq 26 4, mq 27 5, mq 2 26, mq 3 27])
 .ret))))) := by kernel_rfl
theorem b151 : bodyM Tryz.prog [] 151 = some (19, [(.tmp 4)],
 (.seq (.reg [kq 4 0])
 (.seq (.seq (.reg [mq 6 0, oq 7 (.lnS (tq 6)), kq 8 0])
 (.block 0
 (.loop
 (.seq (.reg [oq 9 (.bin 0 .lss (tq 8) (tq 7))])
 (.seq (.cond (tq 9)
 .skip
 (.exit 0))
 (.seq (.block 1
 (.seq (.reg [mq 10 8, mq 5 10])
 (.seq (.reg [mq 11 1, mq 12 0, mq 13 5, iq 14 6 12 13, dq 15 6 14, ⟨(some 16), (.call (tq 11) [(tq 15)]), none⟩])
 (.cond (tq 16)
 (.seq (.reg [mq 17 5, mq 4 17])
 .ret)
 .skip))))
 (.reg [oq 18 (.bin 0 .add (tq 8) (nq 1)), mq 8 18])))))))
 (.seq (.reg [kq 4 (-1)])
 .ret)))) := by kernel_rfl
theorem b152 : bodyM Tryz.prog [] 152 = some (6, [(.tmp 2)],
 (.seq (.reg [bq 1 38 0, oq 2 (.mv ff)])
 (.seq (.reg [fq 3 0 1, lq 4 3, oq 5 (.bin 0 .eql (tq 4) (nq 0)), mq 2 5])
 .ret))) := by kernel_rfl
theorem b153 : bodyM Tryz.prog [] 153 = some (9, [(.tmp 4)],
 (.seq (.reg [bq 2 71 0, kq 4 0])
 (.seq (.reg [fq 5 0 2, lq 6 5, mq 7 1, cq 8 109 [(tq 6), (tq 7)], mq 4 8])
 .ret))) := by kernel_rfl
theorem b154 : bodyM Tryz.prog [] 154 = some (18, [(.tmp 4)],
 (.seq (.reg [oq 4 (.mv ff)])
 (.seq (.reg [mq 5 0, oq 6 (.lnT (tq 5)), mq 7 1, oq 8 (.lnT (tq 7)), oq 9 (.bin 0 .geq (tq 6) (tq 8)), mq 10 9, gq 11 10 (.mv (tq 0)), gq 12 10 (.mv (tq 1)), gq 13 10 (.lnT (tq 12)), gq 14 10 (.slT (tq 11) none (some (tq 13))), gq 15 10 (.mv (tq 1)), gq 16 10 (.bin 0 .eql (tq 14) (tq 15)), oq 17 (.pick (tq 10) (tq 16) ff), mq 4 17])
 .ret))) := by kernel_rfl
theorem b155 : bodyM Tryz.prog [] 155 = some (21, [(.tmp 4)],
 (.seq (.reg [oq 4 (.mv ff)])
 (.seq (.reg [mq 5 0, oq 6 (.lnT (tq 5)), mq 7 1, oq 8 (.lnT (tq 7)), oq 9 (.bin 0 .geq (tq 6) (tq 8)), mq 10 9, gq 11 10 (.mv (tq 0)), gq 12 10 (.mv (tq 0)), gq 13 10 (.lnT (tq 12)), gq 14 10 (.mv (tq 1)), gq 15 10 (.lnT (tq 14)), gq 16 10 (.bin 0 .sub (tq 13) (tq 15)), gq 17 10 (.slT (tq 11) (some (tq 16)) none), gq 18 10 (.mv (tq 1)), gq 19 10 (.bin 0 .eql (tq 17) (tq 18)), oq 20 (.pick (tq 10) (tq 19) ff), mq 4 20])
 .ret))) := by kernel_rfl
theorem b156 : bodyM Tryz.prog [] 156 = some (23, [(.tmp 4), (.tmp 5), (.tmp 6)],
 (.seq (.reg [oq 4 (.mv (.const (.string ⟨#[]⟩))), oq 5 (.mv (.const (.string ⟨#[]⟩))), oq 6 (.mv ff)])
 (.seq (.seq (.reg [mq 8 0, mq 9 1, cq 10 169 [(tq 8), (tq 9)], mq 7 10])
 (.seq (.reg [mq 11 7, oq 12 (.bin 0 .geq (tq 11) (nq 0))])
 (.cond (tq 12)
 (.seq (.reg [mq 13 0, mq 14 7, oq 15 (.slT (tq 13) none (some (tq 14))), mq 16 0, mq 17 7, mq 18 1, oq 19 (.lnT (tq 18)), oq 20 (.bin 0 .add (tq 17) (tq 19)), oq 21 (.slT (tq 16) (some (tq 20)) none), mq 4 15, mq 5 21, oq 6 (.mv tt)])
 .ret)
 .skip)))
 (.seq (.reg [mq 22 0, mq 4 22, oq 5 (.mv (.const (.string ⟨#[]⟩))), oq 6 (.mv ff)])
 .ret)))) := by kernel_rfl
theorem b159 : bodyM Tryz.prog [] 159 = some (23, [],
 (.seq (.seq (.reg [mq 5 1, ⟨(some 6), (.call (.func 116) [(tq 5), (.const (.string ⟨#[47]⟩))]), none⟩])
 (.cond (tq 6)
 (.reg [mq 7 0, oq 8 (.nck (tq 7)), fq 9 3 8, vq (.sto 1 (tq 9) (nq 0))])
 .skip))
 (.seq (.reg [mq 10 1, cq 11 123 [(tq 10)], mq 4 11])
 (.seq (.reg [mq 12 4, cq 13 171 [(tq 12)]])
 (.reg [mq 14 0, mq 15 0, oq 16 (.nck (tq 15)), fq 17 4 16, lq 18 17, mq 19 4, oq 20 (.app 9 1 16 (tq 18) (tq 19)), oq 21 (.nck (tq 14)), fq 22 4 21, sq 1 22 20]))))) := by kernel_rfl
theorem b160 : bodyM Tryz.prog [] 160 = some (9, [(.tmp 4)],
 (.seq (.reg [oq 4 (.mv ff)])
 (.seq (.reg [mq 5 0, mq 6 1, cq 7 172 [(tq 5), (tq 6)], oq 8 (.bin 0 .geq (tq 7) (nq 0)), mq 4 8])
 .ret))) := by kernel_rfl
theorem b161 : bodyM Tryz.prog [] 161 = some (6, [(.tmp 2)],
 (.seq (.reg [oq 2 (.mv ff)])
 (.seq (.reg [mq 3 0, oq 4 (.lnT (tq 3)), oq 5 (.bin 0 .gtr (tq 4) (nq 64)), mq 2 5])
 .ret))) := by kernel_rfl
theorem b162 : bodyM Tryz.prog [] 162 = some (4, [(.tmp 2)],
 (.seq (.reg [bq 1 156 0, oq 2 (.mv (.const .nilFunc))])
 (.seq (.reg [oq 3 (.fun_ 173 [(tq 1)]), mq 2 3])
 .ret))) := by kernel_rfl
theorem b163 : bodyM Tryz.prog [] 163 = some (39, [(.tmp 6), (.tmp 7)],
 (.seq (.reg [bq 3 24 0, kq 6 0, kq 7 0])
 (.seq (.block 0
 (.seq (.reg [dq 10 3 3, mq 11 1, cq 12 139 [(tq 10), (tq 11)], oq 13 (.un .not (tq 12)), mq 9 13])
 (.cond (tq 9)
 (.seq (.reg [kq 6 0, kq 7 20])
 .ret)
 (.seq (.reg [dq 15 3 3, mq 16 1, cq 17 79 [(tq 15), (tq 16), (nq 1)], oq 18 (.un .not (tq 17)), mq 14 18])
 (.cond (tq 14)
 (.seq (.reg [kq 6 0, kq 7 13])
 .ret)
 (.seq (.reg [mq 20 2, oq 21 (.bin 0 .eql (tq 20) (.const (.string ⟨#[46]⟩))), mq 19 21])
 (.cond (tq 19)
 (.seq (.reg [mq 22 1, mq 6 22, kq 7 0])
 .ret)
 (.seq (.reg [mq 24 2, oq 25 (.bin 0 .eql (tq 24) (.const (.string ⟨#[46, 46]⟩))), mq 23 25])
 (.cond (tq 23)
 (.seq (.reg [fq 26 0 3, lq 27 26, mq 28 1, iq 29 6 27 28, fq 30 5 29, lq 31 30, mq 6 31, kq 7 0])
 .ret)
 .skip)))))))))
 (.seq (.seq (.reg [dq 32 3 3, mq 33 1, mq 34 2, cq 35 104 [(tq 32), (tq 33), (tq 34)], mq 8 35])
 (.seq (.reg [mq 36 8, oq 37 (.bin 0 .geq (tq 36) (nq 0))])
 (.cond (tq 37)
 (.seq (.reg [mq 38 8, mq 6 38, kq 7 0])
 .ret)
 .skip)))
 (.seq (.reg [kq 6 0, kq 7 2])
 .ret))))) := by kernel_rfl
theorem b164 : bodyM Tryz.prog [] 164 = some (17, [],
 (.block 0
 (.loop
 (.seq (.seq (.reg [mq 4 0, lq 5 1, ⟨(some 6), (.call (tq 4) [(tq 5)]), none⟩, mq 7 6, gq 8 7 (.ldo (tq 1)), gq 9 7 (.bin 0 .neq (tq 8) (nq 0)), oq 10 (.pick (tq 7) (tq 9) ff)])
 (.cond (tq 10)
 .skip
 (.exit 0)))
 (.block 1
 (.reg [fq 11 0 2, lq 12 11, lq 13 1, iq 14 6 12 13, fq 15 5 14, lq 16 15, sq 1 1 16])))))) := by kernel_rfl
theorem b165 : bodyM Tryz.prog [] 165 = some (14, [(.tmp 4)],
 (.seq (.reg [bq 2 24 0, oq 4 (.mv ff)])
 (.seq (.reg [mq 5 1, oq 6 (.bin 0 .leq (nq 0) (tq 5)), mq 7 6, gq 8 7 (.mv (tq 1)), gq 9 7 (.fa 0 (tq 2)), gq 10 7 (.ldo (tq 9)), gq 11 7 (.lnS (tq 10)), gq 12 7 (.bin 0 .lss (tq 8) (tq 11)), oq 13 (.pick (tq 7) (tq 12) ff), mq 4 13])
 .ret))) := by kernel_rfl
theorem b166 : bodyM Tryz.prog [] 166 = some (19, [(.tmp 4)],
 (.seq (.reg [kq 4 0])
 (.seq (.seq (.reg [mq 6 0, oq 7 (.lnS (tq 6)), kq 8 0])
 (.block 0
 (.loop
 (.seq (.reg [oq 9 (.bin 0 .lss (tq 8) (tq 7))])
 (.seq (.cond (tq 9)
 .skip
 (.exit 0))
 (.seq (.block 1
 (.seq (.reg [mq 10 8, mq 5 10])
 (.seq (.reg [mq 11 1, mq 12 0, mq 13 5, iq 14 2 12 13, dq 15 2 14, ⟨(some 16), (.call (tq 11) [(tq 15)]), none⟩])
 (.cond (tq 16)
 (.seq (.reg [mq 17 5, mq 4 17])
 .ret)
 .skip))))
 (.reg [oq 18 (.bin 0 .add (tq 8) (nq 1)), mq 8 18])))))))
 (.seq (.reg [kq 4 (-1)])
 .ret)))) := by kernel_rfl
theorem b169 : bodyM Tryz.prog [] 169 = some (143, [(.tmp 4)],
 (.seq (.reg [kq 4 0])
 (.seq (.reg [mq 14 1, oq 15 (.lnT (tq 14)), mq 5 15])
 (.seq (.block 0
 (.seq (.reg [mq 17 5, oq 18 (.bin 0 .eql (tq 17) (nq 0)), mq 19 18, hq 20 19 (.mv (tq 1)), hq 21 19 (.mv (tq 0)), hq 22 19 (.bin 0 .eql (tq 20) (tq 21)), oq 23 (.pick (tq 19) tt (tq 22)), mq 16 23])
 (.cond (tq 16)
 (.seq (.reg [kq 4 0])
 .ret)
 (.seq (.reg [mq 25 5, oq 26 (.bin 0 .eql (tq 25) (nq 1)), mq 24 26])
 (.cond (tq 24)
 (.seq (.reg [mq 27 0, mq 28 1, oq 29 (.ixT (tq 28) (nq 0)), cq 30 54 [(tq 27), (tq 29)], mq 4 30])
 .ret)
 (.seq (.reg [mq 32 5, mq 33 0, oq 34 (.lnT (tq 33)), oq 35 (.bin 0 .geq (tq 32) (tq 34)), mq 31 35])
 (.cond (tq 31)
 (.seq (.reg [kq 4 (-1)])
 .ret)
 (.seq (.reg [mq 37 5, oq 38 (.ldo (.global 0)), oq 39 (.bin 0 .leq (tq 37) (tq 38)), mq 40 39, gq 41 40 (.mv (tq 0)), gq 42 40 (.lnT (tq 41)), gq 43 40 (.bin 0 .leq (tq 42) (nq 64)), oq 44 (.pick (tq 40) (tq 43) ff), mq 36 44])
 (.cond (tq 36)
 (.seq (.reg [mq 45 0, mq 46 1, cq 47 175 [(tq 45), (tq 46)], mq 4 47])
 .ret)
 .skip)))))))))
 (.seq (.reg [mq 48 1, oq 49 (.ixT (tq 48) (nq 0)), mq 6 49])
 (.seq (.reg [mq 50 1, oq 51 (.ixT (tq 50) (nq 1)), mq 7 51])
 (.seq (.reg [kq 8 0])
 (.seq (.reg [mq 52 0, oq 53 (.lnT (tq 52)), mq 54 5, oq 55 (.bin 0 .sub (tq 53) (tq 54)), oq 56 (.bin 0 .add (tq 55) (nq 1)), mq 9 56])
 (.seq (.reg [kq 10 0])
 (.seq (.block 1
 (.loop
 (.seq (.seq (.reg [mq 57 8, mq 58 9, oq 59 (.bin 0 .lss (tq 57) (tq 58))])
 (.cond (tq 59)
 .skip
 (.exit 1)))
 (.block 2
 (.seq (.seq (.reg [mq 60 0, mq 61 8, oq 62 (.ixT (tq 60) (tq 61)), mq 63 6, oq 64 (.bin 0 .neq (tq 62) (tq 63))])
 (.cond (tq 64)
 (.seq (.reg [mq 65 0, mq 66 8, oq 67 (.bin 0 .add (tq 66) (nq 1)), mq 68 9, oq 69 (.slT (tq 65) (some (tq 67)) (some (tq 68))), mq 70 6, cq 71 54 [(tq 69), (tq 70)], mq 11 71])
 (.seq (.seq (.reg [mq 72 11, oq 73 (.bin 0 .lss (tq 72) (nq 0))])
 (.cond (tq 73)
 (.seq (.reg [kq 4 (-1)])
 .ret)
 .skip))
 (.reg [mq 74 8, mq 75 11, oq 76 (.bin 0 .add (tq 75) (nq 1)), oq 77 (.bin 0 .add (tq 74) (tq 76)), mq 8 77])))
 .skip))
 (.seq (.seq (.reg [mq 78 0, mq 79 8, oq 80 (.bin 0 .add (tq 79) (nq 1)), oq 81 (.ixT (tq 78) (tq 80)), mq 82 7, oq 83 (.bin 0 .eql (tq 81) (tq 82)), mq 84 83, gq 85 84 (.mv (tq 0)), gq 86 84 (.mv (tq 8)), gq 87 84 (.mv (tq 8)), gq 88 84 (.mv (tq 5)), gq 89 84 (.bin 0 .add (tq 87) (tq 88)), gq 90 84 (.slT (tq 85) (some (tq 86)) (some (tq 89))), gq 91 84 (.mv (tq 1)), gq 92 84 (.bin 0 .eql (tq 90) (tq 91)), oq 93 (.pick (tq 84) (tq 92) ff)])
 (.cond (tq 93)
 (.seq (.reg [mq 94 8, mq 4 94])
 .ret)
 .skip))
 (.seq (.reg [mq 95 8, oq 96 (.bin 0 .add (tq 95) (nq 1)), mq 8 96])
 (.seq (.reg [mq 97 10, oq 98 (.bin 0 .add (tq 97) (nq 1)), mq 10 98])
 (.seq (.reg [mq 99 5, oq 100 (.ldo (.global 0)), oq 101 (.bin 0 .leq (tq 99) (tq 100)), mq 102 101, gq 103 102 (.mv (tq 10)), gq 104 102 (.mv (tq 8)), ⟨(some 105), (.call (.func 176) [(tq 104)]), (some (102, true))⟩, gq 106 102 (.bin 0 .gtr (tq 103) (tq 105)), oq 107 (.pick (tq 102) (tq 106) ff)])
 (.cond (tq 107)
 (.seq (.reg [mq 108 0, mq 109 8, oq 110 (.slT (tq 108) (some (tq 109)) none), mq 111 1, cq 112 175 [(tq 110), (tq 111)], mq 12 112])
 (.seq (.seq (.reg [mq 113 12, oq 114 (.bin 0 .geq (tq 113) (nq 0))])
 (.cond (tq 114)
 (.seq (.reg [mq 115 12, mq 116 8, oq 117 (.bin 0 .add (tq 115) (tq 116)), mq 4 117])
 .ret)
 .skip))
 (.seq (.reg [kq 4 (-1)])
 .ret)))
 (.seq (.reg [mq 118 5, oq 119 (.ldo (.global 0)), oq 120 (.bin 0 .gtr (tq 118) (tq 119)), mq 121 120, gq 122 121 (.mv (tq 10)), gq 123 121 (.mv (tq 8)), gq 124 121 (.bin 0 .shr (tq 123) (.const (.int .u64 4))), gq 125 121 (.bin 0 .add (nq 4) (tq 124)), gq 126 121 (.bin 0 .geq (tq 122) (tq 125)), oq 127 (.pick (tq 121) (tq 126) ff), mq 128 127, gq 129 128 (.mv (tq 8)), gq 130 128 (.mv (tq 9)), gq 131 128 (.bin 0 .lss (tq 129) (tq 130)), oq 132 (.pick (tq 128) (tq 131) ff)])
 (.cond (tq 132)
 (.seq (.reg [mq 133 0, mq 134 8, oq 135 (.slT (tq 133) (some (tq 134)) none), mq 136 1, cq 137 177 [(tq 135), (tq 136)], mq 13 137])
 (.seq (.seq (.reg [mq 138 13, oq 139 (.bin 0 .lss (tq 138) (nq 0))])
 (.cond (tq 139)
 (.seq (.reg [kq 4 (-1)])
 .ret)
 .skip))
 (.seq (.reg [mq 140 8, mq 141 13, oq 142 (.bin 0 .add (tq 140) (tq 141)), mq 4 142])
 .ret)))
 .skip))))))))))))
 (.seq (.reg [kq 4 (-1)])
 .ret))))))))))) := by kernel_rfl
theorem b171 : bodyM Tryz.prog [] 171 = some (28, [],
 (.seq (.reg [mq 4 0, oq 5 (.lnS (tq 4)), oq 6 (.bin 0 .sub (tq 5) (nq 1)), kq 2 0, mq 3 6])
 (.block 0
 (.loop
 (.seq (.seq (.reg [mq 7 2, mq 8 3, oq 9 (.bin 0 .lss (tq 7) (tq 8))])
 (.cond (tq 9)
 .skip
 (.exit 0)))
 (.seq (.block 1
 (.reg [mq 14 0, mq 15 2, mq 16 0, mq 17 3, mq 18 0, mq 19 3, iq 20 1 18 19, lq 21 20, mq 22 0, mq 23 2, iq 24 1 22 23, lq 25 24, iq 26 1 14 15, sq 1 26 21, iq 27 1 16 17, sq 1 27 25]))
 (.reg [mq 10 2, oq 11 (.bin 0 .add (tq 10) (nq 1)), mq 12 3, oq 13 (.bin 0 .sub (tq 12) (nq 1)), mq 2 11, mq 3 13]))))))) := by kernel_rfl
theorem b172 : bodyM Tryz.prog [] 172 = some (19, [(.tmp 4)],
 (.seq (.reg [kq 4 0])
 (.seq (.seq (.reg [mq 6 0, oq 7 (.lnS (tq 6)), kq 8 0])
 (.block 0
 (.loop
 (.seq (.reg [oq 9 (.bin 0 .lss (tq 8) (tq 7))])
 (.seq (.cond (tq 9)
 .skip
 (.exit 0))
 (.seq (.block 1
 (.seq (.reg [mq 10 8, mq 5 10])
 (.seq (.reg [mq 11 1, mq 12 0, mq 13 5, iq 14 1 12 13, lq 15 14, ⟨(some 16), (.call (tq 11) [(tq 15)]), none⟩])
 (.cond (tq 16)
 (.seq (.reg [mq 17 5, mq 4 17])
 .ret)
 .skip))))
 (.reg [oq 18 (.bin 0 .add (tq 8) (nq 1)), mq 8 18])))))))
 (.seq (.reg [kq 4 (-1)])
 .ret)))) := by kernel_rfl
theorem b173 : bodyM Tryz.prog [] 173 = some (39, [],
 (.seq (.reg [lq 5 1, oq 6 (.nck (tq 5)), fq 7 4 6, lq 8 7, oq 9 (.lnS (tq 8)), mq 3 9])
 (.block 0
 (.loop
 (.seq (.seq (.reg [mq 10 3, oq 11 (.bin 0 .gtr (tq 10) (nq 0))])
 (.cond (tq 11)
 .skip
 (.exit 0)))
 (.seq (.block 1
 (.seq (.reg [lq 17 1, oq 18 (.nck (tq 17)), fq 19 4 18, lq 20 19, mq 21 3, oq 22 (.bin 0 .sub (tq 21) (nq 1)), iq 23 1 20 22, lq 24 23, mq 4 24])
 (.seq (.reg [lq 25 1, lq 26 1, oq 27 (.nck (tq 26)), fq 28 4 27, lq 29 28, mq 30 3, oq 31 (.bin 0 .sub (tq 30) (nq 1)), oq 32 (.slL 1 (tq 29) none (some (tq 31))), oq 33 (.nck (tq 25)), fq 34 4 33, sq 1 34 32])
 (.seq (.reg [mq 35 0, mq 36 4, ⟨(some 37), (.call (tq 35) [(tq 36)]), none⟩, oq 38 (.un .not (tq 37))])
 (.cond (tq 38)
 .ret
 .skip)))))
 (.reg [lq 12 1, oq 13 (.nck (tq 12)), fq 14 4 13, lq 15 14, oq 16 (.lnS (tq 15)), mq 3 16]))))))) := by kernel_rfl
end Go.Mm
end
