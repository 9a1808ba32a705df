/- Part 38 of the proof: Lr. -/
import Derived.Test.YtfmnflhggplkmaaGreatDoorU32
set_option linter.all false
namespace Go.Known
open Go Go.AE Go.Proofs
set_option maxRecDepth 100000
def ahHFrames:AFn:=⟨112,[(6,none)],(sr [bo 3 0,bo 4 1,mfZ 6]
 (.seq (sr [lw 11 3 3,ca1 12 7 11,no 13 12]
 (.cond (tZ 13) (sr [oZ 14 (.call (.fn 8) []),mv 6 14]
 .ret)
 .skip))
 (sr [mv 16 2,ca1 17 9 16,mv 15 17,ex 18 15 0,ex 19 15 1,oZ 7 (.alloc [.nilSl,(.int .i64 0),(.int .i64 0)]),so 3 7 18,mv 8 19]
 (.seq (.seq (.region true [lw 20 3 3,ca1 21 10 20,⟨(some 22),.load (some 3) (tZ 3),none,[1]⟩,ca1 23 11 22,oZ 24 (.bin .neq .bool (tZ 21) (tZ 23)),mv 25 24,gZ 26 25 false (.load (some 3) (tZ 3)),gZ 27 25 false (.load (some 3) (tZ 4)),gZ 28 25 false (.call (.fn 12) [tZ 26,tZ 27]),⟨(some 29),.load (some 3) (tZ 3),(some (25,false)),[8]⟩,⟨(some 30),.load (some 3) (tZ 4),(some (25,false)),[8]⟩,gZ 31 25 false (.call (.fn 13) [tZ 29,tZ 30]),gZ 32 25 false (.bin .neq .num (tZ 28) (tZ 31)),pk1 33 25 32])
 (.cond (tZ 33) (sr [mfZ 6]
 .ret)
 .skip))
 (.seq (sr [mv 34 2,cLk 35 34 0,mv 36 35,gfm 37 36 2,gZ 38 36 false (.bin .gtr .num (tZ 37) (kZ 4)),pk1 39 36 38]
 (.cond (tZ 39) (sr [mv 40 8,cEk 41 40 2,mv 42 41,gtf 43 42 0 7,gtl 44 42 43,gZ 45 42 true (.lenSl (tZ 44)),gZ 46 42 true (.bin .eql .num (tZ 45) (kZ 0)),pk0 47 42 46,mv 48 47,gtf 49 48 1 7,gtl 50 48 49,gZ 51 48 true (.bin .eql .num (tZ 50) (kZ 0)),pk0 52 48 51,mv 53 52,gtf 54 53 2 7,gtl 55 53 54,gZ 56 53 true (.bin .eql .num (tZ 55) (kZ 0)),pk0 57 53 56,mv 58 57,gZ 59 58 true (.call (.fn 8) []),pk0 60 58 59,mv 6 60]
 .ret)
 .skip))
 (sr [mv 61 2,ca1 62 14 61,oZ 9 (.alloc [.nilSl,(.int .i64 0),(.int .i64 0)]),so 3 9 62]
 (.seq (sr [mv 63 8,cNk 64 63 0,mv 65 64,gff 66 65 0 7,gfl 67 65 66,gZ 68 65 false (.lenSl (tZ 67)),gff 69 65 0 9,gfl 70 65 69,gZ 71 65 false (.lenSl (tZ 70)),gZ 72 65 false (.bin .neq .num (tZ 68) (tZ 71)),pk1 73 65 72,mv 74 73,gff 75 74 1 7,gfl 76 74 75,gff 77 74 1 9,gfl 78 74 77,gZ 79 74 false (.bin .neq .num (tZ 76) (tZ 78)),pk1 80 74 79,mv 81 80,gff 82 81 2 7,gfl 83 81 82,gff 84 81 2 9,gfl 85 81 84,gZ 86 81 false (.bin .neq .num (tZ 83) (tZ 85)),pk1 87 81 86,mv 88 87,gZ 89 88 false (.load (some 3) (tZ 7)),gZ 90 88 false (.call (.fn 10) [tZ 89]),gZ 91 88 false (.un .not (tZ 90)),pk1 92 88 91]
 (.cond (tZ 92) (sr [mfZ 6]
 .ret)
 .skip))
 (.seq (sr [mk 10 0]
 (.block 0 (.loop (.seq (sr [mv 93 10,fa 94 0 7,lo 95 94,le 96 95,cL 97 93 96]
 (.cond (tZ 97) .skip
 (.exit 0)))
 (.seq (.block 1 (.seq (.region true [fa 100 0 7,lo 101 100,mv 102 10,ix 103 3 101 102,lw 104 3 103,fa 105 0 9,lo 106 105,mv 107 10,ix 108 3 106 107,lw 109 3 108,oZ 110 (.bin .neq (.flat [.int,.bool,.int]) (tZ 104) (tZ 109))])
 (.cond (tZ 110) (sr [mfZ 6]
 .ret)
 .skip)))
 (rf [mv 98 10,aDk 99 98 1,mv 10 99]))))))
 (sr [oZ 111 (.call (.fn 8) []),mv 6 111]
 .ret)))))))))⟩
theorem chHFrames:cFn Tryz.prog Tryz.f3=some ahHFrames:=by kernel_rfl
def ahShort:AFn:=⟨7,[(2,none)],(sr [bo 1 0,mfZ 2]
 (sr [fa 3 0 1,lo 4 3,le 5 4,cKk 6 5 60,mv 2 6]
 .ret))⟩
theorem chShort:cFn Tryz.prog Tryz.f7=some ahShort:=by kernel_rfl
def ahIndex:AFn:=⟨10,[(4,none)],(sr [bo 2 0,bo 3 1,mk 4 0]
 (sr [fa 5 0 2,lo 6 5,lw 7 3 3,ca2 8 34 6 7,aDk 9 8 1,mv 4 9]
 .ret))⟩
theorem chIndex:cFn Tryz.prog Tryz.f12=some ahIndex:=by kernel_rfl
def ahRStandard:AFn:=⟨38,[(2,(some (some 3)))],(sr [oZ 2 (.alloc [.nilSl,(.int .i64 0),(.int .i64 0)])]
 (sr [oZ 7 (.build [.nilSl,(.int .i64 0),(.int .i64 0)] [(1,1,kZ 6),(2,1,kZ 4)]),oZ 3 (.alloc [.nilSl,(.int .i64 0),(.int .i64 0)]),so 3 3 7]
 (.seq (sr [mk 4 1]
 (.block 0 (.loop (.seq (sr [mv 8 4,mv 9 0,cK 10 8 9]
 (.cond (tZ 10) .skip
 (.exit 0)))
 (.seq (.block 1 (.seq (sr [mk 5 1]
 (.block 2 (.loop (.seq (sr [mv 13 5,cKk 14 13 5]
 (.cond (tZ 14) .skip
 (.exit 2)))
 (.seq (.block 3 (rf [fa 17 0 3,lo 18 17,mv 19 4,mv 20 5,oZ 21 (.build [(.int .i64 0),(.bool false),(.int .i64 0)] [(0,1,tZ 19),(2,1,tZ 20)]),oZ 22 (.mkSl 3 1 [(.int .i64 0),(.bool false),(.int .i64 0)] [(0,tZ 21)]),oZ 23 (.append 3 24 [(.int .i64 0),(.bool false),(.int .i64 0)] (tZ 18) (tZ 22)),fa 24 0 3,so 1 24 23]))
 (rf [mv 15 5,aDk 16 15 1,mv 5 16]))))))
 (sr [mk 6 5]
 (.block 4 (.loop (.seq (sr [mv 25 6,cHk 26 25 1]
 (.cond (tZ 26) .skip
 (.exit 4)))
 (.seq (.block 5 (rf [fa 29 0 3,lo 30 29,mv 31 4,mv 32 6,oZ 33 (.build [(.int .i64 0),(.bool false),(.int .i64 0)] [(0,1,tZ 31),(1,1,bZ true),(2,1,tZ 32)]),oZ 34 (.mkSl 3 1 [(.int .i64 0),(.bool false),(.int .i64 0)] [(0,tZ 33)]),oZ 35 (.append 3 24 [(.int .i64 0),(.bool false),(.int .i64 0)] (tZ 30) (tZ 34)),fa 36 0 3,so 1 36 35]))
 (rf [mv 27 6,aSk 28 27 1,mv 6 28]))))))))
 (rf [mv 11 4,aDk 12 11 1,mv 4 12]))))))
 (sr [lw 37 3 3,so 3 2 37]
 .ret))))⟩
theorem chRStandard:cFn Tryz.prog Tryz.f14=some ahRStandard:=by kernel_rfl
def ahParseName:AFn:=⟨34,[(2,(some (some 3))),(3,none)],(sr [oZ 2 (.alloc [(.int .i64 0),(.bool false),(.int .i64 0)]),mk 3 0]
 (.seq (sr [mk 4 1]
 (.block 0 (.loop (.seq (sr [mv 9 4,cKk 10 9 9]
 (.cond (tZ 10) .skip
 (.exit 0)))
 (.seq (.block 1 (sr [mk 5 0]
 (.block 2 (.loop (.seq (sr [mv 13 5,cKk 14 13 6]
 (.cond (tZ 14) .skip
 (.exit 2)))
 (.seq (.block 3 (sr [oZ 17 (.mkSl 1 2 [(.bool false)] [(0,bZ false),(1,bZ true)]),le 18 17,mk 19 0]
 (.block 4 (.loop (sr [cL 20 19 18]
 (.seq (.cond (tZ 20) .skip
 (.exit 4))
 (.seq (.block 5 (sr [ix 21 1 17 19,lo 22 21,mv 7 22]
 (sr [mv 23 4,mv 24 7,mv 25 5,oZ 26 (.build [(.int .i64 0),(.bool false),(.int .i64 0)] [(0,1,tZ 23),(1,1,tZ 24),(2,1,tZ 25)]),oZ 8 (.alloc [(.int .i64 0),(.bool false),(.int .i64 0)]),so 3 8 26]
 (sr [lw 27 3 8,ca1 28 17 27,mv 29 0,cE 30 28 29]
 (.cond (tZ 30) (sr [lw 31 3 8,so 3 2 31,mk 3 0]
 .ret)
 .skip)))))
 (rf [aDk 32 19 1,mv 19 32]))))))))
 (rf [mv 15 5,aDk 16 15 1,mv 5 16])))))))
 (rf [mv 11 4,aDk 12 11 1,mv 4 12]))))))
 (sr [oZ 33 (.build [(.int .i64 0),(.bool false),(.int .i64 0)] []),so 3 2 33,mk 3 6]
 .ret)))⟩
theorem chParseName:cFn Tryz.prog Tryz.f15=some ahParseName:=by kernel_rfl
def ahOpening:AFn:=⟨137,[(4,(some (some 2))),(5,none),(6,none)],(sr [bo 2 0,oZ 4 (.alloc [(.int .i64 0),.nilSl]),mnZ 5,mk 6 0]
 (.seq (sr [lw 20 3 2,ca1 21 10 20,no 22 21]
 (.cond (tZ 22) (sr [oZ 23 (.build [(.int .i64 0),.nilSl] []),so 2 4 23,mnZ 5,mk 6 2]
 .ret)
 .skip))
 (sr [mnZ 7]
 (.seq (sr [mv 24 1]
 (.block 0 (sr [cEk 26 24 1,mv 25 26]
 (.cond (tZ 25) (rf [oZ 27 (.mkSl 1 4 [(.str [])] [(0,(.const (.str [76,49]))),(1,(.const (.str [76,53]))),(2,(.const (.str [82,53]))),(3,(.const (.str [82,49])))]),mv 7 27])
 (.seq (sr [cEk 29 24 2,mv 28 29]
 (.cond (tZ 28) .skip
 (rf [cEk 30 24 3,mv 28 30])))
 (.cond (tZ 28) (rf [oZ 31 (.mkSl 1 6 [(.str [])] [(0,(.const (.str [76,49]))),(1,(.const (.str [76,50]))),(2,(.const (.str [76,53]))),(3,(.const (.str [82,53]))),(4,(.const (.str [82,50]))),(5,(.const (.str [82,49])))]),mv 7 31])
 (sr [cEk 33 24 4,mv 32 33]
 (.cond (tZ 32) (rf [oZ 34 (.mkSl 1 2 [(.str [])] [(0,(.const (.str [76,50]))),(1,(.const (.str [82,50])))]),mv 7 34])
 .skip))))))))
 (sr [oZ 35 (.mkMap),mv 8 35]
 (sr [mk 9 0]
 (.seq (sr [mv 36 7,le 37 36,mk 38 0]
 (.block 1 (.loop (sr [cL 39 38 37]
 (.seq (.cond (tZ 39) .skip
 (.exit 1))
 (.seq (.block 2 (sr [ix 40 1 36 38,lo 41 40,mv 11 41]
 (sr [mv 43 11,ca1 44 15 43,mv 42 44,ex 45 42 0,ex 46 42 1,oZ 12 (.alloc [(.int .i64 0),(.bool false),(.int .i64 0)]),so 3 12 45,mv 13 46]
 (sr [mv 47 8,mv 48 11,lw 49 3 2,lw 50 3 12,ca2 51 12 49 50,pZ (.mapUpd .str (tZ 47) (tZ 48) (tZ 51))]
 (.seq (sr [mv 52 8,mv 53 11,oZ 54 (.lookup .str (.int .i64 0) false (tZ 52) (tZ 53)),mv 55 9,cK 56 54 55]
 (.cond (tZ 56) (sr [oZ 57 (.build [(.int .i64 0),.nilSl] []),so 2 4 57,mnZ 5,mk 6 2]
 .ret)
 .skip))
 (rf [mv 58 8,mv 59 11,oZ 60 (.lookup .str (.int .i64 0) false (tZ 58) (tZ 59)),mv 9 60]))))))
 (rf [aDk 61 38 1,mv 38 61])))))))
 (.seq (sr [mv 62 7,le 63 62,cEk 64 63 0]
 (.cond (tZ 64) (sr [oZ 65 (.build [(.int .i64 0),.nilSl] []),so 2 4 65,mnZ 5,mk 6 2]
 .ret)
 .skip))
 (.seq (sr [mv 66 1,cEk 67 66 4]
 (.cond (tZ 67) (sr [lw 69 3 2,mv 70 8,oZ 71 (.lookup .str (.int .i64 0) false (tZ 70) (.const (.str [76,50]))),mv 72 8,oZ 73 (.lookup .str (.int .i64 0) false (tZ 72) (.const (.str [82,50]))),oZ 74 (.mkSl 1 2 [(.int .i64 0)] [(0,tZ 71),(1,tZ 73)]),ca2 75 19 69 74,mv 68 75,ex 76 68 0,ex 77 68 1,oZ 14 (.alloc [(.int .i64 0),.nilSl]),so 2 14 76,mv 15 77]
 (sr [lw 78 2 14,mv 79 15,so 2 4 78,mnZ 5,mv 6 79]
 .ret))
 .skip))
 (sr [lw 81 3 2,mv 82 8,oZ 83 (.lookup .str (.int .i64 0) false (tZ 82) (.const (.str [76,49]))),mv 84 8,oZ 85 (.lookup .str (.int .i64 0) false (tZ 84) (.const (.str [76,53]))),mv 86 8,oZ 87 (.lookup .str (.int .i64 0) false (tZ 86) (.const (.str [82,53]))),mv 88 8,oZ 89 (.lookup .str (.int .i64 0) false (tZ 88) (.const (.str [82,49]))),oZ 90 (.mkSl 1 4 [(.int .i64 0)] [(0,tZ 83),(1,tZ 85),(2,tZ 87),(3,tZ 89)]),ca2 91 19 81 90,mv 80 91,ex 92 80 0,ex 93 80 1,oZ 16 (.alloc [(.int .i64 0),.nilSl]),so 2 16 92,mv 17 93]
 (sr [oZ 18 (.mov (.fn 41))]
 (sr [oZ 19 (.mov (.fn 42))]
 (.seq (sr [mv 94 1]
 (.block 3 (sr [cEk 96 94 2,mv 95 96]
 (.cond (tZ 95) (.seq (.region true [lw 97 2 16,mv 98 18,mv 99 8,oZ 100 (.lookup .str (.int .i64 0) false (tZ 99) (.const (.str [82,50]))),mv 101 8,oZ 102 (.lookup .str (.int .i64 0) false (tZ 101) (.const (.str [82,53]))),mv 103 8,oZ 104 (.lookup .str (.int .i64 0) false (tZ 103) (.const (.str [76,53]))),⟨(some 105),.call (tZ 98) [tZ 100,tZ 102,tZ 104],none,[0]⟩,mv 106 19,mv 107 8,⟨(some 108),.lookup .str (.int .i64 0) false (tZ 107) (.const (.str [76,50])),none,[8]⟩,mv 109 8,⟨(some 110),.lookup .str (.int .i64 0) false (tZ 109) (.const (.str [82,53])),none,[8]⟩,⟨(some 111),.call (tZ 106) [tZ 108,tZ 110],none,[0]⟩,⟨(some 112),.mkSl 8 1 [(.int .i64 0),(.int .i64 0),(.int .i64 0),(.int .i64 0),(.bool false),(.int .i64 0),.nilSl,(.bool false)] [(0,tZ 111)],none,[0]⟩,⟨(some 113),.append 8 80 [(.int .i64 0),(.int .i64 0),(.int .i64 0),(.int .i64 0),(.bool false),(.int .i64 0),.nilSl,(.bool false)] (tZ 105) (tZ 112),none,[0]⟩,mv 114 17,so 2 4 97,mv 5 113,mv 6 114])
 .ret)
 (sr [cEk 116 94 3,mv 115 116]
 (.cond (tZ 115) (.seq (.region true [lw 117 2 16,mv 118 18,mv 119 8,oZ 120 (.lookup .str (.int .i64 0) false (tZ 119) (.const (.str [76,50]))),mv 121 8,oZ 122 (.lookup .str (.int .i64 0) false (tZ 121) (.const (.str [76,53]))),mv 123 8,oZ 124 (.lookup .str (.int .i64 0) false (tZ 123) (.const (.str [82,53]))),⟨(some 125),.call (tZ 118) [tZ 120,tZ 122,tZ 124],none,[0]⟩,mv 126 19,mv 127 8,⟨(some 128),.lookup .str (.int .i64 0) false (tZ 127) (.const (.str [82,50])),none,[8]⟩,mv 129 8,⟨(some 130),.lookup .str (.int .i64 0) false (tZ 129) (.const (.str [76,53])),none,[8]⟩,⟨(some 131),.call (tZ 126) [tZ 128,tZ 130],none,[0]⟩,⟨(some 132),.mkSl 8 1 [(.int .i64 0),(.int .i64 0),(.int .i64 0),(.int .i64 0),(.bool false),(.int .i64 0),.nilSl,(.bool false)] [(0,tZ 131)],none,[0]⟩,⟨(some 133),.append 8 80 [(.int .i64 0),(.int .i64 0),(.int .i64 0),(.int .i64 0),(.bool false),(.int .i64 0),.nilSl,(.bool false)] (tZ 125) (tZ 132),none,[0]⟩,mv 134 17,so 2 4 117,mv 5 133,mv 6 134])
 .ret)
 .skip))))))
 (sr [lw 135 2 16,mv 136 17,so 2 4 135,mnZ 5,mv 6 136]
 .ret))))))))))))))⟩
theorem chOpening:cFn Tryz.prog Tryz.f25=some ahOpening:=by kernel_rfl
def ahOp1:AFn:=⟨18,[(6,none)],(sr [mnZ 6]
 (sr [mv 8 1,oZ 9 (.build [(.int .i64 0),(.int .i64 0),(.bool false),(.int .i64 0)] [(0,1,tZ 8),(1,1,kZ 1)]),oZ 10 (.build [(.int .i64 0),(.int .i64 0),(.bool false),(.int .i64 0),(.bool false)] [(0,4,tZ 9),(4,1,bZ true)]),oZ 11 (.mkSl 5 1 [(.int .i64 0),(.int .i64 0),(.bool false),(.int .i64 0),(.bool false)] [(0,tZ 10)]),mv 7 11]
 (sr [mv 12 0,mv 13 2,oZ 14 (.build [(.int .i64 0),(.int .i64 0),(.bool false),(.int .i64 0)] [(0,1,tZ 13),(1,1,kZ 1)]),mv 15 7,oZ 16 (.build [(.int .i64 0),(.int .i64 0),(.int .i64 0),(.int .i64 0),(.bool false),(.int .i64 0),.nilSl,(.bool false)] [(0,1,kZ 3),(1,1,tZ 12),(2,4,tZ 14),(6,1,tZ 15)]),oZ 17 (.mkSl 8 1 [(.int .i64 0),(.int .i64 0),(.int .i64 0),(.int .i64 0),(.bool false),(.int .i64 0),.nilSl,(.bool false)] [(0,tZ 16)]),mv 6 17]
 .ret)))⟩
theorem chOp1:cFn Tryz.prog Tryz.f41=some ahOp1:=by kernel_rfl
def ahOp2:AFn:=⟨9,[(4,(some (some 8)))],(sr [oZ 4 (.alloc [(.int .i64 0),(.int .i64 0),(.int .i64 0),(.int .i64 0),(.bool false),(.int .i64 0),.nilSl,(.bool false)])]
 (sr [mv 5 0,mv 6 1,oZ 7 (.build [(.int .i64 0),(.int .i64 0),(.bool false),(.int .i64 0)] [(0,1,tZ 6),(1,1,kZ 1),(3,1,kZ 1)]),oZ 8 (.build [(.int .i64 0),(.int .i64 0),(.int .i64 0),(.int .i64 0),(.bool false),(.int .i64 0),.nilSl,(.bool false)] [(0,1,kZ 3),(1,1,tZ 5),(2,4,tZ 7)]),so 8 4 8]
 .ret))⟩
theorem chOp2:cFn Tryz.prog Tryz.f42=some ahOp2:=by kernel_rfl
end Go.Known
