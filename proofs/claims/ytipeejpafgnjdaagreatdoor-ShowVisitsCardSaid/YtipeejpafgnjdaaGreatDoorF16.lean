/- Part 16 of the proof: Kf0, Kf1, Ln, Lm. -/
import Derived.Test.YtipeejpafgnjdaaGreatDoorF15
set_option linter.all false
section
namespace Go.Known
open Go Go.AE Go.Proofs
def af5:AFn:=⟨147,[(0,none)],(sr [mfZ 0]
 (sr [oZ 22 (.call (.fn 44) []),mv 21 22,ex 23 21 0,ex 24 21 1,oZ 1 (.alloc [.nilSl,(.int .i64 0),(.int .i64 0)]),oZ 2 (.alloc [(.int .i64 0),.nilSl]),so 3 1 23,so 2 2 24]
 (sr [lw 26 2 2,ca1 27 14 26,mv 25 27,ex 28 25 0,ex 29 25 1,oZ 3 (.alloc [(.int .i64 0),.nilSl,.nilSl,.nilSl]),so 4 3 28,mv 4 29]
 (sr [lw 31 4 3,ca1 32 45 31,mv 30 32,ex 33 30 0,ex 34 30 1,mv 5 33,mv 6 34]
 (sr [lw 36 4 3,ca1 37 46 36,mv 35 37,ex 38 35 0,ex 39 35 1,oZ 7 (.alloc [(.int .i64 0),.nilSl]),so 2 7 38,mv 8 39]
 (.seq (sr [mv 40 4,cNk 41 40 0,mv 42 41,gfm 43 42 6,gZ 44 42 false (.bin .neq .num (tZ 43) (kZ 0)),pk1 45 42 44,mv 46 45,gfm 47 46 8,gZ 48 46 false (.bin .neq .num (tZ 47) (kZ 0)),pk1 49 46 48,mv 50 49,gfm 51 50 5,gZ 52 50 false (.mkSl 1 5 [(.str [])] [(0,(.const (.str [94,32,94]))),(1,(.const (.str [124,32,94,32,94,32,124]))),(2,(.const (.str [124,32,49,32,124,32,124,32,50,32,124]))),(3,(.const (.str [118,32,118,32,124,32,124]))),(4,(.const (.str [118,32,118])))]),gZ 53 50 false (.call (.fn 47) [(tZ 51),(tZ 52)]),gZ 54 50 false (.un .not (tZ 53)),pk1 55 50 54,mv 56 55,gZ 57 56 false (.load (some 2) (tZ 7)),gZ 58 56 false (.load (some 2) (tZ 2)),gZ 59 56 false (.call (.fn 48) [(tZ 57),(tZ 58)]),gZ 60 56 false (.un .not (tZ 59)),pk1 61 56 60]
 (.cond (tZ 61) (sr [mfZ 0]
 .ret)
 .skip))
 (sr [oZ 62 (.build [(.int .i64 0),(.int .i64 0),(.int .i64 0),(.int .i64 0),(.int .i64 0),(.bool false)] [(0,1,(kZ 2)),(3,1,(kZ 1)),(4,1,(kZ 1)),(5,1,(bZ true))]),oZ 9 (.alloc [(.int .i64 0),(.int .i64 0),(.int .i64 0),(.int .i64 0),(.int .i64 0),(.bool false)]),so 6 9 62]
 (sr [lw 63 6 9,oZ 10 (.alloc [(.int .i64 0),(.int .i64 0),(.int .i64 0),(.int .i64 0),(.int .i64 0),(.bool false)]),so 6 10 63]
 (sr [fa 64 5 10,pZ (.store 1 (tZ 64) (bZ false))]
 (.seq (.region true [oZ 66 (.call (.fn 49) [(kZ 0),(kZ 1)]),⟨(some 67),.load (some 6) (tZ 10),none,[0]⟩,⟨(some 68),.load (some 6) (tZ 9),none,[0]⟩,⟨(some 69),.call (.fn 49) [(kZ 1),(kZ 1)],none,[1,2]⟩,oZ 70 (.mkSl 6 4 [(.int .i64 0),(.int .i64 0),(.int .i64 0),(.int .i64 0),(.int .i64 0),(.bool false)] [(0,(tZ 66)),(1,(tZ 67)),(2,(tZ 68)),(3,(tZ 69))]),oZ 71 (.build [(.int .i64 0),.nilSl] [(0,1,(kZ 2)),(1,1,(tZ 70))]),ca1 72 14 71,mv 65 72,ex 73 65 0,ex 74 65 1,⟨(some 11),.alloc [(.int .i64 0),.nilSl,.nilSl,.nilSl],none,[0,1,2,3,4,6]⟩,so 4 11 73,mv 12 74])
 (.seq (sr [mv 75 12,cNk 76 75 0,mv 77 76,gff 78 77 2 11,gfl 79 77 78,gZ 80 77 false (.lenSl (tZ 79)),gZ 81 77 false (.bin .neq .num (tZ 80) (kZ 1)),pk1 82 77 81,mv 83 82,gff 84 83 3 11,gfl 85 83 84,gZ 86 83 false (.lenSl (tZ 85)),gZ 87 83 false (.bin .neq .num (tZ 86) (kZ 3)),pk1 88 83 87,mv 89 88,gff 90 89 3 11,gfl 91 89 90,gZ 92 89 false (.idxA 4 (tZ 91) (kZ 0)),gZ 93 89 false (.load (some 4) (tZ 92)),gZ 94 89 false (.build [(.int .i64 0),(.int .i64 0),(.int .i64 0),(.bool false)] [(0,1,(kZ 2)),(2,1,(kZ 1)),(3,1,(bZ true))]),gZ 95 89 false (.bin .neq (.flat [.int,.int,.int,.bool]) (tZ 93) (tZ 94)),pk1 96 89 95,mv 97 96,gff 98 97 3 11,gfl 99 97 98,gZ 100 97 false (.idxA 4 (tZ 99) (kZ 1)),gZ 101 97 false (.load (some 4) (tZ 100)),gZ 102 97 false (.build [(.int .i64 0),(.int .i64 0),(.int .i64 0),(.bool false)] [(0,1,(kZ 1)),(1,1,(kZ 1))]),gZ 103 97 false (.bin .neq (.flat [.int,.int,.int,.bool]) (tZ 101) (tZ 102)),pk1 104 97 103]
 (.cond (tZ 104) (sr [mfZ 0]
 .ret)
 .skip))
 (sr [lw 106 3 1,lw 107 2 2,oZ 108 (.build [(.int .i64 0),(.bool false),(.int .i64 0)] [(0,1,(kZ 2)),(2,1,(kZ 1))]),oZ 109 (.mkSl 3 1 [(.int .i64 0),(.bool false),(.int .i64 0)] [(0,(tZ 108))]),oZ 110 (.build [(.int .i64 0),(.int .i64 0)] [(0,1,(kZ 1)),(1,1,(kZ 1))]),oZ 111 (.call (.fn 36) [(tZ 106),(tZ 107),(tZ 109),(tZ 110)]),mv 105 111,ex 112 105 0,ex 113 105 1,ex 114 105 2,oZ 13 (.alloc [.nilSl,(.int .i64 0),(.int .i64 0)]),oZ 14 (.alloc [(.int .i64 0),.nilSl]),so 3 13 112,so 2 14 113,mv 15 114]
 (sr [lw 116 3 1,lw 117 2 2,oZ 118 (.call (.fn 24) [(tZ 116),(tZ 117),(kZ 1)]),mv 115 118,ex 119 115 0,ex 120 115 1,ex 121 115 2,oZ 16 (.alloc [.nilSl,(.int .i64 0),(.int .i64 0)]),oZ 17 (.alloc [(.int .i64 0),.nilSl]),so 3 16 119,so 2 17 120,mv 18 121]
 (sr [lw 123 2 2,ca1 124 19 123,mv 122 124,ex 125 122 0,ex 126 122 1,mv 19 125,mv 20 126]
 (sr [mv 127 15,cEk 128 127 0,mv 129 128,gtm 130 129 18,gZ 131 129 true (.bin .eql .num (tZ 130) (kZ 5)),pk0 132 129 131,mv 133 132,gtm 134 133 20,gZ 135 133 true (.bin .eql .num (tZ 134) (kZ 0)),pk0 136 133 135,mv 137 136,gtm 138 137 19,gZ 139 137 true (.lenSl (tZ 138)),gZ 140 137 true (.bin .eql .num (tZ 139) (kZ 4)),pk0 141 137 140,mv 142 141,gZ 143 142 true (.load (some 2) (tZ 14)),gZ 144 142 true (.call (.fn 50) [(tZ 143)]),gZ 145 142 true (.bin .eql .num (tZ 144) (.const (.str [51,58,32,48,46,49,32,49,46,49,32,50,46,49,32,51,46,49]))),pk0 146 142 145,mv 0 146]
 .ret)))))))))))))))⟩
theorem cf5:cFn Tryz.prog Tryz.f13=some af5:=by kernel_rfl
theorem gd5:GD 13 af5:=gG Tryz.func13 cf5 (by kernel_rfl)
def af6:AFn:=⟨49,[(2,(some (some 4))),(3,none)],(sr [bo 1 0,oZ 2 (.alloc [(.int .i64 0),.nilSl,.nilSl,.nilSl]),mk 3 0]
 (sr [lw 10 2 1,ca1 11 28 10,mv 9 11,ex 12 9 0,ex 13 9 1,oZ 4 (.alloc [(.int .i64 0),.nilSl]),so 2 4 12,mv 5 13]
 (.seq (sr [mv 14 5,cNk 15 14 0]
 (.cond (tZ 15) (sr [oZ 16 (.build [(.int .i64 0),.nilSl,.nilSl,.nilSl] []),mv 17 5,so 4 2 16,mv 3 17]
 .ret)
 .skip))
 (.seq (.region true [fa 18 0 1,lo 19 18,fa 20 0 1,lo 21 20,aDk 22 21 1,⟨(some 23),.makeSl 1 8 [(.int .i64 0)] (tZ 22) (tZ 22),none,[1]⟩,⟨(some 24),.load (some 2) (tZ 1),none,[5]⟩,⟨(some 25),.call (.fn 51) [(tZ 24)],none,[1,3,5]⟩,⟨(some 26),.load (some 2) (tZ 4),none,[5,7]⟩,⟨(some 27),.call (.fn 51) [(tZ 26)],none,[1,3,5]⟩,oZ 28 (.build [(.int .i64 0),.nilSl,.nilSl,.nilSl] [(0,1,(tZ 19)),(1,1,(tZ 23)),(2,1,(tZ 25)),(3,1,(tZ 27))]),⟨(some 6),.alloc [(.int .i64 0),.nilSl,.nilSl,.nilSl],none,[1,3,5,6,7,8,9]⟩,so 4 6 28])
 (.seq (sr [fa 29 1 1,lo 30 29,le 31 30,mk 32 0]
 (.block 0 (.loop (sr [cL 33 32 31]
 (.seq (.cond (tZ 33) .skip
 (.exit 0))
 (.seq (.block 1 (sr [ix 34 6 30 32,lw 35 6 34,oZ 8 (.alloc [(.int .i64 0),(.int .i64 0),(.int .i64 0),(.int .i64 0),(.int .i64 0),(.bool false)]),so 6 8 35]
 (sr [fa 36 0 8,lo 37 36,cEk 38 37 1]
 (.cond (tZ 38) (rf [fa 39 1 6,lo 40 39,fa 41 1 8,lo 42 41,ix 43 1 40 42,lo 44 43,aDk 45 44 1,ix 46 1 40 42,so 1 46 45])
 .skip))))
 (rf [aDk 47 32 1,mv 32 47])))))))
 (sr [lw 48 4 6,so 4 2 48,mk 3 0]
 .ret))))))⟩
theorem cf6:cFn Tryz.prog Tryz.f14=some af6:=by kernel_rfl
theorem gd6:GD 14 af6:=gG Tryz.func14 cf6 (by kernel_rfl)
def af9:AFn:=⟨43,[(4,(some (some 2))),(5,none)],(sr [bo 2 0,bo 3 1,oZ 4 (.alloc [(.int .i64 0),.nilSl]),mk 5 0]
 (.seq (sr [lw 9 2 2,ca1 10 56 9,mv 6 10]
 (sr [mv 11 6,cNk 12 11 0]
 (.cond (tZ 12) (sr [oZ 13 (.build [(.int .i64 0),.nilSl] []),mv 14 6,so 2 4 13,mv 5 14]
 .ret)
 .skip)))
 (sr [fa 15 1 2,lo 16 15,ca1 17 57 16,fa 18 1 2,so 1 18 17]
 (.seq (sr [oZ 19 (.mkSl 1 3 [.nilFunc] [(0,(.fn 27)),(1,(.fn 58)),(2,(.fn 28))]),le 20 19,mk 21 0]
 (.block 0 (.loop (sr [cL 22 21 20]
 (.seq (.cond (tZ 22) .skip
 (.exit 0))
 (.seq (.block 1 (sr [mv 23 21,ix 24 1 19 21,lo 25 24,mv 7 23,mv 8 25]
 (sr [fa 26 0 3,lo 27 26,fa 28 1 3,lo 29 28,fa 30 2 3,lo 31 30,oZ 32 (.build [(.bool false),(.bool false),(.bool false)] [(0,1,(tZ 27)),(1,1,(tZ 29)),(2,1,(tZ 31))]),mv 33 7,oZ 34 (.idxArr 3 1 none (tZ 32) (tZ 33))]
 (.cond (tZ 34) (rf [mv 36 8,lw 37 2 2,oZ 38 (.call (tZ 36) [(tZ 37)]),mv 35 38,ex 39 35 0,ex 40 35 1,so 2 2 39])
 .skip))))
 (rf [aDk 41 21 1,mv 21 41])))))))
 (sr [lw 42 2 2,so 2 4 42,mk 5 0]
 .ret)))))⟩
theorem cf9:cFn Tryz.prog Tryz.f18=some af9:=by kernel_rfl
theorem gd9:GD 18 af9:=gG Tryz.func18 cf9 (by kernel_rfl)
def af10:AFn:=⟨49,[(2,none),(3,none)],(sr [bo 1 0,mnZ 2,mk 3 0]
 (.seq (sr [lw 12 2 1,ca1 13 56 12,mv 4 13]
 (sr [mv 14 4,cNk 15 14 0]
 (.cond (tZ 15) (sr [mv 16 4,mnZ 2,mv 3 16]
 .ret)
 .skip)))
 (sr [mnZ 5]
 (.seq (sr [mk 17 0]
 (.block 0 (.loop (sr [cLk 18 17 8]
 (.seq (.cond (tZ 18) .skip
 (.exit 0))
 (.seq (.block 1 (sr [mv 19 17,mv 6 19]
 (sr [mv 20 6,oZ 21 (.bin .and .num (tZ 20) (kZ 4)),cNk 22 21 0,mv 23 6,oZ 24 (.bin .and .num (tZ 23) (kZ 2)),cNk 25 24 0,mv 26 6,oZ 27 (.bin .and .num (tZ 26) (kZ 1)),cNk 28 27 0,oZ 29 (.build [(.bool false),(.bool false),(.bool false)] [(0,1,(tZ 22)),(1,1,(tZ 25)),(2,1,(tZ 28))]),oZ 7 (.alloc [(.bool false),(.bool false),(.bool false)]),so 3 7 29]
 (sr [lw 31 2 1,lw 32 3 7,ca2 33 18 31 32,mv 30 33,ex 34 30 0,ex 35 30 1,oZ 8 (.alloc [(.int .i64 0),.nilSl]),so 2 8 34,mv 9 35]
 (sr [lw 37 2 1,lw 38 2 8,ca2 39 59 37 38,mv 36 39,ex 40 36 0,ex 41 36 1,mv 10 40,mv 11 41]
 (sr [mv 42 10]
 (.cond (tZ 42) (rf [mv 43 5,lw 44 3 7,oZ 45 (.mkSl 3 1 [(.bool false),(.bool false),(.bool false)] [(0,(tZ 44))]),oZ 46 (.append 3 3 [(.bool false),(.bool false),(.bool false)] (tZ 43) (tZ 45)),mv 5 46])
 .skip)))))))
 (rf [aDk 47 17 1,mv 17 47])))))))
 (sr [mv 48 5,mv 2 48,mk 3 0]
 .ret)))))⟩
theorem cf10:cFn Tryz.prog Tryz.f19=some af10:=by kernel_rfl
theorem gd10:GD 19 af10:=gG Tryz.func19 cf10 (by kernel_rfl)
def af12:AFn:=⟨38,[(4,none)],(sr [bo 2 0,bo 3 1,mfZ 4]
 (.seq (sr [fa 6 0 2,lo 7 6,fa 8 0 3,lo 9 8,cN 10 7 9,mv 11 10,gff 12 11 1 2,gfl 13 11 12,gZ 14 11 false (.lenSl (tZ 13)),gff 15 11 1 3,gfl 16 11 15,gZ 17 11 false (.lenSl (tZ 16)),gZ 18 11 false (.bin .neq .num (tZ 14) (tZ 17)),pk1 19 11 18]
 (.cond (tZ 19) (sr [mfZ 4]
 .ret)
 .skip))
 (.seq (sr [mk 5 0]
 (.block 0 (.loop (.seq (sr [mv 20 5,fa 21 1 2,lo 22 21,le 23 22,cL 24 20 23]
 (.cond (tZ 24) .skip
 (.exit 0)))
 (.seq (.block 1 (.seq (.region true [fa 27 1 2,lo 28 27,mv 29 5,ix 30 6 28 29,lw 31 6 30,fa 32 1 3,lo 33 32,mv 34 5,ix 35 6 33 34,lw 36 6 35,oZ 37 (.bin .neq (.flat [.int,.int,.int,.int,.int,.bool]) (tZ 31) (tZ 36))])
 (.cond (tZ 37) (sr [mfZ 4]
 .ret)
 .skip)))
 (rf [mv 25 5,aDk 26 25 1,mv 5 26]))))))
 (sr [mtZ 4]
 .ret))))⟩
theorem cf12:cFn Tryz.prog Tryz.f21=some af12:=by kernel_rfl
theorem gd12:GD 21 af12:=gG Tryz.func21 cf12 (by kernel_rfl)
def af18:AFn:=⟨14,[(0,(some (some 3))),(1,(some (some 2)))],(sr [oZ 0 (.alloc [.nilSl,(.int .i64 0),(.int .i64 0)]),oZ 1 (.alloc [(.int .i64 0),.nilSl])]
 (sr [oZ 3 (.build [(.int .i64 0),(.bool false),(.int .i64 0)] [(0,1,(kZ 1)),(2,1,(kZ 1))]),oZ 4 (.build [(.int .i64 0),(.bool false),(.int .i64 0)] [(0,1,(kZ 1)),(1,1,(bZ true)),(2,1,(kZ 1))]),oZ 5 (.mkSl 3 2 [(.int .i64 0),(.bool false),(.int .i64 0)] [(0,(tZ 3)),(1,(tZ 4))]),oZ 6 (.build [.nilSl,(.int .i64 0),(.int .i64 0)] [(0,1,(tZ 5)),(1,1,(kZ 6)),(2,1,(kZ 4))]),oZ 2 (.alloc [.nilSl,(.int .i64 0),(.int .i64 0)]),so 3 2 6]
 (.seq (.region true [lw 7 3 2,⟨(some 8),.call (.fn 49) [(kZ 0),(kZ 1)],none,[0]⟩,⟨(some 9),.call (.fn 49) [(kZ 1),(kZ 1)],none,[0]⟩,⟨(some 10),.call (.fn 49) [(kZ 1),(kZ 2)],none,[0]⟩,⟨(some 11),.call (.fn 49) [(kZ 2),(kZ 1)],none,[0]⟩,⟨(some 12),.mkSl 6 4 [(.int .i64 0),(.int .i64 0),(.int .i64 0),(.int .i64 0),(.int .i64 0),(.bool false)] [(0,(tZ 8)),(1,(tZ 9)),(2,(tZ 10)),(3,(tZ 11))],none,[0]⟩,oZ 13 (.build [(.int .i64 0),.nilSl] [(0,1,(kZ 2)),(1,1,(tZ 12))]),⟨none,.store 3 (tZ 0) (tZ 7),none,[5]⟩,so 2 1 13])
 .ret)))⟩
theorem cf18:cFn Tryz.prog Tryz.f44=some af18:=by kernel_rfl
theorem gd18:GD 44 af18:=gG Tryz.func44 cf18 (by kernel_rfl)
def af19:AFn:=⟨61,[(2,none),(3,none)],(sr [bo 1 0,mnZ 2,mk 3 0]
 (.seq (sr [lw 12 4 1,ca1 13 46 12,mv 11 13,ex 14 11 0,ex 15 11 1,oZ 4 (.alloc [(.int .i64 0),.nilSl]),so 2 4 14,mv 5 15]
 (sr [mv 16 5,cNk 17 16 0]
 (.cond (tZ 17) (sr [mv 18 5,mnZ 2,mv 3 18]
 .ret)
 .skip)))
 (sr [mnZ 6]
 (sr [mk 7 0]
 (.seq (sr [fa 19 1 1,lo 20 19,le 21 20,mk 22 0]
 (.block 0 (.loop (sr [cL 23 22 21]
 (.seq (.cond (tZ 23) .skip
 (.exit 0))
 (.seq (.block 1 (sr [mv 24 22,ix 25 1 20 22,lo 26 25,mv 8 24,mv 9 26]
 (.seq (sr [mv 27 8,cGk 28 27 0]
 (.cond (tZ 28) (rf [mv 29 6,mv 30 8,ca1 31 88 30,oZ 32 (.mkSl 1 1 [(.str [])] [(0,(tZ 31))]),oZ 33 (.append 1 16 [(.str [])] (tZ 29) (tZ 32)),mv 6 33])
 .skip))
 (sr [mv 34 9,mk 35 0]
 (.block 2 (.loop (sr [cL 36 35 34]
 (.seq (.cond (tZ 36) .skip
 (.exit 2))
 (.seq (.block 3 (sr [mv 37 6,oZ 38 (.mkSl 1 1 [(.str [])] [(0,(.const (.str [124])))]),oZ 39 (.append 1 16 [(.str [])] (tZ 37) (tZ 38)),mv 6 39]
 (rf [mv 40 7,aDk 41 40 1,mv 7 41])))
 (rf [aDk 42 35 1,mv 35 42]))))))))))
 (rf [aDk 43 22 1,mv 22 43])))))))
 (sr [fa 44 2 1,lo 45 44,mv 46 7,oZ 47 (.call (.fn 89) [(tZ 45),(tZ 46),(.const (.str [94]))]),mv 10 47]
 (sr [mv 48 10,ca1 49 90 48]
 (sr [mv 50 10,mv 51 6,oZ 52 (.call (.fn 91) [(tZ 51),(.const (.str [32]))]),oZ 53 (.mkSl 1 1 [(.str [])] [(0,(tZ 52))]),oZ 54 (.append 1 16 [(.str [])] (tZ 50) (tZ 53)),mv 10 54]
 (sr [mv 55 10,fa 56 3 1,lo 57 56,mv 58 7,oZ 59 (.call (.fn 89) [(tZ 57),(tZ 58),(.const (.str [118]))]),oZ 60 (.append 1 16 [(.str [])] (tZ 55) (tZ 59)),mv 2 60,mk 3 0]
 .ret)))))))))⟩
theorem cf19:cFn Tryz.prog Tryz.f45=some af19:=by kernel_rfl
theorem gd19:GD 45 af19:=gG Tryz.func45 cf19 (by kernel_rfl)
def af20:AFn:=⟨202,[(2,(some (some 2))),(3,none)],(sr [bo 1 0,oZ 2 (.alloc [(.int .i64 0),.nilSl]),mk 3 0]
 (.seq (sr [fa 21 0 1,lo 22 21,cLk 23 22 0,mv 24 23,gff 25 24 0 1,gfl 26 24 25,gZ 27 24 false (.bin .gtr .num (tZ 26) (kZ 40)),pk1 28 24 27,mv 29 28,gff 30 29 1 1,gfl 31 29 30,gZ 32 29 false (.lenSl (tZ 31)),gff 33 29 0 1,gfl 34 29 33,gZ 35 29 false (.bin .add .num (tZ 34) (kZ 1)),gZ 36 29 false (.bin .neq .num (tZ 32) (tZ 35)),pk1 37 29 36,mv 38 37,gff 39 38 1 1,gfl 40 38 39,gZ 41 38 false (.call (.fn 92) [(tZ 40)]),gZ 42 38 false (.bin .lss .num (tZ 41) (kZ 0)),pk1 43 38 42]
 (.cond (tZ 43) (sr [oZ 44 (.build [(.int .i64 0),.nilSl] []),so 2 2 44,mk 3 2]
 .ret)
 .skip))
 (sr [mk 4 0,mk 5 0]
 (.seq (sr [fa 45 1 1,lo 46 45,le 47 46,mk 48 0]
 (.block 0 (.loop (sr [cL 49 48 47]
 (.seq (.cond (tZ 49) .skip
 (.exit 0))
 (.seq (.block 1 (sr [ix 50 1 46 48,lo 51 50,mv 7 51]
 (rf [mv 52 4,mv 53 7,oZ 54 (.minmax false [(tZ 53),(kZ 401)]),aD 55 52 54,oZ 56 (.minmax false [(tZ 55),(kZ 401)]),mv 4 56])))
 (rf [aDk 57 48 1,mv 48 57])))))))
 (.seq (sr [fa 58 2 1,lo 59 58,fa 60 3 1,lo 61 60,oZ 62 (.mkSl 1 2 [.nilSl] [(0,(tZ 59)),(1,(tZ 61))]),le 63 62,mk 64 0]
 (.block 2 (.loop (sr [cL 65 64 63]
 (.seq (.cond (tZ 65) .skip
 (.exit 2))
 (.seq (.block 3 (sr [ix 66 1 62 64,lo 67 66,mv 9 67]
 (sr [mv 68 9,le 69 68,mk 70 0]
 (.block 4 (.loop (sr [cL 71 70 69]
 (.seq (.cond (tZ 71) .skip
 (.exit 4))
 (.seq (.block 5 (sr [ix 72 4 68 70,lw 73 4 72,oZ 11 (.alloc [(.int .i64 0),(.int .i64 0),(.int .i64 0),(.bool false)]),so 4 11 73]
 (sr [fa 74 0 11,lo 75 74,cEk 76 75 2]
 (.cond (tZ 76) (rf [mv 77 5,aDk 78 77 1,mv 5 78])
 .skip))))
 (rf [aDk 79 70 1,mv 70 79])))))))))
 (rf [aDk 80 64 1,mv 64 80])))))))
 (.seq (sr [mv 81 5,cGk 82 81 100,mv 83 82,gfm 84 83 4,gfm 85 83 5,gZ 86 83 false (.bin .mul .num (kZ 2) (tZ 85)),gZ 87 83 false (.bin .add .num (tZ 84) (tZ 86)),gZ 88 83 false (.bin .gtr .num (tZ 87) (kZ 400)),pk1 89 83 88]
 (.cond (tZ 89) (sr [oZ 90 (.build [(.int .i64 0),.nilSl] []),so 2 2 90,mk 3 7]
 .ret)
 .skip))
 (sr [mv 91 4,oZ 92 (.bin .mul .num (kZ 2) (tZ 91)),oZ 93 (.makeSl 1 8 [(.int .i64 0)] (tZ 92) (tZ 92)),oZ 94 (.build [.nilSl,.nilSl,.nilSl] [(1,1,(tZ 93))]),bo 95 94,mv 12 95]
 (sr [mnZ 13,mnZ 14]
 (.seq (sr [fa 96 1 1,lo 97 96,le 98 97,mk 99 0]
 (.block 6 (.loop (sr [cL 100 99 98]
 (.seq (.cond (tZ 100) .skip
 (.exit 6))
 (.seq (.block 7 (sr [mv 101 99,ix 102 1 97 99,lo 103 102,mv 15 101,mv 16 103]
 (sr [mv 104 16,mk 105 0]
 (.block 8 (.loop (sr [cL 106 105 104]
 (.seq (.cond (tZ 106) .skip
 (.exit 8))
 (.seq (.block 9 (sr [mv 107 105,mv 17 107]
 (.seq (.region true [mv 108 13,mv 109 12,nc 110 109,fa 111 0 110,lo 112 111,le 113 112,oZ 114 (.bin .mul .num (kZ 2) (tZ 113)),oZ 115 (.mkSl 1 1 [(.int .i64 0)] [(0,(tZ 114))]),oZ 116 (.append 1 8 [(.int .i64 0)] (tZ 108) (tZ 115)),mv 117 14,mv 118 12,nc 119 118,fa 120 0 119,⟨(some 121),.load none (tZ 120),none,[7,8]⟩,le 122 121,oZ 123 (.bin .mul .num (kZ 2) (tZ 122)),aDk 124 123 1,⟨(some 125),.mkSl 1 1 [(.int .i64 0)] [(0,(tZ 124))],none,[4,7,8]⟩,oZ 126 (.append 1 8 [(.int .i64 0)] (tZ 117) (tZ 125)),mv 13 116,mv 14 126])
 (rf [mv 127 12,mv 128 12,nc 129 128,fa 130 0 129,lo 131 130,mv 132 15,mv 133 17,aDk 134 133 1,oZ 135 (.build [(.int .i64 0),(.int .i64 0),(.int .i64 0),(.int .i64 0),(.int .i64 0),(.bool false)] [(0,1,(kZ 1)),(1,1,(tZ 132)),(2,1,(tZ 134))]),oZ 136 (.mkSl 6 1 [(.int .i64 0),(.int .i64 0),(.int .i64 0),(.int .i64 0),(.int .i64 0),(.bool false)] [(0,(tZ 135))]),oZ 137 (.append 6 48 [(.int .i64 0),(.int .i64 0),(.int .i64 0),(.int .i64 0),(.int .i64 0),(.bool false)] (tZ 131) (tZ 136)),nc 138 127,fa 139 0 138,so 1 139 137]))))
 (rf [aDk 140 105 1,mv 105 140])))))))))
 (rf [aDk 141 99 1,mv 99 141])))))))
 (.seq (sr [mv 142 12,nc 143 142,fa 144 1 143,lo 145 144,le 146 145,mk 147 0]
 (.block 10 (.loop (sr [cL 148 147 146]
 (.seq (.cond (tZ 148) .skip
 (.exit 10))
 (.seq (.block 11 (sr [mv 149 147,mv 18 149]
 (rf [mv 150 12,nc 151 150,fa 152 1 151,lo 153 152,mv 154 18,ix 155 1 153 154,pZ (.store 1 (tZ 155) (kZ (-1)))])))
 (rf [aDk 156 147 1,mv 147 156])))))))
 (.seq (sr [mv 157 4,cEk 158 157 0,mv 159 158,gtf 160 159 2 1,gtl 161 159 160,gZ 162 159 true (.lenSl (tZ 161)),gtf 163 159 3 1,gtl 164 159 163,gZ 165 159 true (.lenSl (tZ 164)),gZ 166 159 true (.bin .add .num (tZ 162) (tZ 165)),gZ 167 159 true (.bin .eql .num (tZ 166) (kZ 0)),pk0 168 159 167]
 (.cond (tZ 168) (sr [fa 169 0 1,lo 170 169,oZ 171 (.build [(.int .i64 0),.nilSl] [(0,1,(tZ 170))]),so 2 2 171,mk 3 0]
 .ret)
 .skip))
 (.seq (sr [mv 172 4,cEk 173 172 0,mv 174 173,gfm 175 174 12,gff 176 174 2 1,gfl 177 174 176,gfm 178 174 13,gZ 179 174 false (.call (.fn 93) [(tZ 175),(tZ 177),(tZ 178),(bZ false)]),gZ 180 174 false (.un .not (tZ 179)),pk1 181 174 180,mv 182 181,gfm 183 182 12,gff 184 182 3 1,gfl 185 182 184,gfm 186 182 14,gZ 187 182 false (.call (.fn 93) [(tZ 183),(tZ 185),(tZ 186),(bZ true)]),gZ 188 182 false (.un .not (tZ 187)),pk1 189 182 188]
 (.cond (tZ 189) (sr [oZ 190 (.build [(.int .i64 0),.nilSl] []),so 2 2 190,mk 3 3]
 .ret)
 .skip))
 (sr [mv 192 12,fa 193 0 1,lo 194 193,ca2 195 94 192 194,mv 191 195,ex 196 191 0,ex 197 191 1,oZ 19 (.alloc [(.int .i64 0),.nilSl]),so 2 19 196,mv 20 197]
 (.seq (sr [mv 198 20,no 199 198]
 (.cond (tZ 199) (sr [oZ 200 (.build [(.int .i64 0),.nilSl] []),so 2 2 200,mk 3 3]
 .ret)
 .skip))
 (sr [lw 201 2 19,so 2 2 201,mk 3 0]
 .ret)))))))))))))))⟩
theorem cf20:cFn Tryz.prog Tryz.f46=some af20:=by kernel_rfl
theorem gd20:GD 46 af20:=gG Tryz.func46 cf20 (by kernel_rfl)
def af21:AFn:=⟨26,[(4,none)],(sr [mfZ 4]
 (.seq (sr [mv 6 0,le 7 6,mv 8 1,le 9 8,cN 10 7 9]
 (.cond (tZ 10) (sr [mfZ 4]
 .ret)
 .skip))
 (.seq (sr [mk 5 0]
 (.block 0 (.loop (.seq (sr [mv 11 5,mv 12 0,le 13 12,cL 14 11 13]
 (.cond (tZ 14) .skip
 (.exit 0)))
 (.seq (.block 1 (.seq (.region true [mv 17 0,mv 18 5,ix 19 1 17 18,lo 20 19,mv 21 1,mv 22 5,ix 23 1 21 22,lo 24 23,cN 25 20 24])
 (.cond (tZ 25) (sr [mfZ 4]
 .ret)
 .skip)))
 (rf [mv 15 5,aDk 16 15 1,mv 5 16]))))))
 (sr [mtZ 4]
 .ret))))⟩
theorem cf21:cFn Tryz.prog Tryz.f47=some af21:=by kernel_rfl
theorem gd21:GD 47 af21:=gG Tryz.func47 cf21 (by kernel_rfl)
def af22:AFn:=⟨10,[(4,none)],(sr [bo 2 0,bo 3 1,mfZ 4]
 (.seq (.region true [lw 5 2 2,ca1 6 95 5,⟨(some 7),.load (some 2) (tZ 3),none,[1]⟩,ca1 8 95 7,ca2 9 21 6 8,mv 4 9])
 .ret))⟩
theorem cf22:cFn Tryz.prog Tryz.f48=some af22:=by kernel_rfl
theorem gd22:GD 48 af22:=gG Tryz.func48 cf22 (by kernel_rfl)
def af23:AFn:=⟨8,[(4,(some (some 6)))],(sr [oZ 4 (.alloc [(.int .i64 0),(.int .i64 0),(.int .i64 0),(.int .i64 0),(.int .i64 0),(.bool false)])]
 (sr [mv 5 0,mv 6 1,oZ 7 (.build [(.int .i64 0),(.int .i64 0),(.int .i64 0),(.int .i64 0),(.int .i64 0),(.bool false)] [(0,1,(kZ 1)),(1,1,(tZ 5)),(2,1,(tZ 6))]),so 6 4 7]
 .ret))⟩
theorem cf23:cFn Tryz.prog Tryz.f49=some af23:=by kernel_rfl
theorem gd23:GD 49 af23:=gG Tryz.func49 cf23 (by kernel_rfl)
def af24:AFn:=⟨37,[(8,(some (some 3))),(9,(some (some 2))),(10,none)],(sr [bo 4 0,bo 5 1,bo 7 3,oZ 8 (.alloc [.nilSl,(.int .i64 0),(.int .i64 0)]),oZ 9 (.alloc [(.int .i64 0),.nilSl]),mk 10 0]
 (sr [lw 14 3 4,lw 15 2 5,ca2 16 63 14 15,mv 13 16,ex 17 13 0,ex 18 13 1,mv 11 17,mv 12 18]
 (.seq (sr [mv 19 12,cEk 20 19 0]
 (.cond (tZ 20) (rf [mv 21 11,mv 22 2,lw 23 2 7,ca3 24 78 21 22 23,mv 12 24])
 .skip))
 (.seq (sr [mv 25 12,cNk 26 25 0]
 (.cond (tZ 26) (sr [oZ 27 (.build [.nilSl,(.int .i64 0),(.int .i64 0)] []),oZ 28 (.build [(.int .i64 0),.nilSl] []),mv 29 12,so 3 8 27,so 2 9 28,mv 10 29]
 .ret)
 .skip))
 (sr [mv 31 11,ca1 32 65 31,mv 30 32,ex 33 30 0,ex 34 30 1,so 3 4 33,so 2 5 34]
 (.seq (.region true [lw 35 3 4,lw 36 2 5,⟨none,.store 3 (tZ 8) (tZ 35),none,[1]⟩,so 2 9 36,mk 10 0])
 .ret))))))⟩
theorem cf24:cFn Tryz.prog Tryz.f36=some af24:=by kernel_rfl
theorem gd24:GD 36 af24:=gG Tryz.func36 cf24 (by kernel_rfl)
def af25:AFn:=⟨34,[(6,(some (some 3))),(7,(some (some 2))),(8,none)],(sr [bo 3 0,bo 4 1,oZ 6 (.alloc [.nilSl,(.int .i64 0),(.int .i64 0)]),oZ 7 (.alloc [(.int .i64 0),.nilSl]),mk 8 0]
 (sr [lw 12 3 3,lw 13 2 4,ca2 14 63 12 13,mv 11 14,ex 15 11 0,ex 16 11 1,mv 9 15,mv 10 16]
 (.seq (sr [mv 17 10,cEk 18 17 0]
 (.cond (tZ 18) (rf [mv 19 9,mv 20 2,ca2 21 64 19 20,mv 10 21])
 .skip))
 (.seq (sr [mv 22 10,cNk 23 22 0]
 (.cond (tZ 23) (sr [oZ 24 (.build [.nilSl,(.int .i64 0),(.int .i64 0)] []),oZ 25 (.build [(.int .i64 0),.nilSl] []),mv 26 10,so 3 6 24,so 2 7 25,mv 8 26]
 .ret)
 .skip))
 (sr [mv 28 9,ca1 29 65 28,mv 27 29,ex 30 27 0,ex 31 27 1,so 3 3 30,so 2 4 31]
 (.seq (.region true [lw 32 3 3,lw 33 2 4,⟨none,.store 3 (tZ 6) (tZ 32),none,[1]⟩,so 2 7 33,mk 8 0])
 .ret))))))⟩
theorem cf25:cFn Tryz.prog Tryz.f24=some af25:=by kernel_rfl
theorem gd25:GD 24 af25:=gG Tryz.func24 cf25 (by kernel_rfl)
def af26:AFn:=⟨64,[(2,none)],(sr [bo 1 0,oZ 2 (.mov (.const (.str [])))]
 (sr [fa 7 0 1,lo 8 7,ca1 9 96 8,oZ 10 (.bin .add .num (tZ 9) (.const (.str [58]))),mv 3 10]
 (.seq (sr [mk 4 0]
 (.block 0 (.loop (.seq (sr [mv 11 4,fa 12 1 1,lo 13 12,le 14 13,cL 15 11 14]
 (.cond (tZ 15) .skip
 (.exit 0)))
 (.seq (.block 1 (sr [fa 18 1 1,lo 19 18,mv 20 4,ix 21 6 19 20,lw 22 6 21,oZ 5 (.alloc [(.int .i64 0),(.int .i64 0),(.int .i64 0),(.int .i64 0),(.int .i64 0),(.bool false)]),so 6 5 22]
 (sr [oZ 6 (.mov (.const (.str [63])))]
 (.seq (sr [fa 23 0 5,lo 24 23,cEk 25 24 1]
 (.cond (tZ 25) (.region true [fa 26 1 5,lo 27 26,ca1 28 96 27,oZ 29 (.bin .add .num (tZ 28) (.const (.str [46]))),fa 30 2 5,⟨(some 31),.load none (tZ 30),none,[2]⟩,ca1 32 96 31,aD 33 29 32,mv 6 33])
 .skip))
 (.seq (sr [fa 34 0 5,lo 35 34,cEk 36 35 2]
 (.cond (tZ 36) (sr [fa 37 3 5,lo 38 37,ca1 39 96 38,oZ 40 (.bin .add .num (tZ 39) (.const (.str [117]))),mv 6 40]
 (.seq (sr [fa 41 5 5,lo 42 41]
 (.cond (tZ 42) (rf [fa 43 3 5,lo 44 43,ca1 45 96 44,oZ 46 (.bin .add .num (tZ 45) (.const (.str [111]))),mv 6 46])
 .skip))
 (sr [fa 47 4 5,lo 48 47]
 (.block 2 (sr [cEk 52 48 1,mv 51 52]
 (.cond (tZ 51) (rf [mv 53 6,oZ 54 (.bin .add .num (tZ 53) (.const (.str [43]))),mv 6 54])
 (sr [cEk 56 48 (-1),mv 55 56]
 (.cond (tZ 55) (rf [mv 57 6,oZ 58 (.bin .add .num (tZ 57) (.const (.str [45]))),mv 6 58])
 (rf [mv 49 6,oZ 50 (.bin .add .num (tZ 49) (.const (.str [63]))),mv 6 50])))))))))
 .skip))
 (rf [mv 59 3,oZ 60 (.bin .add .num (tZ 59) (.const (.str [32]))),mv 61 6,aD 62 60 61,mv 3 62]))))))
 (rf [mv 16 4,aDk 17 16 1,mv 4 17]))))))
 (sr [mv 63 3,mv 2 63]
 .ret))))⟩
theorem cf26:cFn Tryz.prog Tryz.f50=some af26:=by kernel_rfl
theorem gd26:GD 50 af26:=gG Tryz.func50 cf26 (by kernel_rfl)
def af27:AFn:=⟨8,[(2,(some (some 2))),(3,none)],(sr [bo 1 0,oZ 2 (.alloc [(.int .i64 0),.nilSl]),mk 3 0]
 (sr [lw 4 2 1,oZ 5 (.call (.fn 68) [(tZ 4),(.fn 70)]),ex 6 5 0,ex 7 5 1,so 2 2 6,mv 3 7]
 .ret))⟩
theorem cf27:cFn Tryz.prog Tryz.f28=some af27:=by kernel_rfl
theorem gd27:GD 28 af27:=gG Tryz.func28 cf27 (by kernel_rfl)
def af30:AFn:=⟨11,[(2,none)],(sr [bo 1 0,mk 2 0]
 (sr [lw 6 2 1,ca1 7 73 6,mv 5 7,ex 8 5 0,ex 9 5 1,mv 3 8,mv 4 9]
 (sr [mv 10 4,mv 2 10]
 .ret)))⟩
theorem cf30:cFn Tryz.prog Tryz.f56=some af30:=by kernel_rfl
theorem gd30:GD 56 af30:=gG Tryz.func56 cf30 (by kernel_rfl)
def af31:AFn:=⟨8,[(2,none)],(sr [mnZ 2]
 (.seq (sr [mv 3 0,oZ 4 (.bin .eql .slice (tZ 3) (.const .nilSl))]
 (.cond (tZ 4) (sr [mnZ 2]
 .ret)
 .skip))
 (sr [oZ 5 (.mkSl 6 0 [(.int .i64 0),(.int .i64 0),(.int .i64 0),(.int .i64 0),(.int .i64 0),(.bool false)] []),mv 6 0,oZ 7 (.append 6 48 [(.int .i64 0),(.int .i64 0),(.int .i64 0),(.int .i64 0),(.int .i64 0),(.bool false)] (tZ 5) (tZ 6)),mv 2 7]
 .ret)))⟩
theorem cf31:cFn Tryz.prog Tryz.f57=some af31:=by kernel_rfl
theorem gd31:GD 57 af31:=gG Tryz.func57 cf31 (by kernel_rfl)
def af32:AFn:=⟨8,[(2,(some (some 2))),(3,none)],(sr [bo 1 0,oZ 2 (.alloc [(.int .i64 0),.nilSl]),mk 3 0]
 (sr [lw 4 2 1,oZ 5 (.call (.fn 68) [(tZ 4),(.fn 69)]),ex 6 5 0,ex 7 5 1,so 2 2 6,mv 3 7]
 .ret))⟩
theorem cf32:cFn Tryz.prog Tryz.f27=some af32:=by kernel_rfl
theorem gd32:GD 27 af32:=gG Tryz.func27 cf32 (by kernel_rfl)
def af33:AFn:=⟨8,[(2,(some (some 2))),(3,none)],(sr [bo 1 0,oZ 2 (.alloc [(.int .i64 0),.nilSl]),mk 3 0]
 (sr [lw 4 2 1,oZ 5 (.call (.fn 68) [(tZ 4),(.fn 107)]),ex 6 5 0,ex 7 5 1,so 2 2 6,mv 3 7]
 .ret))⟩
theorem cf33:cFn Tryz.prog Tryz.f58=some af33:=by kernel_rfl
theorem gd33:GD 58 af33:=gG Tryz.func58 cf33 (by kernel_rfl)
def af34:AFn:=⟨37,[(4,none),(5,none)],(sr [bo 2 0,bo 3 1,mfZ 4,mk 5 0]
 (sr [lw 10 2 2,ca1 11 30 10,mv 9 11,ex 12 9 0,ex 13 9 1,oZ 6 (.alloc [(.int .i64 0),.nilSl]),so 2 6 12,mv 7 13]
 (.seq (sr [mv 14 7,cNk 15 14 0]
 (.cond (tZ 15) (sr [mv 16 7,mfZ 4,mv 5 16]
 .ret)
 .skip))
 (sr [lw 18 2 3,ca1 19 30 18,mv 17 19,ex 20 17 0,ex 21 17 1,oZ 8 (.alloc [(.int .i64 0),.nilSl]),so 2 8 20,mv 7 21]
 (.seq (sr [mv 22 7,cNk 23 22 0]
 (.cond (tZ 23) (sr [mv 24 7,mfZ 4,mv 5 24]
 .ret)
 .skip))
 (sr [fa 25 0 6,lo 26 25,fa 27 0 8,lo 28 27,cE 29 26 28,mv 30 29,gtf 31 30 1 6,gtl 32 30 31,gtf 33 30 1 8,gtl 34 30 33,gZ 35 30 true (.call (.fn 108) [(tZ 32),(tZ 34)]),pk0 36 30 35,mv 4 36,mk 5 0]
 .ret))))))⟩
theorem cf34:cFn Tryz.prog Tryz.f59=some af34:=by kernel_rfl
theorem gd34:GD 59 af34:=gG Tryz.func59 cf34 (by kernel_rfl)
def af41:AFn:=⟨5,[(2,none)],(sr [oZ 2 (.mov (.const (.str [])))]
 (sr [mv 3 0,ca1 4 136 3,mv 2 4]
 .ret))⟩
theorem cf41:cFn Tryz.prog Tryz.f88=some af41:=by kernel_rfl
theorem gd41:GD 88 af41:=gG Tryz.func88 cf41 (by kernel_rfl)
def af42:AFn:=⟨61,[(6,none)],(sr [mnZ 6]
 (sr [mnZ 7]
 (.seq (sr [mv 14 0,le 15 14,mk 16 0]
 (.block 0 (.loop (sr [cL 17 16 15]
 (.seq (.cond (tZ 17) .skip
 (.exit 0))
 (.seq (.block 1 (sr [ix 18 4 14 16,lw 19 4 18,oZ 9 (.alloc [(.int .i64 0),(.int .i64 0),(.int .i64 0),(.bool false)]),so 4 9 19]
 (sr [mv 20 2,mv 10 20,mk 11 2]
 (.seq (sr [fa 21 0 9,lo 22 21,cEk 23 22 2]
 (.cond (tZ 23) (.seq (.region true [fa 24 2 9,lo 25 24,oZ 10 (.mov (.const (.str [45]))),mv 11 25])
 (sr [fa 26 3 9,lo 27 26]
 (.cond (tZ 27) (rf [oZ 10 (.mov (.const (.str [43])))])
 .skip)))
 .skip))
 (sr [oZ 28 (.mkSl 1 1 [(.str [])] [(0,(.const (.str [124])))]),mv 29 1,ca2 30 137 28 29,mv 12 30]
 (.seq (sr [mv 31 11,mk 32 0]
 (.block 2 (.loop (sr [cL 33 32 31]
 (.seq (.cond (tZ 33) .skip
 (.exit 2))
 (.seq (.block 3 (sr [mv 34 32,mv 13 34]
 (rf [mv 35 12,fa 36 1 9,lo 37 36,mv 38 13,aD 39 37 38,mv 40 10,ix 41 1 35 39,so 1 41 40])))
 (rf [aDk 42 32 1,mv 32 42])))))))
 (sr [mv 43 7,mv 44 12,oZ 45 (.call (.fn 91) [(tZ 44),(.const (.str [32]))]),oZ 46 (.mkSl 1 1 [(.str [])] [(0,(tZ 45))]),oZ 47 (.append 1 16 [(.str [])] (tZ 43) (tZ 46)),mv 7 47]
 (sr [fa 48 0 9,lo 49 48,cEk 50 49 2]
 (.cond (tZ 50) (rf [mv 51 1,fa 52 2 9,lo 53 52,oZ 54 (.bin .mul .num (kZ 2) (tZ 53)),oZ 55 (.bin .sub .num (kZ 4) (tZ 54)),aD 56 51 55,mv 1 56])
 (rf [mv 57 1,aSk 58 57 2,mv 1 58]))))))))))
 (rf [aDk 59 16 1,mv 16 59])))))))
 (sr [mv 60 7,mv 6 60]
 .ret))))⟩
theorem cf42:cFn Tryz.prog Tryz.f89=some af42:=by kernel_rfl
theorem gd42:GD 89 af42:=gG Tryz.func89 cf42 (by kernel_rfl)
def af43:AFn:=⟨28,[],(sr [mv 4 0,le 5 4,aSk 6 5 1,mk 2 0,mv 3 6]
 (.block 0 (.loop (.seq (sr [mv 7 2,mv 8 3,cL 9 7 8]
 (.cond (tZ 9) .skip
 (.exit 0)))
 (.seq (.block 1 (.region true [mv 14 0,mv 15 2,mv 16 0,mv 17 3,mv 18 0,mv 19 3,ix 20 1 18 19,lo 21 20,mv 22 0,mv 23 2,ix 24 1 22 23,lo 25 24,ix 26 1 14 15,so 1 26 21,ix 27 1 16 17,so 1 27 25]))
 (rf [mv 10 2,aDk 11 10 1,mv 12 3,aSk 13 12 1,mv 2 11,mv 3 13]))))))⟩
theorem cf43:cFn Tryz.prog Tryz.f90=some af43:=by kernel_rfl
theorem gd43:GD 90 af43:=gG Tryz.func90 cf43 (by kernel_rfl)
def af45:AFn:=⟨25,[(2,none)],(sr [mk 2 0]
 (.seq (sr [mv 5 0,le 6 5,cLk 7 6 1]
 (.cond (tZ 7) (rf [oZ 8 (.dead),pZ (.dead)])
 .skip))
 (sr [mv 9 0,oZ 10 (.idxA 1 (tZ 9) (kZ 0)),lo 11 10,mv 3 11]
 (.seq (sr [mk 4 1]
 (.block 0 (.loop (.seq (sr [mv 12 4,mv 13 0,le 14 13,cL 15 12 14]
 (.cond (tZ 15) .skip
 (.exit 0)))
 (.seq (.block 1 (rf [mv 18 3,mv 19 0,mv 20 4,ix 21 1 19 20,lo 22 21,oZ 23 (.minmax false [(tZ 18),(tZ 22)]),mv 3 23]))
 (rf [mv 16 4,aDk 17 16 1,mv 4 17]))))))
 (sr [mv 24 3,mv 2 24]
 .ret)))))⟩
theorem cf45:cFn Tryz.prog Tryz.f92=some af45:=by kernel_rfl
theorem gd45:GD 92 af45:=gG Tryz.func92 cf45 (by kernel_rfl)
def af46:AFn:=⟨174,[(8,none)],(sr [mfZ 8]
 (.seq (sr [mv 15 1,le 16 15,mk 17 0]
 (.block 0 (.loop (sr [cL 18 17 16]
 (.seq (.cond (tZ 18) .skip
 (.exit 0))
 (.seq (.block 1 (sr [ix 19 4 15 17,lw 20 4 19,oZ 10 (.alloc [(.int .i64 0),(.int .i64 0),(.int .i64 0),(.bool false)]),so 4 10 20]
 (sr [fa 21 0 10,lo 22 21]
 (.block 2 (sr [cEk 24 22 1,mv 23 24]
 (.cond (tZ 23) (.seq (sr [fa 25 1 10,lo 26 25,cLk 27 26 0,mv 28 27,gff 29 28 1 10,gfl 30 28 29,gfm 31 28 2,gZ 32 28 false (.lenSl (tZ 31)),gZ 33 28 false (.bin .sub .num (tZ 32) (kZ 1)),gZ 34 28 false (.bin .geq .num (tZ 30) (tZ 33)),pk1 35 28 34,mv 36 35,gff 37 36 2 10,gfl 38 36 37,gZ 39 36 false (.bin .neq .num (tZ 38) (kZ 0)),pk1 40 36 39,mv 41 40,gff 42 41 3 10,gfl 43 41 42,pk1 44 41 43]
 (.cond (tZ 44) (sr [mfZ 8]
 .ret)
 .skip))
 (.seq (.region true [mv 45 0,mv 46 2,fa 47 1 10,lo 48 47,ix 49 1 46 48,lo 50 49,mv 51 2,fa 52 1 10,lo 53 52,aDk 54 53 1,ix 55 1 51 54,lo 56 55,ca3 57 141 45 50 56])
 (.region true [mv 58 2,fa 59 1 10,lo 60 59,oZ 61 (.slSl 1 (tZ 58) none (some (tZ 60)) none),ca1 62 142 61,mv 63 2,fa 64 1 10,⟨(some 65),.load none (tZ 64),none,[4]⟩,aDk 66 65 2,⟨(some 67),.slSl 1 (tZ 63) (some (tZ 66)) none none,none,[4]⟩,oZ 68 (.append 1 8 [(.int .i64 0)] (tZ 62) (tZ 67)),mv 2 68])))
 (sr [cEk 70 22 2,mv 69 70]
 (.cond (tZ 69) (.seq (sr [fa 71 2 10,lo 72 71,cLk 73 72 1,mv 74 73,gff 75 74 2 10,gfl 76 74 75,gZ 77 74 false (.bin .gtr .num (tZ 76) (kZ 4)),pk1 78 74 77,mv 79 78,gff 80 79 1 10,gfl 81 79 80,gZ 82 79 false (.bin .lss .num (tZ 81) (kZ 0)),pk1 83 79 82,mv 84 83,gff 85 84 1 10,gfl 86 84 85,gfm 87 84 2,gZ 88 84 false (.lenSl (tZ 87)),gff 89 84 2 10,gfl 90 84 89,gZ 91 84 false (.bin .sub .num (tZ 88) (tZ 90)),gZ 92 84 false (.bin .gtr .num (tZ 86) (tZ 91)),pk1 93 84 92]
 (.cond (tZ 93) (sr [mfZ 8]
 .ret)
 .skip))
 (sr [fa 94 3 10,lo 95 94,mv 96 3,oZ 97 (.build [(.int .i64 0),(.int .i64 0),(.int .i64 0),(.int .i64 0),(.bool false),(.bool false)] [(4,1,(tZ 95)),(5,1,(tZ 96))]),oZ 11 (.alloc [(.int .i64 0),(.int .i64 0),(.int .i64 0),(.int .i64 0),(.bool false),(.bool false)]),so 6 11 97]
 (.seq (sr [mk 98 0]
 (.block 3 (.loop (sr [cLk 99 98 4]
 (.seq (.cond (tZ 99) .skip
 (.exit 3))
 (.seq (.block 4 (sr [mv 100 98,mv 12 100]
 (sr [mv 101 12,mv 102 0,nc 103 102,fa 104 1 103,lo 105 104,le 106 105,fa 107 0 11,oZ 108 (.idxAA 4 1 (tZ 107) (tZ 101)),so 1 108 106]
 (rf [mv 109 0,mv 110 0,nc 111 110,fa 112 1 111,lo 113 112,oZ 114 (.mkSl 1 1 [(.int .i64 0)] [(0,(kZ (-1)))]),oZ 115 (.append 1 8 [(.int .i64 0)] (tZ 113) (tZ 114)),nc 116 109,fa 117 1 116,so 1 117 115]))))
 (rf [aDk 118 98 1,mv 98 118])))))))
 (.seq (.region true [mv 119 0,mv 120 0,nc 121 120,fa 122 2 121,lo 123 122,lw 124 6 11,⟨(some 125),.mkSl 6 1 [(.int .i64 0),(.int .i64 0),(.int .i64 0),(.int .i64 0),(.bool false),(.bool false)] [(0,(tZ 124))],none,[4]⟩,oZ 126 (.append 6 40 [(.int .i64 0),(.int .i64 0),(.int .i64 0),(.int .i64 0),(.bool false),(.bool false)] (tZ 123) (tZ 125)),nc 127 119,fa 128 2 127,so 1 128 126])
 (.seq (sr [fa 129 2 10,lo 130 129,mk 131 0]
 (.block 5 (.loop (sr [cL 132 131 130]
 (.seq (.cond (tZ 132) .skip
 (.exit 5))
 (.seq (.block 6 (sr [mv 133 131,mv 13 133]
 (.region true [mv 134 0,mv 135 2,fa 136 1 10,lo 137 136,mv 138 13,aD 139 137 138,ix 140 1 135 139,lo 141 140,mv 142 13,oZ 143 (.bin .sub .num (kZ 4) (tZ 142)),aRk 144 143 4,fa 145 0 11,oZ 146 (.idxAA 4 1 (tZ 145) (tZ 144)),lo 147 146,ca3 148 141 134 141 147])))
 (rf [aDk 149 131 1,mv 131 149])))))))
 (sr [fa 150 0 11,fa 151 2 10,lo 152 151,oZ 153 (.bin .sub .num (kZ 5) (tZ 152)),oZ 154 (.slArr 4 1 (tZ 150) (some (kZ 1)) (some (tZ 153))),mv 14 154]
 (.region true [mv 155 2,fa 156 1 10,lo 157 156,oZ 158 (.slSl 1 (tZ 155) none (some (tZ 157)) none),ca1 159 142 158,mv 160 14,oZ 161 (.append 1 8 [(.int .i64 0)] (tZ 159) (tZ 160)),mv 162 2,fa 163 1 10,⟨(some 164),.load none (tZ 163),none,[4,6]⟩,fa 165 2 10,⟨(some 166),.load none (tZ 165),none,[4,6]⟩,aD 167 164 166,⟨(some 168),.slSl 1 (tZ 162) (some (tZ 167)) none none,none,[4,6]⟩,oZ 169 (.append 1 8 [(.int .i64 0)] (tZ 161) (tZ 168)),mv 2 169])))))))
 (sr [mfZ 8]
 .ret)))))))))
 (rf [aDk 170 17 1,mv 17 170])))))))
 (sr [mv 171 2,le 172 171,cEk 173 172 0,mv 8 173]
 .ret)))⟩
theorem cf46:cFn Tryz.prog Tryz.f93=some af46:=by kernel_rfl
theorem gd46:GD 93 af46:=gG Tryz.func93 cf46 (by kernel_rfl)
def af47:AFn:=⟨199,[(4,(some (some 2))),(5,none)],(sr [oZ 4 (.alloc [(.int .i64 0),.nilSl]),mfZ 5]
 (sr [mv 23 1,oZ 24 (.build [(.int .i64 0),.nilSl] [(0,1,(tZ 23))]),oZ 6 (.alloc [(.int .i64 0),.nilSl]),so 2 6 24]
 (sr [mv 25 0,nc 26 25,fa 27 0 26,lo 28 27,le 29 28,mv 7 29]
 (sr [mv 30 0,nc 31 30,fa 32 2 31,lo 33 32,le 34 33,oZ 35 (.makeSl 1 24 [.nilSl] (tZ 34) (tZ 34)),mv 8 35]
 (sr [oZ 36 (.mkMap),mv 9 36]
 (sr [mv 37 7,mv 38 0,nc 39 38,fa 40 2 39,lo 41 40,le 42 41,oZ 43 (.bin .mul .num (kZ 2) (tZ 42)),aD 44 37 43,mv 10 44]
 (sr [mk 11 0]
 (.seq (.block 0 (.loop (.block 1 (.seq (sr [mv 45 10,aSk 46 45 1,mv 10 46]
 (sr [mv 47 10,cLk 48 47 0]
 (.cond (tZ 48) (sr [oZ 49 (.build [(.int .i64 0),.nilSl] []),so 2 4 49,mfZ 5]
 .ret)
 .skip)))
 (.seq (sr [mv 50 11,mv 51 7,oZ 52 (.bin .mul .num (kZ 2) (tZ 51)),cL 53 50 52]
 (.cond (tZ 53) (.seq (.region true [fa 54 1 6,lo 55 54,mv 56 0,nc 57 56,fa 58 0 57,lo 59 58,mv 60 11,aQk 61 60 2,ix 62 6 59 61,lw 63 6 62,⟨(some 64),.mkSl 6 1 [(.int .i64 0),(.int .i64 0),(.int .i64 0),(.int .i64 0),(.int .i64 0),(.bool false)] [(0,(tZ 63))],none,[1]⟩,oZ 65 (.append 6 48 [(.int .i64 0),(.int .i64 0),(.int .i64 0),(.int .i64 0),(.int .i64 0),(.bool false)] (tZ 55) (tZ 64)),fa 66 1 6,so 1 66 65])
 (rf [mv 67 11,oZ 68 (.bin .xor .num (tZ 67) (kZ 1)),mv 11 68]))
 (sr [mv 69 11,mv 70 7,oZ 71 (.bin .mul .num (kZ 2) (tZ 70)),aS 72 69 71,aQk 73 72 4,mv 74 11,mv 75 7,oZ 76 (.bin .mul .num (kZ 2) (tZ 75)),aS 77 74 76,aRk 78 77 4,mv 12 73,mv 13 78]
 (.seq (sr [mv 79 9,mv 80 12,oZ 81 (.lookup .int (.int .i64 0) false (tZ 79) (tZ 80)),cEk 82 81 0]
 (.cond (tZ 82) (rf [mv 83 9,mv 84 12,mv 85 9,oZ 86 (.lenMap (tZ 85)),aDk 87 86 1,pZ (.mapUpd .int (tZ 83) (tZ 84) (tZ 87))])
 .skip))
 (.seq (.region true [mv 88 8,mv 89 12,mv 90 8,mv 91 12,ix 92 1 90 91,lo 93 92,fa 94 1 6,lo 95 94,le 96 95,mv 97 13,oZ 98 (.build [(.int .i64 0),(.int .i64 0)] [(0,1,(tZ 96)),(1,1,(tZ 97))]),⟨(some 99),.mkSl 2 1 [(.int .i64 0),(.int .i64 0)] [(0,(tZ 98))],none,[4,5]⟩,oZ 100 (.append 2 16 [(.int .i64 0),(.int .i64 0)] (tZ 93) (tZ 99)),ix 101 1 88 89,so 1 101 100])
 (sr [fa 102 1 6,lo 103 102,mv 104 9,mv 105 12,oZ 106 (.lookup .int (.int .i64 0) false (tZ 104) (tZ 105)),oZ 107 (.build [(.int .i64 0),(.int .i64 0),(.int .i64 0),(.int .i64 0),(.int .i64 0),(.bool false)] [(0,1,(kZ 2)),(3,1,(tZ 106))]),oZ 108 (.mkSl 6 1 [(.int .i64 0),(.int .i64 0),(.int .i64 0),(.int .i64 0),(.int .i64 0),(.bool false)] [(0,(tZ 107))]),oZ 109 (.append 6 48 [(.int .i64 0),(.int .i64 0),(.int .i64 0),(.int .i64 0),(.int .i64 0),(.bool false)] (tZ 103) (tZ 108)),fa 110 1 6,so 1 110 109]
 (rf [mv 111 11,mv 112 13,aDk 113 112 2,aRk 114 113 4,mv 115 13,aS 116 114 115,aD 117 111 116,mv 11 117])))))))
 (.seq (sr [mv 118 0,nc 119 118,fa 120 1 119,lo 121 120,mv 122 11,ix 123 1 121 122,lo 124 123,mv 11 124]
 (sr [mv 125 11,cEk 126 125 0]
 (.cond (tZ 126) (.exit 0)
 .skip)))
 (sr [mv 127 11,cLk 128 127 0]
 (.cond (tZ 128) (sr [oZ 129 (.build [(.int .i64 0),.nilSl] []),so 2 4 129,mfZ 5]
 .ret)
 .skip))))))))
 (.seq (sr [mv 130 10,cNk 131 130 0]
 (.cond (tZ 131) (sr [oZ 132 (.build [(.int .i64 0),.nilSl] []),so 2 4 132,mfZ 5]
 .ret)
 .skip))
 (.seq (sr [mv 133 8,le 134 133,mk 135 0]
 (.block 2 (.loop (sr [cL 136 135 134]
 (.seq (.cond (tZ 136) .skip
 (.exit 2))
 (.seq (.block 3 (sr [mv 137 135,ix 138 1 133 135,lo 139 138,mv 14 137,mv 15 139]
 (sr [mv 140 0,nc 141 140,fa 142 2 141,lo 143 142,mv 144 14,ix 145 6 143 144,lw 146 6 145,oZ 16 (.alloc [(.int .i64 0),(.int .i64 0),(.int .i64 0),(.int .i64 0),(.bool false),(.bool false)]),so 6 16 146]
 (.seq (.region true [mv 147 15,oZ 148 (.idxA 2 (tZ 147) (kZ 0)),lw 149 2 148,mv 150 15,oZ 151 (.idxA 2 (tZ 150) (kZ 1)),lw 152 2 151,⟨(some 17),.alloc [(.int .i64 0),(.int .i64 0)],none,[1,2,4,5]⟩,⟨(some 18),.alloc [(.int .i64 0),(.int .i64 0)],none,[1,2,4,5,6]⟩,⟨none,.store 2 (tZ 17) (tZ 149),none,[4,5]⟩,so 2 18 152])
 (.seq (sr [fa 153 1 17,lo 154 153,aRk 155 154 2,cEk 156 155 0,fa 157 4 16,lo 158 157,oZ 159 (.bin .neq .bool (tZ 156) (tZ 158))]
 (.cond (tZ 159) (rf [lw 160 2 18,lw 161 2 17,so 2 17 160,so 2 18 161])
 .skip))
 (sr [mk 19 (-1)]
 (.seq (sr [fa 162 1 18,lo 163 162,fa 164 1 17,lo 165 164,aDk 166 165 3,aRk 167 166 4,cE 168 163 167]
 (.cond (tZ 168) (rf [mk 19 1])
 .skip))
 (sr [mv 169 15,le 170 169,mk 171 0]
 (.block 4 (.loop (sr [cL 172 171 170]
 (.seq (.cond (tZ 172) .skip
 (.exit 4))
 (.seq (.block 5 (sr [ix 173 2 169 171,lw 174 2 173,oZ 21 (.alloc [(.int .i64 0),(.int .i64 0)]),so 2 21 174]
 (sr [fa 175 1 6,lo 176 175,fa 177 0 21,lo 178 177,ix 179 6 176 178,mv 22 179]
 (.region true [mv 180 22,mv 181 22,mv 182 19,lw 183 2 21,lw 184 2 17,oZ 185 (.bin .eql (.flat [.int,.int]) (tZ 183) (tZ 184)),fa 186 5 16,lo 187 186,oZ 188 (.bin .neq .bool (tZ 185) (tZ 187)),nc 189 180,fa 190 4 189,⟨none,.store 1 (tZ 190) (tZ 182),none,[3,4,7]⟩,nc 191 181,fa 192 5 191,so 1 192 188]))))
 (rf [aDk 193 171 1,mv 171 193]))))))))))))))
 (rf [aDk 194 135 1,mv 135 194])))))))
 (.seq (.region true [lw 195 2 6,lw 196 2 6,⟨(some 197),.call (.fn 56) [(tZ 196)],none,[0]⟩,cEk 198 197 0,so 2 4 195,mv 5 198])
 .ret)))))))))))⟩
theorem cf47:cFn Tryz.prog Tryz.f94=some af47:=by kernel_rfl
theorem gd47:GD 94 af47:=gG Tryz.func94 cf47 (by kernel_rfl)
def af48:AFn:=⟨51,[(2,(some (some 2)))],(sr [bo 1 0,oZ 2 (.alloc [(.int .i64 0),.nilSl])]
 (sr [lw 9 2 1,ca1 10 143 9,oZ 3 (.alloc [(.int .i64 0),.nilSl]),so 2 3 10]
 (.seq (.region true [lw 11 2 1,lw 12 2 1,⟨(some 13),.call (.fn 144) [(tZ 12)],none,[0]⟩,oZ 14 (.mkSl 2 2 [(.int .i64 0),.nilSl] [(0,(tZ 11)),(1,(tZ 13))]),mv 4 14])
 (.seq (sr [mk 5 0]
 (.block 0 (.loop (.seq (sr [mv 15 5,cLk 16 15 2]
 (.cond (tZ 16) .skip
 (.exit 0)))
 (.seq (.block 1 (sr [mv 19 4,mv 20 5,ix 21 2 19 20,lw 22 2 21,oZ 6 (.alloc [(.int .i64 0),.nilSl]),so 2 6 22]
 (sr [mk 7 0]
 (.block 2 (.loop (.seq (sr [mv 23 7,fa 24 1 6,lo 25 24,le 26 25,cL 27 23 26]
 (.cond (tZ 27) .skip
 (.exit 2)))
 (.seq (.block 3 (sr [fa 30 1 6,lo 31 30,mv 32 7,ix 33 6 31 32,fa 34 0 33,lo 35 34,cEk 36 35 1,mv 37 36,gZ 38 37 true (.load (some 2) (tZ 6)),gtm 39 37 7,gZ 40 37 true (.call (.fn 105) [(tZ 38),(tZ 39)]),pk0 41 37 40]
 (.cond (tZ 41) (sr [lw 42 2 6,mv 43 7,ca2 44 145 42 43,ca1 45 143 44,oZ 8 (.alloc [(.int .i64 0),.nilSl]),so 2 8 45]
 (sr [lw 46 2 8,lw 47 2 3,ca2 48 146 46 47]
 (.cond (tZ 48) (rf [lw 49 2 8,so 2 3 49])
 .skip)))
 .skip)))
 (rf [mv 28 7,aDk 29 28 1,mv 7 29]))))))))
 (rf [mv 17 5,aDk 18 17 1,mv 5 18]))))))
 (sr [lw 50 2 3,so 2 2 50]
 .ret)))))⟩
theorem cf48:cFn Tryz.prog Tryz.f95=some af48:=by kernel_rfl
theorem gd48:GD 95 af48:=gG Tryz.func95 cf48 (by kernel_rfl)
def af49:AFn:=⟨23,[(4,none),(5,none)],(sr [bo 2 0,bo 3 1,oZ 4 (.mov (.const .nilPtr)),mk 5 0]
 (.seq (sr [lw 7 3 2,ca1 8 109 7,no 9 8]
 (.cond (tZ 9) (sr [oZ 4 (.mov (.const .nilPtr)),mk 5 2]
 .ret)
 .skip))
 (.seq (sr [lw 10 2 3,ca1 11 56 10,mv 6 11]
 (sr [mv 12 6,cNk 13 12 0]
 (.cond (tZ 13) (sr [mv 14 6,oZ 4 (.mov (.const .nilPtr)),mv 5 14]
 .ret)
 .skip)))
 (.seq (sr [lw 15 3 2,lw 16 2 3,ca2 17 110 15 16,no 18 17]
 (.cond (tZ 18) (sr [oZ 4 (.mov (.const .nilPtr)),mk 5 2]
 .ret)
 .skip))
 (sr [lw 19 3 2,lw 20 2 3,oZ 21 (.build [.nilSl,(.int .i64 0),(.int .i64 0),(.int .i64 0),.nilSl] [(0,3,(tZ 19)),(3,2,(tZ 20))]),bo 22 21,mv 4 22,mk 5 0]
 .ret)))))⟩
theorem cf49:cFn Tryz.prog Tryz.f63=some af49:=by kernel_rfl
theorem gd49:GD 63 af49:=gG Tryz.func63 cf49 (by kernel_rfl)
def af50:AFn:=⟨76,[(6,none)],(sr [bo 4 1,bo 5 2,mk 6 0]
 (.seq (sr [lo 14 4,le 15 14,cEk 16 15 0,mv 17 16,gfl 18 17 4,gZ 19 17 false (.mkFunc (.func 126) [] [(tZ 4)]),gZ 20 17 false (.call (.fn 111) [(tZ 18),(tZ 19)]),pk1 21 17 20]
 (.cond (tZ 21) (sr [mk 6 2]
 .ret)
 .skip))
 (sr [mv 23 0,ca1 24 65 23,mv 22 24,ex 25 22 0,ex 26 22 1,oZ 7 (.alloc [.nilSl,(.int .i64 0),(.int .i64 0)]),oZ 8 (.alloc [(.int .i64 0),.nilSl]),so 3 7 25,so 2 8 26]
 (sr [fa 27 0 5,lo 28 27,mv 9 28]
 (.seq (sr [lo 29 4,le 30 29,mk 31 0]
 (.block 0 (.loop (sr [cL 32 31 30]
 (.seq (.cond (tZ 32) .skip
 (.exit 0))
 (.seq (.block 1 (sr [ix 33 3 29 31,lw 34 3 33,oZ 11 (.alloc [(.int .i64 0),(.bool false),(.int .i64 0)]),so 3 11 34]
 (sr [lw 36 2 8,lw 37 2 5,ca2 38 127 36 37,mv 35 38,ex 39 35 0,ex 40 35 1,oZ 12 (.alloc [(.int .i64 0),.nilSl]),so 2 12 39,mv 13 40]
 (.seq (sr [mv 41 13,cNk 42 41 0]
 (.cond (tZ 42) (sr [mk 6 2]
 .ret)
 .skip))
 (sr [fa 43 0 7,lo 44 43,fa 45 0 5,lo 46 45,lw 47 3 11,oZ 48 (.mkSl 3 1 [(.int .i64 0),(.bool false),(.int .i64 0)] [(0,(tZ 47))]),ca3 49 128 44 46 48,fa 50 0 7,so 1 50 49]
 (.region true [lw 51 2 12,fa 52 0 5,lo 53 52,aDk 54 53 1,oZ 55 (.build [(.int .i64 0),(.int .i64 0)] [(0,1,(tZ 54))]),⟨none,.store 2 (tZ 8) (tZ 51),none,[2]⟩,so 2 5 55]))))))
 (rf [aDk 56 31 1,mv 31 56])))))))
 (.seq (sr [mv 57 9,cLk 58 57 0,mv 59 58,gZ 60 59 false (.load (some 3) (tZ 7)),gZ 61 59 false (.call (.fn 109) [(tZ 60)]),gZ 62 59 false (.un .not (tZ 61)),pk1 63 59 62]
 (.cond (tZ 63) (sr [mk 6 2]
 .ret)
 .skip))
 (.seq (sr [lw 64 3 7,lw 65 2 8,ca2 66 110 64 65,no 67 66]
 (.cond (tZ 67) (sr [mk 6 4]
 .ret)
 .skip))
 (.seq (.region true [mv 68 0,mv 69 0,lw 70 3 7,lw 71 2 8,nc 72 68,fa 73 0 72,⟨none,.store 3 (tZ 73) (tZ 70),none,[3]⟩,nc 74 69,fa 75 3 74,so 2 75 71])
 (sr [mk 6 0]
 .ret)))))))))⟩
theorem cf50:cFn Tryz.prog Tryz.f78=some af50:=by kernel_rfl
theorem gd50:GD 78 af50:=gG Tryz.func78 cf50 (by kernel_rfl)
def af51:AFn:=⟨24,[(2,(some (some 3))),(3,(some (some 2)))],(sr [oZ 2 (.alloc [.nilSl,(.int .i64 0),(.int .i64 0)]),oZ 3 (.alloc [(.int .i64 0),.nilSl])]
 (.seq (.region true [mv 6 0,nc 7 6,fa 8 0 7,lw 9 3 8,mv 10 0,nc 11 10,fa 12 3 11,lw 13 2 12,⟨(some 4),.alloc [.nilSl,(.int .i64 0),(.int .i64 0)],none,[3,7]⟩,⟨(some 5),.alloc [(.int .i64 0),.nilSl],none,[3,7,8]⟩,⟨none,.store 3 (tZ 4) (tZ 9),none,[7]⟩,so 2 5 13])
 (.seq (.region true [fa 14 0 4,lo 15 14,ca1 16 115 15,fa 17 1 5,⟨(some 18),.load none (tZ 17),none,[2]⟩,ca1 19 57 18,fa 20 0 4,so 1 20 16,fa 21 1 5,so 1 21 19])
 (.seq (.region true [lw 22 3 4,lw 23 2 5,⟨none,.store 3 (tZ 2) (tZ 22),none,[1]⟩,so 2 3 23])
 .ret))))⟩
theorem cf51:cFn Tryz.prog Tryz.f65=some af51:=by kernel_rfl
theorem gd51:GD 65 af51:=gG Tryz.func65 cf51 (by kernel_rfl)
def af52:AFn:=⟨63,[(4,none)],(sr [bo 3 1,mk 4 0]
 (.seq (sr [mv 8 0,nc 9 8,fa 10 0 9,fa 11 0 10,lo 12 11,oZ 13 (.mkFunc (.func 112) [] [(tZ 3)]),ca2 14 111 12 13,no 15 14]
 (.cond (tZ 15) (sr [mk 4 8]
 .ret)
 .skip))
 (.seq (sr [mv 16 0,lo 17 3,ca2 18 75 16 17,cGk 19 18 0]
 (.cond (tZ 19) (sr [mk 4 5]
 .ret)
 .skip))
 (sr [mv 21 0,ca1 22 65 21,mv 20 22,ex 23 20 0,ex 24 20 1,oZ 5 (.alloc [.nilSl,(.int .i64 0),(.int .i64 0)]),oZ 6 (.alloc [(.int .i64 0),.nilSl]),so 3 5 23,so 2 6 24]
 (.seq (sr [fa 25 0 5,lo 26 25,le 27 26,aSk 28 27 1,mv 7 28]
 (.block 0 (.loop (.seq (sr [mv 29 7,cHk 30 29 0]
 (.cond (tZ 30) .skip
 (.exit 0)))
 (.seq (.block 1 (.seq (.region true [fa 33 0 5,lo 34 33,mv 35 7,ix 36 3 34 35,fa 37 0 36,lo 38 37,lo 39 3,cE 40 38 39])
 (.cond (tZ 40) (sr [lw 42 2 6,mv 43 7,aDk 44 43 1,ca2 45 113 42 44,mv 41 45,ex 46 41 0,ex 47 41 1,so 2 6 46]
 (rf [fa 48 0 5,lo 49 48,mv 50 7,mv 51 7,aDk 52 51 1,ca3 53 114 49 50 52,fa 54 0 5,so 1 54 53]))
 .skip)))
 (rf [mv 31 7,aSk 32 31 1,mv 7 32]))))))
 (.seq (.region true [mv 55 0,mv 56 0,lw 57 3 5,lw 58 2 6,nc 59 55,fa 60 0 59,⟨none,.store 3 (tZ 60) (tZ 57),none,[3]⟩,nc 61 56,fa 62 3 61,so 2 62 58])
 (sr [mk 4 0]
 .ret)))))))⟩
theorem cf52:cFn Tryz.prog Tryz.f64=some af52:=by kernel_rfl
theorem gd52:GD 64 af52:=gG Tryz.func64 cf52 (by kernel_rfl)
def af53:AFn:=⟨5,[(2,none)],(sr [oZ 2 (.mov (.const (.str [])))]
 (sr [mv 3 0,ca1 4 147 3,mv 2 4]
 .ret))⟩
theorem cf53:cFn Tryz.prog Tryz.f96=some af53:=by kernel_rfl
theorem gd53:GD 96 af53:=gG Tryz.func96 cf53 (by kernel_rfl)
def af54:AFn:=⟨23,[(4,(some (some 2))),(5,none)],(sr [bo 2 0,oZ 4 (.alloc [(.int .i64 0),.nilSl]),mk 5 0]
 (sr [lw 9 2 2,ca1 10 73 9,mv 8 10,ex 11 8 0,ex 12 8 1,mv 6 11,mv 7 12]
 (.seq (sr [mv 13 7,cNk 14 13 0]
 (.cond (tZ 14) (sr [oZ 15 (.build [(.int .i64 0),.nilSl] []),mv 16 7,so 2 4 15,mv 5 16]
 .ret)
 .skip))
 (.seq (.region true [fa 17 0 2,lo 18 17,mv 19 1,mv 20 6,⟨(some 21),.call (tZ 19) [(tZ 20)],none,[1]⟩,oZ 22 (.build [(.int .i64 0),.nilSl] [(0,1,(tZ 18)),(1,1,(tZ 21))]),so 2 4 22,mk 5 0])
 .ret))))⟩
theorem cf54:cFn Tryz.prog Tryz.f68=some af54:=by kernel_rfl
theorem gd54:GD 68 af54:=gG Tryz.func68 cf54 (by kernel_rfl)
def af55:AFn:=⟨47,[(2,none)],(sr [mnZ 2]
 (sr [mv 6 0,nc 7 6,fa 8 0 7,fa 9 1 8,lo 10 9,ca1 11 57 10,mv 3 11]
 (sr [mk 4 0]
 (.seq (sr [mv 12 3,le 13 12,aSk 14 13 1,mv 5 14]
 (.block 0 (.loop (.seq (sr [mv 15 5,cHk 16 15 0]
 (.cond (tZ 16) .skip
 (.exit 0)))
 (.seq (.block 1 (sr [mv 19 3,mv 20 5,ix 21 6 19 20,fa 22 0 21,lo 23 22,cEk 24 23 2]
 (.cond (tZ 24) (rf [mv 25 3,mv 26 5,mv 27 3,mv 28 5,ix 29 6 27 28,fa 30 5 29,lo 31 30,no 32 31,ix 33 6 25 26,fa 34 5 33,so 1 34 32])
 (sr [mv 35 0,nc 36 35,fa 37 2 36,lo 38 37,mv 39 5,ix 40 1 38 39,lo 41 40,no 42 41]
 (.cond (tZ 42) (rf [mv 43 5,mv 4 43])
 .skip)))))
 (rf [mv 17 5,aSk 18 17 1,mv 5 18]))))))
 (sr [mv 44 3,mv 45 4,ca2 46 71 44 45,mv 2 46]
 .ret)))))⟩
theorem cf55:cFn Tryz.prog Tryz.f70=some af55:=by kernel_rfl
theorem gd55:GD 70 af55:=gG Tryz.func70 cf55 (by kernel_rfl)
def af56:AFn:=⟨13,[(4,none)],(sr [mnZ 4]
 (.seq (.region true [mv 5 0,mv 6 1,oZ 7 (.slSl 6 (tZ 5) (some (tZ 6)) none none),oZ 8 (.append 6 48 [(.int .i64 0),(.int .i64 0),(.int .i64 0),(.int .i64 0),(.int .i64 0),(.bool false)] (.const .nilSl) (tZ 7)),mv 9 0,mv 10 1,⟨(some 11),.slSl 6 (tZ 9) none (some (tZ 10)) none,none,[3]⟩,oZ 12 (.append 6 48 [(.int .i64 0),(.int .i64 0),(.int .i64 0),(.int .i64 0),(.int .i64 0),(.bool false)] (tZ 8) (tZ 11)),mv 4 12])
 .ret))⟩
theorem cf56:cFn Tryz.prog Tryz.f71=some af56:=by kernel_rfl
theorem gd56:GD 71 af56:=gG Tryz.func71 cf56 (by kernel_rfl)
def af57:AFn:=⟨105,[(2,none)],(sr [bo 1 0,oZ 2 (.mov (.const .nilPtr))]
 (sr [fa 15 1 1,lo 16 15,le 17 16,mv 3 17]
 (.seq (.region true [fa 18 1 1,lo 19 18,mv 20 3,⟨(some 21),.makeSl 1 8 [(.int .i64 0)] (tZ 20) (tZ 20),none,[1]⟩,oZ 22 (.build [.nilSl,.nilSl,.nilSl] [(0,1,(tZ 19)),(1,1,(tZ 21))]),bo 23 22,mv 4 23])
 (sr [oZ 24 (.mkMap),mv 5 24]
 (sr [mnZ 6]
 (sr [mtZ 7]
 (.seq (sr [fa 25 1 1,lo 26 25,le 27 26,mk 28 0]
 (.block 0 (.loop (sr [cL 29 28 27]
 (.seq (.cond (tZ 29) .skip
 (.exit 0))
 (.seq (.block 1 (sr [mv 30 28,ix 31 6 26 28,lw 32 6 31,oZ 9 (.alloc [(.int .i64 0),(.int .i64 0),(.int .i64 0),(.int .i64 0),(.int .i64 0),(.bool false)]),mv 8 30,so 6 9 32]
 (.seq (sr [fa 33 0 9,lo 34 33,cEk 35 34 2]
 (.cond (tZ 35) (.seq (sr [mv 37 5,fa 38 3 9,lo 39 38,oZ 40 (.lookup .int (.int .i64 0) true (tZ 37) (tZ 39)),mv 36 40,ex 41 36 0,ex 42 36 1,mv 10 41,mv 11 42]
 (sr [mv 43 11]
 (.cond (tZ 43) (.region true [mv 44 4,nc 45 44,fa 46 1 45,lo 47 46,mv 48 8,mv 49 4,nc 50 49,fa 51 1 50,lo 52 51,mv 53 10,mv 54 10,mv 55 8,ix 56 1 47 48,so 1 56 54,ix 57 1 52 53,so 1 57 55])
 .skip)))
 (sr [mv 58 5,fa 59 3 9,lo 60 59,mv 61 8,pZ (.mapUpd .int (tZ 58) (tZ 60) (tZ 61))]
 (.exit 1)))
 .skip))
 (sr [mv 62 8,mv 63 8,oZ 64 (.bin .mul .num (kZ 2) (tZ 63)),oZ 65 (.build [(.int .i64 0),(.int .i64 0)] [(0,1,(tZ 62)),(1,1,(tZ 64))]),oZ 12 (.alloc [(.int .i64 0),(.int .i64 0)]),so 2 12 65]
 (.seq (sr [mv 66 7]
 (.cond (tZ 66) (rf [mv 67 8,aSk 68 67 1,mv 69 3,aD 70 68 69,mv 71 3,aR 72 70 71,oZ 73 (.bin .mul .num (kZ 2) (tZ 72)),aDk 74 73 1,fa 75 1 12,so 1 75 74])
 .skip))
 (sr [mv 76 7,no 77 76,mv 7 77]
 (rf [mv 78 6,lw 79 2 12,oZ 80 (.mkSl 2 1 [(.int .i64 0),(.int .i64 0)] [(0,(tZ 79))]),oZ 81 (.append 2 16 [(.int .i64 0),(.int .i64 0)] (tZ 78) (tZ 80)),mv 6 81])))))))
 (rf [aDk 82 28 1,mv 28 82])))))))
 (sr [mv 83 6,oZ 84 (.mkFunc (.func 149) [] [(tZ 1)]),ca2 85 148 83 84]
 (.seq (sr [mv 86 6,le 87 86,mk 88 0]
 (.block 2 (.loop (sr [cL 89 88 87]
 (.seq (.cond (tZ 89) .skip
 (.exit 2))
 (.seq (.block 3 (sr [ix 90 2 86 88,lw 91 2 90,oZ 14 (.alloc [(.int .i64 0),(.int .i64 0)]),so 2 14 91]
 (.region true [mv 92 4,mv 93 4,nc 94 93,fa 95 2 94,lo 96 95,fa 97 1 14,lo 98 97,⟨(some 99),.mkSl 1 1 [(.int .i64 0)] [(0,(tZ 98))],none,[4]⟩,oZ 100 (.append 1 8 [(.int .i64 0)] (tZ 96) (tZ 99)),nc 101 92,fa 102 2 101,so 1 102 100])))
 (rf [aDk 103 88 1,mv 88 103])))))))
 (sr [mv 104 4,mv 2 104]
 .ret))))))))))⟩
theorem cf57:cFn Tryz.prog Tryz.f97=some af57:=by kernel_rfl
theorem gd57:GD 97 af57:=gG Tryz.func97 cf57 (by kernel_rfl)
def af58:AFn:=⟨4,[(2,none)],(sr [bo 1 0,oZ 2 (.mov (.const .nilFunc))]
 (sr [oZ 3 (.mkFunc (.func 150) [] [(tZ 1)]),mv 2 3]
 .ret))⟩
theorem cf58:cFn Tryz.prog Tryz.f98=some af58:=by kernel_rfl
theorem gd58:GD 98 af58:=gG Tryz.func98 cf58 (by kernel_rfl)
def af59:AFn:=⟨29,[(2,none),(3,none)],(sr [bo 1 0,oZ 2 (.mov (.const .nilPtr)),mk 3 0]
 (.seq (sr [fa 5 1 1,lo 6 5,le 7 6,cGk 8 7 400,mv 9 8,gZ 10 9 false (.load (some 2) (tZ 1)),gZ 11 9 false (.call (.fn 118) [(tZ 10)]),gZ 12 9 false (.bin .gtr .num (tZ 11) (kZ 200)),pk1 13 9 12]
 (.cond (tZ 13) (sr [oZ 2 (.mov (.const .nilPtr)),mk 3 7]
 .ret)
 .skip))
 (.seq (sr [fa 14 0 1,lo 15 14,cLk 16 15 0,mv 17 16,gff 18 17 0 1,gfl 19 17 18,gZ 20 17 false (.bin .gtr .num (tZ 19) (kZ 40)),pk1 21 17 20]
 (.cond (tZ 21) (sr [oZ 2 (.mov (.const .nilPtr)),mk 3 2]
 .ret)
 .skip))
 (sr [lw 22 2 1,oZ 23 (.build [(.int .i64 0),.nilSl,.nilSl,.nilSl,.nilSl,.nilMap,.nilSl] [(0,2,(tZ 22))]),bo 24 23,mv 4 24]
 (.seq (sr [mv 25 4,ca1 26 119 25,no 27 26]
 (.cond (tZ 27) (sr [oZ 2 (.mov (.const .nilPtr)),mk 3 3]
 .ret)
 .skip))
 (sr [mv 28 4,mv 2 28,mk 3 0]
 .ret))))))⟩
theorem cf59:cFn Tryz.prog Tryz.f73=some af59:=by kernel_rfl
theorem gd59:GD 73 af59:=gG Tryz.func73 cf59 (by kernel_rfl)
def af62:AFn:=⟨44,[(2,none)],(sr [mnZ 2]
 (sr [mv 5 0,nc 6 5,fa 7 0 6,fa 8 1 7,lo 9 8,ca1 10 57 9,mv 3 10]
 (.seq (sr [mv 11 3,le 12 11,mk 13 0]
 (.block 0 (.loop (sr [cL 14 13 12]
 (.seq (.cond (tZ 14) .skip
 (.exit 0))
 (.seq (.block 1 (sr [mv 15 13,mv 4 15]
 (sr [mv 16 3,mv 17 4,ix 18 6 16 17,fa 19 0 18,lo 20 19,cEk 21 20 2]
 (.cond (tZ 21) (.region true [mv 22 3,mv 23 4,mv 24 3,mv 25 4,mv 26 3,mv 27 4,ix 28 6 26 27,fa 29 5 28,lo 30 29,no 31 30,mv 32 3,mv 33 4,ix 34 6 32 33,fa 35 4 34,lo 36 35,oZ 37 (.un .neg (tZ 36)),ix 38 6 22 23,fa 39 5 38,so 1 39 31,ix 40 6 24 25,fa 41 4 40,so 1 41 37])
 .skip))))
 (rf [aDk 42 13 1,mv 13 42])))))))
 (sr [mv 43 3,mv 2 43]
 .ret))))⟩
theorem cf62:cFn Tryz.prog Tryz.f69=some af62:=by kernel_rfl
theorem gd62:GD 69 af62:=gG Tryz.func69 cf62 (by kernel_rfl)
def af63:AFn:=⟨59,[(2,none)],(sr [mnZ 2]
 (sr [mv 6 0,nc 7 6,fa 8 0 7,fa 9 1 8,lo 10 9,ca1 11 57 10,mv 3 11]
 (.seq (sr [mv 12 3,le 13 12,mk 14 0]
 (.block 0 (.loop (sr [cL 15 14 13]
 (.seq (.cond (tZ 15) .skip
 (.exit 0))
 (.seq (.block 1 (sr [mv 16 14,ix 17 6 12 14,lw 18 6 17,oZ 5 (.alloc [(.int .i64 0),(.int .i64 0),(.int .i64 0),(.int .i64 0),(.int .i64 0),(.bool false)]),mv 4 16,so 6 5 18]
 (sr [fa 19 0 5,lo 20 19,cEk 21 20 1]
 (.cond (tZ 21) (.region true [mv 22 3,mv 23 4,mv 24 3,mv 25 4,mv 26 0,nc 27 26,fa 28 0 27,fa 29 0 28,lo 30 29,fa 31 1 5,lo 32 31,aS 33 30 32,mv 34 0,nc 35 34,fa 36 6 35,lo 37 36,fa 38 1 5,lo 39 38,ix 40 1 37 39,lo 41 40,aDk 42 41 1,fa 43 2 5,lo 44 43,aS 45 42 44,ix 46 6 22 23,fa 47 1 46,⟨none,.store 1 (tZ 47) (tZ 33),none,[22]⟩,ix 48 6 24 25,fa 49 2 48,so 1 49 45])
 (rf [mv 50 3,mv 51 4,fa 52 4 5,lo 53 52,oZ 54 (.un .neg (tZ 53)),ix 55 6 50 51,fa 56 4 55,so 1 56 54])))))
 (rf [aDk 57 14 1,mv 14 57])))))))
 (sr [mv 58 3,mv 2 58]
 .ret))))⟩
theorem cf63:cFn Tryz.prog Tryz.f107=some af63:=by kernel_rfl
theorem gd63:GD 107 af63:=gG Tryz.func107 cf63 (by kernel_rfl)
def af64:AFn:=⟨17,[(2,(some (some 2))),(3,none)],(sr [bo 1 0,oZ 2 (.alloc [(.int .i64 0),.nilSl]),mk 3 0]
 (sr [lw 7 2 1,ca1 8 73 7,mv 6 8,ex 9 6 0,ex 10 6 1,mv 4 9,mv 5 10]
 (.seq (sr [mv 11 5,cNk 12 11 0]
 (.cond (tZ 12) (sr [oZ 13 (.build [(.int .i64 0),.nilSl] []),mv 14 5,so 2 2 13,mv 3 14]
 .ret)
 .skip))
 (sr [mv 15 4,ca1 16 74 15,so 2 2 16,mk 3 0]
 .ret))))⟩
theorem cf64:cFn Tryz.prog Tryz.f30=some af64:=by kernel_rfl
theorem gd64:GD 30 af64:=gG Tryz.func30 cf64 (by kernel_rfl)
def af65:AFn:=⟨26,[(4,none)],(sr [mfZ 4]
 (.seq (sr [mv 6 0,le 7 6,mv 8 1,le 9 8,cN 10 7 9]
 (.cond (tZ 10) (sr [mfZ 4]
 .ret)
 .skip))
 (.seq (sr [mv 11 0,le 12 11,mk 13 0]
 (.block 0 (.loop (sr [cL 14 13 12]
 (.seq (.cond (tZ 14) .skip
 (.exit 0))
 (.seq (.block 1 (sr [mv 15 13,mv 5 15]
 (.seq (.region true [mv 16 0,mv 17 5,ix 18 6 16 17,lw 19 6 18,mv 20 1,mv 21 5,ix 22 6 20 21,lw 23 6 22,oZ 24 (.bin .neq (.flat [.int,.int,.int,.int,.int,.bool]) (tZ 19) (tZ 23))])
 (.cond (tZ 24) (sr [mfZ 4]
 .ret)
 .skip))))
 (rf [aDk 25 13 1,mv 13 25])))))))
 (sr [mtZ 4]
 .ret))))⟩
theorem cf65:cFn Tryz.prog Tryz.f108=some af65:=by kernel_rfl
theorem gd65:GD 108 af65:=gG Tryz.func108 cf65 (by kernel_rfl)
def af68:AFn:=⟨24,[(4,none)],(sr [bo 2 0,mfZ 4]
 (sr [mk 5 0]
 (.seq (sr [mk 6 0]
 (.block 0 (.loop (.seq (sr [mv 7 6,mv 8 1,cL 9 7 8]
 (.cond (tZ 9) .skip
 (.exit 0)))
 (.seq (.block 1 (sr [fa 12 1 2,lo 13 12,mv 14 6,ix 15 6 13 14,fa 16 0 15,lo 17 16,cEk 18 17 1]
 (.cond (tZ 18) (rf [mv 19 5,aDk 20 19 1,mv 5 20])
 .skip)))
 (rf [mv 10 6,aDk 11 10 1,mv 6 11]))))))
 (sr [mv 21 5,aRk 22 21 2,cEk 23 22 0,mv 4 23]
 .ret))))⟩
theorem cf68:cFn Tryz.prog Tryz.f105=some af68:=by kernel_rfl
theorem gd68:GD 105 af68:=gG Tryz.func105 cf68 (by kernel_rfl)
def af71:AFn:=⟨5,[(2,none)],(sr [oZ 2 (.mov (.const (.str [])))]
 (sr [mv 3 0,oZ 4 (.call (.fn 183) [(tZ 3),(kZ 10)]),mv 2 4]
 .ret))⟩
theorem cf71:cFn Tryz.prog Tryz.f136=some af71:=by kernel_rfl
theorem gd71:GD 136 af71:=gG Tryz.func136 cf71 (by kernel_rfl)
def af72:AFn:=⟨48,[(4,none)],(sr [mnZ 4]
 (.seq (sr [mv 9 1,cLk 10 9 0]
 (.cond (tZ 10) (rf [oZ 11 (.dead),pZ (.dead)])
 .skip))
 (sr [mv 13 0,le 14 13,oZ 15 (.convInt .u64 (tZ 14)),mv 16 1,oZ 17 (.convInt .u64 (tZ 16)),ca2 18 184 15 17,mv 12 18,ex 19 12 0,ex 20 12 1,mv 5 19,mv 6 20]
 (.seq (sr [mv 21 5,oZ 22 (.bin .gtr .num (tZ 21) (.const (.int .u64 0))),mv 23 22,gfm 24 23 6,gZ 25 23 false (.bin .gtr .num (tZ 24) (.const (.int .u64 9223372036854775807))),pk1 26 23 25]
 (.cond (tZ 26) (rf [oZ 27 (.dead),pZ (.dead)])
 .skip))
 (sr [mv 28 6,oZ 29 (.convInt .i64 (tZ 28)),oZ 30 (.makeSl 1 16 [(.str [])] (tZ 29) (tZ 29)),mv 7 30]
 (sr [mv 31 7,mv 32 0,oZ 33 (.copy 1 (tZ 31) (tZ 32)),mv 8 33]
 (.seq (.block 0 (.loop (.seq (sr [mv 34 8,mv 35 7,le 36 35,cL 37 34 36]
 (.cond (tZ 37) .skip
 (.exit 0)))
 (.block 1 (.region true [mv 38 8,mv 39 7,mv 40 8,oZ 41 (.slSl 1 (tZ 39) (some (tZ 40)) none none),mv 42 7,mv 43 8,oZ 44 (.slSl 1 (tZ 42) none (some (tZ 43)) none),oZ 45 (.copy 1 (tZ 41) (tZ 44)),aD 46 38 45,mv 8 46])))))
 (sr [mv 47 7,mv 4 47]
 .ret))))))))⟩
theorem cf72:cFn Tryz.prog Tryz.f137=some af72:=by kernel_rfl
theorem gd72:GD 137 af72:=gG Tryz.func137 cf72 (by kernel_rfl)
def af76:AFn:=⟨20,[],(.region true [mv 6 0,nc 7 6,fa 8 1 7,lo 9 8,mv 10 1,mv 11 0,nc 12 11,fa 13 1 12,lo 14 13,mv 15 2,mv 16 2,mv 17 1,ix 18 1 9 10,so 1 18 16,ix 19 1 14 15,so 1 19 17])⟩
theorem cf76:cFn Tryz.prog Tryz.f141=some af76:=by kernel_rfl
theorem gd76:GD 141 af76:=gG Tryz.func141 cf76 (by kernel_rfl)
def af77:AFn:=⟨8,[(2,none)],(sr [mnZ 2]
 (.seq (sr [mv 3 0,oZ 4 (.bin .eql .slice (tZ 3) (.const .nilSl))]
 (.cond (tZ 4) (sr [mnZ 2]
 .ret)
 .skip))
 (sr [oZ 5 (.mkSl 1 0 [(.int .i64 0)] []),mv 6 0,oZ 7 (.append 1 8 [(.int .i64 0)] (tZ 5) (tZ 6)),mv 2 7]
 .ret)))⟩
theorem cf77:cFn Tryz.prog Tryz.f142=some af77:=by kernel_rfl
theorem gd77:GD 142 af77:=gG Tryz.func142 cf77 (by kernel_rfl)
def af78:AFn:=⟨55,[(2,(some (some 2)))],(sr [bo 1 0,oZ 2 (.alloc [(.int .i64 0),.nilSl])]
 (sr [lw 6 2 1,ca1 7 60 6,oZ 3 (.alloc [(.int .i64 0),.nilSl]),so 2 3 7]
 (sr [mnZ 4]
 (.seq (sr [mk 5 0]
 (.block 0 (.loop (.seq (sr [mv 8 5,fa 9 1 3,lo 10 9,le 11 10,cL 12 8 11]
 (.cond (tZ 12) .skip
 (.exit 0)))
 (.seq (.block 1 (.seq (sr [fa 15 1 3,lo 16 15,mv 17 5,ix 18 6 16 17,fa 19 0 18,lo 20 19,cNk 21 20 2]
 (.cond (tZ 21) (.exit 1)
 .skip))
 (.seq (sr [mv 22 4,fa 23 1 3,lo 24 23,mv 25 5,ix 26 6 24 25,fa 27 3 26,lo 28 27,ca2 29 161 22 28,cLk 30 29 0]
 (.cond (tZ 30) (rf [mv 31 4,fa 32 1 3,lo 33 32,mv 34 5,ix 35 6 33 34,fa 36 3 35,lo 37 36,oZ 38 (.mkSl 1 1 [(.int .i64 0)] [(0,(tZ 37))]),oZ 39 (.append 1 8 [(.int .i64 0)] (tZ 31) (tZ 38)),mv 4 39])
 .skip))
 (.region true [fa 40 1 3,lo 41 40,mv 42 5,mv 43 4,fa 44 1 1,lo 45 44,mv 46 5,ix 47 6 45 46,fa 48 3 47,lo 49 48,⟨(some 50),.call (.fn 161) [(tZ 43),(tZ 49)],none,[1]⟩,aDk 51 50 1,ix 52 6 41 42,fa 53 3 52,so 1 53 51]))))
 (rf [mv 13 5,aDk 14 13 1,mv 5 14]))))))
 (sr [lw 54 2 3,so 2 2 54]
 .ret)))))⟩
theorem cf78:cFn Tryz.prog Tryz.f143=some af78:=by kernel_rfl
theorem gd78:GD 143 af78:=gG Tryz.func143 cf78 (by kernel_rfl)
def af79:AFn:=⟨37,[(2,(some (some 2)))],(sr [bo 1 0,oZ 2 (.alloc [(.int .i64 0),.nilSl])]
 (sr [fa 6 0 1,lo 7 6,oZ 8 (.build [(.int .i64 0),.nilSl] [(0,1,(tZ 7))]),oZ 3 (.alloc [(.int .i64 0),.nilSl]),so 2 3 8]
 (sr [mnZ 4]
 (.seq (sr [fa 9 1 1,lo 10 9,le 11 10,aSk 12 11 1,mv 5 12]
 (.block 0 (.loop (.seq (sr [mv 13 5,cHk 14 13 0]
 (.cond (tZ 14) .skip
 (.exit 0)))
 (.seq (.block 1 (.seq (.region true [fa 17 1 3,lo 18 17,fa 19 1 1,lo 20 19,mv 21 5,ix 22 6 20 21,lw 23 6 22,⟨(some 24),.mkSl 6 1 [(.int .i64 0),(.int .i64 0),(.int .i64 0),(.int .i64 0),(.int .i64 0),(.bool false)] [(0,(tZ 23))],none,[1]⟩,oZ 25 (.append 6 48 [(.int .i64 0),(.int .i64 0),(.int .i64 0),(.int .i64 0),(.int .i64 0),(.bool false)] (tZ 18) (tZ 24)),fa 26 1 3,so 1 26 25])
 (rf [mv 27 4,lw 28 2 1,mv 29 5,ca2 30 105 28 29,no 31 30,oZ 32 (.mkSl 1 1 [(.bool false)] [(0,(tZ 31))]),oZ 33 (.append 1 1 [(.bool false)] (tZ 27) (tZ 32)),mv 4 33])))
 (rf [mv 15 5,aSk 16 15 1,mv 5 16]))))))
 (sr [lw 34 2 3,mv 35 4,ca2 36 106 34 35,so 2 2 36]
 .ret)))))⟩
theorem cf79:cFn Tryz.prog Tryz.f144=some af79:=by kernel_rfl
theorem gd79:GD 144 af79:=gG Tryz.func144 cf79 (by kernel_rfl)
def af80:AFn:=⟨18,[(4,(some (some 2)))],(sr [bo 2 0,oZ 4 (.alloc [(.int .i64 0),.nilSl])]
 (.seq (.region true [fa 5 0 2,lo 6 5,fa 7 1 2,lo 8 7,mv 9 1,oZ 10 (.slSl 6 (tZ 8) (some (tZ 9)) none none),⟨(some 11),.append 6 48 [(.int .i64 0),(.int .i64 0),(.int .i64 0),(.int .i64 0),(.int .i64 0),(.bool false)] (.const .nilSl) (tZ 10),none,[1]⟩,fa 12 1 2,⟨(some 13),.load none (tZ 12),none,[6]⟩,mv 14 1,⟨(some 15),.slSl 6 (tZ 13) none (some (tZ 14)) none,none,[6]⟩,⟨(some 16),.append 6 48 [(.int .i64 0),(.int .i64 0),(.int .i64 0),(.int .i64 0),(.int .i64 0),(.bool false)] (tZ 11) (tZ 15),none,[1]⟩,oZ 17 (.build [(.int .i64 0),.nilSl] [(0,1,(tZ 6)),(1,1,(tZ 16))]),so 2 4 17])
 .ret))⟩
theorem cf80:cFn Tryz.prog Tryz.f145=some af80:=by kernel_rfl
theorem gd80:GD 145 af80:=gG Tryz.func145 cf80 (by kernel_rfl)
def af81:AFn:=⟨37,[(4,none)],(sr [bo 2 0,bo 3 1,mfZ 4]
 (.seq (sr [mk 5 0]
 (.block 0 (.loop (.seq (sr [mv 6 5,fa 7 1 2,lo 8 7,le 9 8,cL 10 6 9]
 (.cond (tZ 10) .skip
 (.exit 0)))
 (.seq (.block 1 (.seq (.region true [fa 13 1 2,lo 14 13,mv 15 5,ix 16 6 14 15,lw 17 6 16,fa 18 1 3,lo 19 18,mv 20 5,ix 21 6 19 20,lw 22 6 21,oZ 23 (.bin .neq (.flat [.int,.int,.int,.int,.int,.bool]) (tZ 17) (tZ 22))])
 (.cond (tZ 23) (.seq (.region true [fa 24 1 2,lo 25 24,mv 26 5,ix 27 6 25 26,lw 28 6 27,ca1 29 188 28,fa 30 1 3,⟨(some 31),.load none (tZ 30),none,[5]⟩,mv 32 5,⟨(some 33),.idxA 6 (tZ 31) (tZ 32),none,[5]⟩,⟨(some 34),.load (some 6) (tZ 33),none,[5]⟩,ca1 35 188 34,ca2 36 187 29 35,mv 4 36])
 .ret)
 .skip)))
 (rf [mv 11 5,aDk 12 11 1,mv 5 12]))))))
 (sr [mfZ 4]
 .ret)))⟩
theorem cf81:cFn Tryz.prog Tryz.f146=some af81:=by kernel_rfl
theorem gd81:GD 146 af81:=gG Tryz.func146 cf81 (by kernel_rfl)
def af82:AFn:=⟨49,[(2,none)],(sr [bo 1 0,mfZ 2]
 (.seq (sr [fa 5 0 1,lo 6 5,le 7 6,cGk 8 7 40,mv 9 8,gff 10 9 1 1,gfl 11 9 10,gZ 12 9 false (.bin .lss .num (tZ 11) (kZ 0)),pk1 13 9 12,mv 14 13,gff 15 14 1 1,gfl 16 14 15,gZ 17 14 false (.bin .gtr .num (tZ 16) (kZ 40)),pk1 18 14 17,mv 19 18,gff 20 19 2 1,gfl 21 19 20,gZ 22 19 false (.bin .lss .num (tZ 21) (kZ 1)),pk1 23 19 22,mv 24 23,gff 25 24 2 1,gfl 26 24 25,gZ 27 24 false (.bin .gtr .num (tZ 26) (kZ 20)),pk1 28 24 27]
 (.cond (tZ 28) (sr [mfZ 2]
 .ret)
 .skip))
 (.seq (sr [fa 29 0 1,lo 30 29,le 31 30,mk 32 0]
 (.block 0 (.loop (sr [cL 33 32 31]
 (.seq (.cond (tZ 33) .skip
 (.exit 0))
 (.seq (.block 1 (sr [mv 34 32,ix 35 3 30 32,lw 36 3 35,oZ 4 (.alloc [(.int .i64 0),(.bool false),(.int .i64 0)]),mv 3 34,so 3 4 36]
 (.seq (.region true [lw 37 3 4,ca1 38 162 37,no 39 38,mv 40 39,gff 41 40 0 1,gfl 42 40 41,gfm 43 40 3,gZ 44 40 false (.slSl 3 (tZ 42) none (some (tZ 43)) none),gZ 45 40 false (.load (some 3) (tZ 4)),gZ 46 40 false (.call (.fn 163) [(tZ 44),(tZ 45)]),pk1 47 40 46])
 (.cond (tZ 47) (sr [mfZ 2]
 .ret)
 .skip))))
 (rf [aDk 48 32 1,mv 32 48])))))))
 (sr [mtZ 2]
 .ret))))⟩
theorem cf82:cFn Tryz.prog Tryz.f109=some af82:=by kernel_rfl
theorem gd82:GD 109 af82:=gG Tryz.func109 cf82 (by kernel_rfl)
def af83:AFn:=⟨24,[(4,none)],(sr [bo 2 0,bo 3 1,mfZ 4]
 (sr [lw 5 3 2,ca1 6 109 5,mv 7 6,gZ 8 7 true (.load (some 2) (tZ 3)),gZ 9 7 true (.call (.fn 56) [(tZ 8)]),gZ 10 7 true (.bin .eql .num (tZ 9) (kZ 0)),pk0 11 7 10,mv 12 11,gtf 13 12 0 3,gtl 14 12 13,gtf 15 12 0 2,gtl 16 12 15,gZ 17 12 true (.lenSl (tZ 16)),gZ 18 12 true (.bin .eql .num (tZ 14) (tZ 17)),pk0 19 12 18,mv 20 19,gZ 21 20 true (.load (some 2) (tZ 3)),gZ 22 20 true (.call (.fn 164) [(tZ 21)]),pk0 23 20 22,mv 4 23]
 .ret))⟩
theorem cf83:cFn Tryz.prog Tryz.f110=some af83:=by kernel_rfl
theorem gd83:GD 110 af83:=gG Tryz.func110 cf83 (by kernel_rfl)
def af84:AFn:=⟨9,[(4,none)],(sr [mfZ 4]
 (sr [mv 5 0,mv 6 1,ca2 7 165 5 6,cHk 8 7 0,mv 4 8]
 .ret))⟩
theorem cf84:cFn Tryz.prog Tryz.f111=some af84:=by kernel_rfl
theorem gd84:GD 111 af84:=gG Tryz.func111 cf84 (by kernel_rfl)
def af85:AFn:=⟨11,[(3,none)],(sr [bo 2 0,mfZ 3]
 (.seq (.region true [fa 4 0 2,lo 5 4,lo 6 1,oZ 7 (.idxA 3 (tZ 6) (kZ 0)),fa 8 0 7,lo 9 8,cN 10 5 9,mv 3 10])
 .ret))⟩
theorem cf85:cFn Tryz.prog Tryz.f126=some af85:=by kernel_rfl
theorem gd85:GD 126 af85:=gG Tryz.func126 cf85 (by kernel_rfl)
def af86:AFn:=⟨144,[(4,(some (some 2))),(5,none)],(sr [bo 2 0,bo 3 1,oZ 4 (.alloc [(.int .i64 0),.nilSl]),mk 5 0]
 (sr [lw 12 2 2,ca1 13 73 12,mv 11 13,ex 14 11 0,ex 15 11 1,mv 6 14,mv 7 15]
 (.seq (sr [mv 16 7,cNk 17 16 0]
 (.cond (tZ 17) (sr [oZ 18 (.build [(.int .i64 0),.nilSl] []),mv 19 7,so 2 4 18,mv 5 19]
 .ret)
 .skip))
 (.seq (sr [fa 20 0 3,lo 21 20,cLk 22 21 0,mv 23 22,gff 24 23 0 3,gfl 25 23 24,gff 26 23 0 2,gfl 27 23 26,gZ 28 23 false (.bin .gtr .num (tZ 25) (tZ 27)),pk1 29 23 28,mv 30 29,gff 31 30 1 3,gfl 32 30 31,gZ 33 30 false (.bin .lss .num (tZ 32) (kZ 0)),pk1 34 30 33,mv 35 34,gff 36 35 0 2,gfl 37 35 36,gZ 38 35 false (.bin .geq .num (tZ 37) (kZ 40)),pk1 39 35 38]
 (.cond (tZ 39) (sr [oZ 40 (.build [(.int .i64 0),.nilSl] []),so 2 4 40,mk 5 2]
 .ret)
 .skip))
 (.seq (.seq (.region true [mv 41 6,nc 42 41,fa 43 0 42,fa 44 1 43,lo 45 44,le 46 45,cEk 47 46 0,mv 48 47,gtf 49 48 1 3,gtl 50 48 49,gZ 51 48 true (.bin .gtr .num (tZ 50) (kZ 0)),pk0 52 48 51,mv 53 52,gfm 54 53 6,gZ 55 53 false (.nilChk (tZ 54)),gff 56 53 0 55,gff 57 53 1 56,gfl 58 53 57,gZ 59 53 false (.lenSl (tZ 58)),gZ 60 53 false (.bin .gtr .num (tZ 59) (kZ 0)),gfm 61 53 60,gtf 62 61 1 3,gtl 63 61 62,gtm 64 61 6,gZ 65 61 true (.nilChk (tZ 64)),gtf 66 61 6 65,gtl 67 61 66,gtf 68 61 0 3,gtl 69 61 68,gZ 70 61 true (.idxA 1 (tZ 67) (tZ 69)),gtl 71 61 70,gZ 72 61 true (.bin .gtr .num (tZ 63) (tZ 71)),gZ 73 53 false (.pick (tZ 61) (tZ 72) (bZ false)),pk1 74 53 73])
 (.cond (tZ 74) (sr [oZ 75 (.build [(.int .i64 0),.nilSl] []),so 2 4 75,mk 5 2]
 .ret)
 .skip))
 (sr [mv 76 6,nc 77 76,fa 78 0 77,fa 79 1 78,lo 80 79,ca1 81 57 80,mv 8 81]
 (.seq (sr [mv 82 8,le 83 82,mk 84 0]
 (.block 0 (.loop (sr [cL 85 84 83]
 (.seq (.cond (tZ 85) .skip
 (.exit 0))
 (.seq (.block 1 (sr [mv 86 84,ix 87 6 82 84,lw 88 6 87,oZ 10 (.alloc [(.int .i64 0),(.int .i64 0),(.int .i64 0),(.int .i64 0),(.int .i64 0),(.bool false)]),mv 9 86,so 6 10 88]
 (.block 2 (sr [fa 90 0 10,lo 91 90,cNk 92 91 1,mv 93 92,gff 94 93 1 10,gfl 95 93 94,gff 96 93 0 3,gfl 97 93 96,gZ 98 93 false (.bin .lss .num (tZ 95) (tZ 97)),pk1 99 93 98,mv 89 99]
 (.cond (tZ 89) .skip
 (sr [fa 101 1 10,lo 102 101,fa 103 0 3,lo 104 103,cG 105 102 104,mv 100 105]
 (.cond (tZ 100) (rf [mv 106 8,mv 107 9,ix 108 6 106 107,fa 109 1 108,lo 110 109,aDk 111 110 1,ix 112 6 106 107,fa 113 1 112,so 1 113 111])
 (sr [fa 115 2 10,lo 116 115,fa 117 1 3,lo 118 117,cG 119 116 118,mv 114 119]
 (.cond (tZ 114) (sr [mv 120 8,mv 121 9,ix 122 6 120 121,fa 123 1 122,lo 124 123,aDk 125 124 1,ix 126 6 120 121,fa 127 1 126,so 1 127 125]
 (.region true [mv 128 8,mv 129 9,ix 130 6 128 129,fa 131 2 130,lo 132 131,fa 133 1 3,lo 134 133,aS 135 132 134,ix 136 6 128 129,fa 137 2 136,so 1 137 135]))
 .skip)))))))))
 (rf [aDk 138 84 1,mv 84 138])))))))
 (sr [fa 139 0 2,lo 140 139,aDk 141 140 1,mv 142 8,oZ 143 (.build [(.int .i64 0),.nilSl] [(0,1,(tZ 141)),(1,1,(tZ 142))]),so 2 4 143,mk 5 0]
 .ret))))))))⟩
theorem cf86:cFn Tryz.prog Tryz.f127=some af86:=by kernel_rfl
theorem gd86:GD 127 af86:=gG Tryz.func127 cf86 (by kernel_rfl)
def af87:AFn:=⟨95,[(6,none)],(sr [mnZ 6]
 (sr [mv 10 0,mv 11 1,oZ 12 (.slSl 3 (tZ 10) (some (tZ 11)) none none)]
 (sr [mv 13 2,le 14 13,mv 7 14]
 (.seq (sr [mv 15 7,cEk 16 15 0]
 (.cond (tZ 16) (sr [mv 17 0,mv 6 17]
 .ret)
 .skip))
 (sr [mv 18 0,le 19 18,mv 8 19]
 (.seq (sr [mv 20 1,mv 21 8,cE 22 20 21]
 (.cond (tZ 22) (sr [mv 23 0,mv 24 2,oZ 25 (.append 3 24 [(.int .i64 0),(.bool false),(.int .i64 0)] (tZ 23) (tZ 24)),mv 6 25]
 .ret)
 .skip))
 (.seq (sr [mv 26 8,mv 27 7,aD 28 26 27,mv 29 0,oZ 30 (.capSl (tZ 29)),cG 31 28 30]
 (.cond (tZ 31) (sr [mv 32 0,mv 33 1,oZ 34 (.slSl 3 (tZ 32) none (some (tZ 33)) none),mv 35 8,mv 36 7,aD 37 35 36,mv 38 1,aS 39 37 38,oZ 40 (.appendZ 3 24 [(.int .i64 0),(.bool false),(.int .i64 0)] (tZ 34) (tZ 39)),mv 9 40]
 (sr [mv 41 9,mv 42 1,oZ 43 (.slSl 3 (tZ 41) (some (tZ 42)) none none),mv 44 2,oZ 45 (.copy 3 (tZ 43) (tZ 44))]
 (.seq (.region true [mv 46 9,mv 47 1,mv 48 7,aD 49 47 48,oZ 50 (.slSl 3 (tZ 46) (some (tZ 49)) none none),mv 51 0,mv 52 1,oZ 53 (.slSl 3 (tZ 51) (some (tZ 52)) none none),oZ 54 (.copy 3 (tZ 50) (tZ 53))])
 (sr [mv 55 9,mv 6 55]
 .ret))))
 .skip))
 (sr [mv 56 0,mv 57 8,mv 58 7,aD 59 57 58,oZ 60 (.slSl 3 (tZ 56) none (some (tZ 59)) none),mv 0 60]
 (.seq (sr [mv 61 2,mv 62 0,mv 63 1,mv 64 7,aD 65 63 64,oZ 66 (.slSl 3 (tZ 62) (some (tZ 65)) none none),ca2 67 176 61 66,no 68 67]
 (.cond (tZ 68) (.seq (.region true [mv 69 0,mv 70 1,mv 71 7,aD 72 70 71,oZ 73 (.slSl 3 (tZ 69) (some (tZ 72)) none none),mv 74 0,mv 75 1,oZ 76 (.slSl 3 (tZ 74) (some (tZ 75)) none none),oZ 77 (.copy 3 (tZ 73) (tZ 76))])
 (sr [mv 78 0,mv 79 1,oZ 80 (.slSl 3 (tZ 78) (some (tZ 79)) none none),mv 81 2,oZ 82 (.copy 3 (tZ 80) (tZ 81))]
 (sr [mv 83 0,mv 6 83]
 .ret)))
 .skip))
 (sr [mv 84 0,mv 85 8,oZ 86 (.slSl 3 (tZ 84) (some (tZ 85)) none none),mv 87 2,oZ 88 (.copy 3 (tZ 86) (tZ 87))]
 (sr [mv 89 0,mv 90 1,oZ 91 (.slSl 3 (tZ 89) (some (tZ 90)) none none),mv 92 7,ca2 93 177 91 92]
 (sr [mv 94 0,mv 6 94]
 .ret))))))))))))⟩
theorem cf87:cFn Tryz.prog Tryz.f128=some af87:=by kernel_rfl
theorem gd87:GD 128 af87:=gG Tryz.func128 cf87 (by kernel_rfl)
def af88:AFn:=⟨8,[(2,none)],(sr [mnZ 2]
 (.seq (sr [mv 3 0,oZ 4 (.bin .eql .slice (tZ 3) (.const .nilSl))]
 (.cond (tZ 4) (sr [mnZ 2]
 .ret)
 .skip))
 (sr [oZ 5 (.mkSl 3 0 [(.int .i64 0),(.bool false),(.int .i64 0)] []),mv 6 0,oZ 7 (.append 3 24 [(.int .i64 0),(.bool false),(.int .i64 0)] (tZ 5) (tZ 6)),mv 2 7]
 .ret)))⟩
theorem cf88:cFn Tryz.prog Tryz.f115=some af88:=by kernel_rfl
theorem gd88:GD 115 af88:=gG Tryz.func115 cf88 (by kernel_rfl)
def af89:AFn:=⟨8,[(3,none)],(sr [bo 2 0,mfZ 3]
 (sr [fa 4 0 2,lo 5 4,lo 6 1,cE 7 5 6,mv 3 7]
 .ret))⟩
theorem cf89:cFn Tryz.prog Tryz.f112=some af89:=by kernel_rfl
theorem gd89:GD 112 af89:=gG Tryz.func112 cf89 (by kernel_rfl)
def af90:AFn:=⟨45,[(4,none)],(sr [mk 4 0]
 (.seq (.region true [mv 11 0,nc 12 11,fa 13 0 12,lw 14 3 13,mv 15 0,nc 16 15,fa 17 3 16,lw 18 2 17,ca2 19 122 14 18,mv 10 19,ex 20 10 0,ex 21 10 1,mv 5 20,mv 6 21])
 (sr [mk 7 0]
 (.seq (sr [mv 22 0,nc 23 22,fa 24 0 23,fa 25 0 24,lo 26 25,le 27 26,mk 28 0]
 (.block 0 (.loop (sr [cL 29 28 27]
 (.seq (.cond (tZ 29) .skip
 (.exit 0))
 (.seq (.block 1 (sr [mv 30 28,ix 31 3 26 28,lw 32 3 31,oZ 9 (.alloc [(.int .i64 0),(.bool false),(.int .i64 0)]),mv 8 30,so 3 9 32]
 (sr [fa 33 0 9,lo 34 33,mv 35 1,cE 36 34 35]
 (.cond (tZ 36) (rf [mv 37 7,mv 38 5,mv 39 8,ix 40 1 38 39,lo 41 40,aD 42 37 41,mv 7 42])
 .skip))))
 (rf [aDk 43 28 1,mv 28 43])))))))
 (sr [mv 44 7,mv 4 44]
 .ret)))))⟩
theorem cf90:cFn Tryz.prog Tryz.f75=some af90:=by kernel_rfl
theorem gd90:GD 75 af90:=gG Tryz.func75 cf90 (by kernel_rfl)
def af93:AFn:=⟨27,[(2,none)],(sr [oZ 2 (.mov (.const (.str [])))]
 (.seq (sr [mv 3 0,cLk 4 3 0]
 (.cond (tZ 4) (.seq (sr [mv 5 0,mv 6 0,oZ 7 (.un .neg (tZ 6)),cE 8 5 7]
 (.cond (tZ 8) (sr [oZ 2 (.mov (.const (.str [45,57,50,50,51,51,55,50,48,51,54,56,53,52,55,55,53,56,48,56])))]
 .ret)
 .skip))
 (sr [mv 9 0,oZ 10 (.un .neg (tZ 9)),ca1 11 147 10,oZ 12 (.bin .add .num (.const (.str [45])) (tZ 11)),mv 2 12]
 .ret))
 .skip))
 (.seq (sr [mv 13 0,cLk 14 13 10]
 (.cond (tZ 14) (sr [mv 15 0,oZ 16 (.bin .add .num (kZ 48) (tZ 15)),oZ 17 (.convInt .u8 (tZ 16)),oZ 18 (.mkSl 1 1 [(.int .u8 0)] [(0,(tZ 17))]),oZ 19 (.toStr (tZ 18)),mv 2 19]
 .ret)
 .skip))
 (sr [mv 20 0,aQk 21 20 10,ca1 22 147 21,mv 23 0,aRk 24 23 10,ca1 25 147 24,aD 26 22 25,mv 2 26]
 .ret))))⟩
theorem cf93:cFn Tryz.prog Tryz.f147=some af93:=by kernel_rfl
theorem gd93:GD 147 af93:=gG Tryz.func147 cf93 (by kernel_rfl)
def af94:AFn:=⟨14,[],(sr [mv 5 0,le 6 5,mv 4 6]
 (rf [mv 7 0,mv 8 4,mv 9 4,oZ 10 (.convInt .u64 (tZ 9)),ca1 11 190 10,mv 12 1,oZ 13 (.call (.fn 189) [(tZ 7),(kZ 0),(tZ 8),(tZ 11),(tZ 12)])]))⟩
theorem cf94:cFn Tryz.prog Tryz.f148=some af94:=by kernel_rfl
theorem gd94:GD 148 af94:=gG Tryz.func148 cf94 (by kernel_rfl)
def af95:AFn:=⟨35,[(5,none)],(sr [bo 3 0,bo 4 1,mk 5 0]
 (.seq (.region true [fa 8 1 2,lo 9 8,fa 10 0 3,lo 11 10,ix 12 6 9 11,lw 13 6 12,fa 14 1 2,lo 15 14,fa 16 0 4,lo 17 16,ix 18 6 15 17,lw 19 6 18,⟨(some 6),.alloc [(.int .i64 0),(.int .i64 0),(.int .i64 0),(.int .i64 0),(.int .i64 0),(.bool false)],none,[1,3,4,5,7,9,10,11]⟩,⟨(some 7),.alloc [(.int .i64 0),(.int .i64 0),(.int .i64 0),(.int .i64 0),(.int .i64 0),(.bool false)],none,[1,3,4,5,7,9,10,11,12]⟩,⟨none,.store 6 (tZ 6) (tZ 13),none,[7,9,10,11]⟩,so 6 7 19])
 (.seq (sr [fa 20 1 6,lo 21 20,fa 22 1 7,lo 23 22,cN 24 21 23]
 (.cond (tZ 24) (sr [fa 25 1 6,lo 26 25,fa 27 1 7,lo 28 27,aS 29 26 28,mv 5 29]
 .ret)
 .skip))
 (sr [fa 30 2 6,lo 31 30,fa 32 2 7,lo 33 32,aS 34 31 33,mv 5 34]
 .ret))))⟩
theorem cf95:cFn Tryz.prog Tryz.f149=some af95:=by kernel_rfl
theorem gd95:GD 149 af95:=gG Tryz.func149 cf95 (by kernel_rfl)
def af96:AFn:=⟨163,[],(.scope (sr [oZ 14 (.mkMap),mv 3 14]
 (.seq .skip
 (.block 0 (.loop (.seq (sr [lo 15 1,nc 16 15,fa 17 2 16,lo 18 17,le 19 18,cGk 20 19 0]
 (.cond (tZ 20) .skip
 (.exit 0)))
 (.block 1 (.seq (sr [mk 4 0]
 (.block 2 (.loop (.seq (sr [mv 21 4,aDk 22 21 1,lo 23 1,nc 24 23,fa 25 2 24,lo 26 25,le 27 26,cL 28 22 27]
 (.cond (tZ 28) .skip
 (.exit 2)))
 (.seq (.block 3 (.seq (.seq (.region true [lo 31 1,nc 32 31,fa 33 2 32,lo 34 33,mv 35 4,ix 36 1 34 35,lo 37 36,lo 38 1,nc 39 38,fa 40 2 39,lo 41 40,mv 42 4,aDk 43 42 1,ix 44 1 41 43,lo 45 44,⟨(some 46),.call (.fn 151) [(tZ 45)],none,[0,3,5,6]⟩,cN 47 37 46])
 (.cond (tZ 47) (.exit 3)
 .skip))
 (.seq (.region true [lo 48 1,lo 49 1,nc 50 49,fa 51 2 50,lo 52 51,mv 53 4,mv 54 4,aDk 55 54 2,⟨(some 56),.call (.fn 152) [(tZ 52),(tZ 53),(tZ 55)],none,[0]⟩,nc 57 48,fa 58 2 57,so 1 58 56])
 (.seq (sr [mv 59 0,mv 60 4,oZ 61 (.build [(.int .i64 0),(.int .i64 0),(.int .i64 0),(.bool false)] [(0,1,(kZ 1)),(1,1,(tZ 60))]),oZ 62 (.call (tZ 59) [(tZ 61)]),no 63 62]
 (.cond (tZ 63) .ret
 .skip))
 (.exit 1)))))
 (rf [mv 29 4,aDk 30 29 1,mv 4 30]))))))
 (sr [mk 5 (-1),mk 6 0]
 (.seq (sr [lo 64 1,nc 65 64,fa 66 2 65,lo 67 66,le 68 67,mk 69 0]
 (.block 4 (.loop (sr [cL 70 69 68]
 (.seq (.cond (tZ 70) .skip
 (.exit 4))
 (.seq (.block 5 (sr [mv 71 69,ix 72 1 67 69,lo 73 72,mv 7 71,mv 8 73]
 (.seq (.seq (.region true [lo 74 1,nc 75 74,fa 76 0 75,lo 77 76,lo 78 1,mv 79 8,⟨(some 80),.call (.fn 153) [(tZ 78),(tZ 79)],none,[0,3]⟩,ix 81 6 77 80,lw 82 6 81,⟨(some 9),.alloc [(.int .i64 0),(.int .i64 0),(.int .i64 0),(.int .i64 0),(.int .i64 0),(.bool false)],none,[0,3,4,6,7,8]⟩,so 6 9 82])
 (sr [fa 83 0 9,lo 84 83,cNk 85 84 2,mv 86 85,gfm 87 86 3,gff 88 86 3 9,gfl 89 86 88,gZ 90 86 false (.lookup .int (.bool false) false (tZ 87) (tZ 89)),pk1 91 86 90]
 (.cond (tZ 91) (.exit 5)
 .skip)))
 (sr [lo 92 1,mv 93 7,ca2 94 154 92 93,mv 10 94]
 (sr [mv 95 10,mv 96 6,cG 97 95 96]
 (.cond (tZ 97) (rf [mv 98 7,mv 99 10,mv 5 98,mv 6 99])
 .skip))))))
 (rf [aDk 100 69 1,mv 69 100])))))))
 (.seq (sr [mv 101 5,cLk 102 101 0]
 (.cond (tZ 102) .ret
 .skip))
 (.seq (.region true [lo 103 1,nc 104 103,fa 105 0 104,lo 106 105,lo 107 1,lo 108 1,nc 109 108,fa 110 2 109,lo 111 110,mv 112 5,ix 113 1 111 112,lo 114 113,⟨(some 115),.call (.fn 153) [(tZ 107),(tZ 114)],none,[0,3]⟩,ix 116 6 106 115,lw 117 6 116,⟨(some 11),.alloc [(.int .i64 0),(.int .i64 0),(.int .i64 0),(.int .i64 0),(.int .i64 0),(.bool false)],none,[0,3,4,5,8,10,11,12,13,14]⟩,so 6 11 117])
 (sr [mv 118 3,fa 119 3 11,lo 120 119,pZ (.mapUpd .int (tZ 118) (tZ 120) (bZ true))]
 (sr [mnZ 12]
 (sr [lo 121 1,nc 122 121,fa 123 2 122,lo 124 123,mv 125 5,ix 126 1 124 125,lo 127 126,mv 13 127]
 (.seq (sr [mv 128 6,oZ 129 (.bin .sub .num (kZ 4) (tZ 128)),mk 130 0]
 (.block 6 (.loop (sr [cL 131 130 129]
 (.seq (.cond (tZ 131) .skip
 (.exit 6))
 (.seq (.block 7 (sr [lo 132 1,mv 133 13,ca2 134 155 132 133,mv 13 134]
 (sr [mv 135 12,mv 136 13,oZ 137 (.mkSl 1 1 [(.int .i64 0)] [(0,(tZ 136))]),oZ 138 (.append 1 8 [(.int .i64 0)] (tZ 135) (tZ 137)),mv 12 138]
 (rf [mv 139 13,ca1 140 151 139,mv 13 140]))))
 (rf [aDk 141 130 1,mv 130 141])))))))
 (.seq (.region true [lo 142 1,lo 143 1,nc 144 143,fa 145 2 144,lo 146 145,mv 147 5,mv 148 5,mv 149 6,aD 150 148 149,mv 151 12,⟨(some 152),.call (.fn 156) [(tZ 146),(tZ 147),(tZ 150),(tZ 151)],none,[0]⟩,nc 153 142,fa 154 2 153,so 1 154 152])
 (sr [mv 155 0,mv 156 5,mv 157 6,fa 158 5 11,lo 159 158,oZ 160 (.build [(.int .i64 0),(.int .i64 0),(.int .i64 0),(.bool false)] [(0,1,(kZ 2)),(1,1,(tZ 156)),(2,1,(tZ 157)),(3,1,(tZ 159))]),oZ 161 (.call (tZ 155) [(tZ 160)]),no 162 161]
 (.cond (tZ 162) .ret
 .skip)))))))))))))))))))⟩
theorem cf96:cFn Tryz.prog Tryz.f150=some af96:=by kernel_rfl
theorem gd96:GD 150 af96:=gG Tryz.func150 cf96 (by kernel_rfl)
def af97:AFn:=⟨5,[(2,none)],(sr [mk 2 0]
 (sr [mv 3 0,oZ 4 (.bin .xor .num (tZ 3) (kZ 1)),mv 2 4]
 .ret))⟩
theorem cf97:cFn Tryz.prog Tryz.f151=some af97:=by kernel_rfl
theorem gd97:GD 151 af97:=gG Tryz.func151 cf97 (by kernel_rfl)
def af98:AFn:=⟨33,[(6,none)],(sr [mnZ 6]
 (sr [mv 8 0,mv 9 1,mv 10 2,mv 11 0,le 12 11,oZ 13 (.slSl 1 (tZ 8) (some (tZ 9)) (some (tZ 10)) (some (tZ 12)))]
 (.seq (sr [mv 14 1,mv 15 2,cE 16 14 15]
 (.cond (tZ 16) (sr [mv 17 0,mv 6 17]
 .ret)
 .skip))
 (sr [mv 18 0,le 19 18,mv 7 19]
 (.seq (.region true [mv 20 0,mv 21 1,oZ 22 (.slSl 1 (tZ 20) none (some (tZ 21)) none),mv 23 0,mv 24 2,oZ 25 (.slSl 1 (tZ 23) (some (tZ 24)) none none),oZ 26 (.append 1 8 [(.int .i64 0)] (tZ 22) (tZ 25)),mv 0 26])
 (sr [mv 27 0,mv 28 0,le 29 28,mv 30 7,oZ 31 (.slSl 1 (tZ 27) (some (tZ 29)) (some (tZ 30)) none),pZ (.clear 1 [(.int .i64 0)] (tZ 31))]
 (sr [mv 32 0,mv 6 32]
 .ret)))))))⟩
theorem cf98:cFn Tryz.prog Tryz.f152=some af98:=by kernel_rfl
theorem gd98:GD 152 af98:=gG Tryz.func152 cf98 (by kernel_rfl)
def af99:AFn:=⟨19,[(4,none)],(sr [mk 4 0]
 (.seq (sr [mv 5 1,aRk 6 5 2,cEk 7 6 0]
 (.cond (tZ 7) (sr [mv 8 1,aQk 9 8 2,aDk 10 9 1,mv 11 0,nc 12 11,fa 13 0 12,lo 14 13,le 15 14,aR 16 10 15,mv 4 16]
 .ret)
 .skip))
 (sr [mv 17 1,aQk 18 17 2,mv 4 18]
 .ret)))⟩
theorem cf99:cFn Tryz.prog Tryz.f153=some af99:=by kernel_rfl
theorem gd99:GD 153 af99:=gG Tryz.func153 cf99 (by kernel_rfl)
end Go.Known
end
section
namespace Go.Known
open Go Go.AE Go.Proofs
def af100:AFn:=⟨81,[(4,none)],(sr [mk 4 0]
 (.seq (.region true [mv 9 0,nc 10 9,fa 11 0 10,lo 12 11,mv 13 0,mv 14 0,nc 15 14,fa 16 2 15,lo 17 16,mv 18 1,ix 19 1 17 18,lo 20 19,⟨(some 21),.call (.fn 153) [(tZ 13),(tZ 20)],none,[3]⟩,ix 22 6 12 21,fa 23 3 22,lo 24 23,mv 5 24])
 (sr [mk 6 1]
 (.seq (.block 0 (.loop (.seq (sr [mv 25 1,mv 26 6,aD 27 25 26,mv 28 0,nc 29 28,fa 30 2 29,lo 31 30,le 32 31,cL 33 27 32]
 (.cond (tZ 33) .skip
 (.exit 0)))
 (.block 1 (sr [mv 34 0,nc 35 34,fa 36 2 35,lo 37 36,mv 38 1,mv 39 6,aD 40 38 39,ix 41 1 37 40,lo 42 41,mv 7 42]
 (.seq (.region true [mv 43 0,nc 44 43,fa 45 0 44,lo 46 45,mv 47 0,mv 48 7,⟨(some 49),.call (.fn 153) [(tZ 47),(tZ 48)],none,[3]⟩,ix 50 6 46 49,lw 51 6 50,⟨(some 8),.alloc [(.int .i64 0),(.int .i64 0),(.int .i64 0),(.int .i64 0),(.int .i64 0),(.bool false)],none,[3,6,7,8]⟩,so 6 8 51])
 (.seq (.seq (.region true [fa 52 0 8,lo 53 52,cNk 54 53 2,mv 55 54,gff 56 55 3 8,gfl 57 55 56,gfm 58 55 5,gZ 59 55 false (.bin .neq .num (tZ 57) (tZ 58)),pk1 60 55 59,mv 61 60,gfm 62 61 0,gfm 63 61 7,gZ 64 61 false (.call (.fn 155) [(tZ 62),(tZ 63)]),gfm 65 61 0,gZ 66 61 false (.nilChk (tZ 65)),gff 67 61 2 66,⟨(some 68),.load none (tZ 67),(some (61,false)),[12]⟩,gfm 69 61 1,gfm 70 61 6,gZ 71 61 false (.bin .add .num (tZ 69) (tZ 70)),gZ 72 61 false (.bin .sub .num (tZ 71) (kZ 1)),⟨(some 73),.idxA 1 (tZ 68) (tZ 72),(some (61,false)),[12]⟩,⟨(some 74),.load none (tZ 73),(some (61,false)),[12]⟩,gZ 75 61 false (.call (.fn 151) [(tZ 74)]),gZ 76 61 false (.bin .neq .num (tZ 64) (tZ 75)),pk1 77 61 76])
 (.cond (tZ 77) (.exit 0)
 .skip))
 (rf [mv 78 6,aDk 79 78 1,mv 6 79]))))))))
 (sr [mv 80 6,mv 4 80]
 .ret)))))⟩
theorem cf100:cFn Tryz.prog Tryz.f154=some af100:=by kernel_rfl
theorem gd100:GD 154 af100:=gG Tryz.func154 cf100 (by kernel_rfl)
def af101:AFn:=⟨53,[(4,none)],(sr [mk 4 0]
 (sr [mv 8 0,mv 9 1,ca2 10 153 8 9,mv 5 10]
 (sr [mv 11 0,nc 12 11,fa 13 0 12,lo 14 13,mv 15 5,ix 16 6 14 15,lw 17 6 16,oZ 6 (.alloc [(.int .i64 0),(.int .i64 0),(.int .i64 0),(.int .i64 0),(.int .i64 0),(.bool false)]),so 6 6 17]
 (sr [mv 18 0,nc 19 18,fa 20 1 19,lo 21 20,mv 22 5,ix 23 1 21 22,lo 24 23,mv 7 24]
 (.seq (sr [mv 25 1,aRk 26 25 2,cEk 27 26 0,fa 28 5 6,lo 29 28,fa 30 4 6,lo 31 30,cEk 32 31 1,oZ 33 (.bin .eql .bool (tZ 29) (tZ 32)),oZ 34 (.bin .eql .bool (tZ 27) (tZ 33))]
 (.cond (tZ 34) (sr [mv 35 7,oZ 36 (.bin .mul .num (kZ 2) (tZ 35)),mv 4 36]
 .ret)
 .skip))
 (.seq (.region true [mv 37 7,aSk 38 37 1,mv 39 0,nc 40 39,fa 41 0 40,lo 42 41,le 43 42,aD 44 38 43,mv 45 0,nc 46 45,fa 47 0 46,lo 48 47,le 49 48,aR 50 44 49,oZ 51 (.bin .mul .num (kZ 2) (tZ 50)),aDk 52 51 1,mv 4 52])
 .ret))))))⟩
theorem cf101:cFn Tryz.prog Tryz.f155=some af101:=by kernel_rfl
theorem gd101:GD 155 af101:=gG Tryz.func155 cf101 (by kernel_rfl)
def af102:AFn:=⟨224,[(8,none)],(sr [mnZ 8]
 (sr [mv 15 0,mv 16 1,mv 17 2,oZ 18 (.slSl 1 (tZ 15) (some (tZ 16)) (some (tZ 17)) none)]
 (.seq (sr [mv 19 1,mv 20 2,cE 21 19 20]
 (.cond (tZ 21) (sr [mv 22 0,mv 23 1,mv 24 3,ca3 25 191 22 23 24,mv 8 25]
 .ret)
 .skip))
 (.seq (sr [mv 26 2,mv 27 0,le 28 27,cE 29 26 28]
 (.cond (tZ 29) (sr [mv 30 0,mv 31 1,oZ 32 (.slSl 1 (tZ 30) none (some (tZ 31)) none),mv 33 3,oZ 34 (.append 1 8 [(.int .i64 0)] (tZ 32) (tZ 33)),mv 9 34]
 (.seq (sr [mv 35 9,le 36 35,mv 37 0,le 38 37,cL 39 36 38]
 (.cond (tZ 39) (rf [mv 40 0,mv 41 9,le 42 41,oZ 43 (.slSl 1 (tZ 40) (some (tZ 42)) none none),pZ (.clear 1 [(.int .i64 0)] (tZ 43))])
 .skip))
 (sr [mv 44 9,mv 8 44]
 .ret)))
 .skip))
 (.seq (.region true [mv 45 0,mv 46 1,oZ 47 (.slSl 1 (tZ 45) none (some (tZ 46)) none),le 48 47,mv 49 3,le 50 49,aD 51 48 50,mv 52 0,mv 53 2,oZ 54 (.slSl 1 (tZ 52) (some (tZ 53)) none none),le 55 54,aD 56 51 55,mv 10 56])
 (.seq (sr [mv 57 10,mv 58 0,oZ 59 (.capSl (tZ 58)),cG 60 57 59]
 (.cond (tZ 60) (sr [mv 61 0,mv 62 1,oZ 63 (.slSl 1 (tZ 61) none (some (tZ 62)) none),mv 64 10,mv 65 1,aS 66 64 65,oZ 67 (.appendZ 1 8 [(.int .i64 0)] (tZ 63) (tZ 66)),mv 11 67]
 (sr [mv 68 11,mv 69 1,oZ 70 (.slSl 1 (tZ 68) (some (tZ 69)) none none),mv 71 3,oZ 72 (.copy 1 (tZ 70) (tZ 71))]
 (.seq (.region true [mv 73 11,mv 74 1,mv 75 3,le 76 75,aD 77 74 76,oZ 78 (.slSl 1 (tZ 73) (some (tZ 77)) none none),mv 79 0,mv 80 2,oZ 81 (.slSl 1 (tZ 79) (some (tZ 80)) none none),oZ 82 (.copy 1 (tZ 78) (tZ 81))])
 (sr [mv 83 11,mv 8 83]
 .ret))))
 .skip))
 (sr [mv 84 0,mv 85 10,oZ 86 (.slSl 1 (tZ 84) none (some (tZ 85)) none),mv 12 86]
 (.seq (sr [mv 87 1,mv 88 3,le 89 88,aD 90 87 89,mv 91 2,cK 92 90 91]
 (.cond (tZ 92) (sr [mv 93 12,mv 94 1,oZ 95 (.slSl 1 (tZ 93) (some (tZ 94)) none none),mv 96 3,oZ 97 (.copy 1 (tZ 95) (tZ 96))]
 (.seq (.region true [mv 98 12,mv 99 1,mv 100 3,le 101 100,aD 102 99 101,oZ 103 (.slSl 1 (tZ 98) (some (tZ 102)) none none),mv 104 0,mv 105 2,oZ 106 (.slSl 1 (tZ 104) (some (tZ 105)) none none),oZ 107 (.copy 1 (tZ 103) (tZ 106))])
 (sr [mv 108 0,mv 109 10,oZ 110 (.slSl 1 (tZ 108) (some (tZ 109)) none none),pZ (.clear 1 [(.int .i64 0)] (tZ 110))]
 (sr [mv 111 12,mv 8 111]
 .ret))))
 .skip))
 (.seq (sr [mv 112 12,mv 113 1,mv 114 3,le 115 114,aD 116 113 115,oZ 117 (.slSl 1 (tZ 112) (some (tZ 116)) none none),mv 118 3,ca2 119 192 117 118,no 120 119]
 (.cond (tZ 120) (.seq (.region true [mv 121 12,mv 122 1,mv 123 3,le 124 123,aD 125 122 124,oZ 126 (.slSl 1 (tZ 121) (some (tZ 125)) none none),mv 127 0,mv 128 2,oZ 129 (.slSl 1 (tZ 127) (some (tZ 128)) none none),oZ 130 (.copy 1 (tZ 126) (tZ 129))])
 (sr [mv 131 12,mv 132 1,oZ 133 (.slSl 1 (tZ 131) (some (tZ 132)) none none),mv 134 3,oZ 135 (.copy 1 (tZ 133) (tZ 134))]
 (sr [mv 136 12,mv 8 136]
 .ret)))
 .skip))
 (sr [mv 137 3,le 138 137,mv 139 2,mv 140 1,aS 141 139 140,aS 142 138 141,mv 13 142]
 (.seq (sr [mv 143 12,mv 144 1,mv 145 2,oZ 146 (.slSl 1 (tZ 143) (some (tZ 144)) (some (tZ 145)) none),mv 147 3,ca2 148 192 146 147,no 149 148]
 (.cond (tZ 149) (.seq (.region true [mv 150 12,mv 151 1,mv 152 2,oZ 153 (.slSl 1 (tZ 150) (some (tZ 151)) (some (tZ 152)) none),mv 154 3,mv 155 13,oZ 156 (.slSl 1 (tZ 154) (some (tZ 155)) none none),oZ 157 (.copy 1 (tZ 153) (tZ 156))])
 (.seq (.region true [mv 158 12,mv 159 0,le 160 159,oZ 161 (.slSl 1 (tZ 158) (some (tZ 160)) none none),mv 162 3,mv 163 13,oZ 164 (.slSl 1 (tZ 162) none (some (tZ 163)) none),oZ 165 (.copy 1 (tZ 161) (tZ 164))])
 (sr [mv 166 12,mv 167 1,oZ 168 (.slSl 1 (tZ 166) (some (tZ 167)) none none),mv 169 13,ca2 170 193 168 169]
 (sr [mv 171 12,mv 8 171]
 .ret))))
 .skip))
 (.seq (sr [mv 172 12,mv 173 0,le 174 173,oZ 175 (.slSl 1 (tZ 172) (some (tZ 174)) none none),mv 176 3,ca2 177 192 175 176,no 178 177]
 (.cond (tZ 178) (.seq (.region true [mv 179 12,mv 180 0,le 181 180,oZ 182 (.slSl 1 (tZ 179) (some (tZ 181)) none none),mv 183 3,mv 184 13,oZ 185 (.slSl 1 (tZ 183) none (some (tZ 184)) none),oZ 186 (.copy 1 (tZ 182) (tZ 185))])
 (.seq (.region true [mv 187 12,mv 188 1,mv 189 2,oZ 190 (.slSl 1 (tZ 187) (some (tZ 188)) (some (tZ 189)) none),mv 191 3,mv 192 13,oZ 193 (.slSl 1 (tZ 191) (some (tZ 192)) none none),oZ 194 (.copy 1 (tZ 190) (tZ 193))])
 (sr [mv 195 12,mv 196 1,oZ 197 (.slSl 1 (tZ 195) (some (tZ 196)) none none),mv 198 13,ca2 199 193 197 198]
 (sr [mv 200 12,mv 8 200]
 .ret))))
 .skip))
 (sr [mv 201 3,mv 202 0,mv 203 2,oZ 204 (.slSl 1 (tZ 202) (some (tZ 203)) none none),ca2 205 194 201 204,mv 14 205]
 (sr [mv 206 12,mv 207 1,oZ 208 (.slSl 1 (tZ 206) (some (tZ 207)) none none),mv 209 3,oZ 210 (.copy 1 (tZ 208) (tZ 209))]
 (.seq (.region true [mv 211 12,mv 212 1,mv 213 3,le 214 213,aD 215 212 214,oZ 216 (.slSl 1 (tZ 211) (some (tZ 215)) none none),mv 217 12,mv 218 1,mv 219 14,aD 220 218 219,oZ 221 (.slSl 1 (tZ 217) (some (tZ 220)) none none),oZ 222 (.copy 1 (tZ 216) (tZ 221))])
 (sr [mv 223 12,mv 8 223]
 .ret))))))))))))))))⟩
theorem cf102:cFn Tryz.prog Tryz.f156=some af102:=by kernel_rfl
theorem gd102:GD 156 af102:=gG Tryz.func156 cf102 (by kernel_rfl)
def af103:AFn:=⟨20,[(2,none)],(sr [bo 1 0,mk 2 0]
 (sr [mk 3 0]
 (.seq (sr [fa 6 1 1,lo 7 6,le 8 7,mk 9 0]
 (.block 0 (.loop (sr [cL 10 9 8]
 (.seq (.cond (tZ 10) .skip
 (.exit 0))
 (.seq (.block 1 (sr [ix 11 6 7 9,lw 12 6 11,oZ 5 (.alloc [(.int .i64 0),(.int .i64 0),(.int .i64 0),(.int .i64 0),(.int .i64 0),(.bool false)]),so 6 5 12]
 (sr [fa 13 0 5,lo 14 13,cEk 15 14 2]
 (.cond (tZ 15) (rf [mv 16 3,aDk 17 16 1,mv 3 17])
 .skip))))
 (rf [aDk 18 9 1,mv 9 18])))))))
 (sr [mv 19 3,mv 2 19]
 .ret))))⟩
theorem cf103:cFn Tryz.prog Tryz.f118=some af103:=by kernel_rfl
theorem gd103:GD 118 af103:=gG Tryz.func118 cf103 (by kernel_rfl)
def af104:AFn:=⟨32,[(2,none)],(sr [mfZ 2]
 (.seq (sr [mv 5 0,nc 6 5,fa 7 0 6,fa 8 1 7,lo 9 8,le 10 9,cEk 11 10 0]
 (.cond (tZ 11) (sr [mtZ 2]
 .ret)
 .skip))
 (.seq (sr [mv 12 0,oZ 13 (.mkFunc (.func 167) [(tZ 12)] []),mv 14 0,oZ 15 (.mkFunc (.func 168) [(tZ 14)] []),mv 16 0,oZ 17 (.mkFunc (.func 169) [(tZ 16)] []),mv 18 0,oZ 19 (.mkFunc (.func 170) [(tZ 18)] []),mv 20 0,oZ 21 (.mkFunc (.func 171) [(tZ 20)] []),oZ 22 (.mkSl 1 5 [.nilFunc] [(0,(tZ 13)),(1,(tZ 15)),(2,(tZ 17)),(3,(tZ 19)),(4,(tZ 21))]),le 23 22,mk 24 0]
 (.block 0 (.loop (sr [cL 25 24 23]
 (.seq (.cond (tZ 25) .skip
 (.exit 0))
 (.seq (.block 1 (sr [ix 26 1 22 24,lo 27 26,mv 4 27]
 (sr [mv 28 4,oZ 29 (.call (tZ 28) []),no 30 29]
 (.cond (tZ 30) (sr [mfZ 2]
 .ret)
 .skip))))
 (rf [aDk 31 24 1,mv 24 31])))))))
 (sr [mtZ 2]
 .ret))))⟩
theorem cf104:cFn Tryz.prog Tryz.f119=some af104:=by kernel_rfl
theorem gd104:GD 119 af104:=gG Tryz.func119 cf104 (by kernel_rfl)
def af105:AFn:=⟨156,[(4,none)],(sr [mk 4 0]
 (.seq (.region true [mv 15 0,nc 16 15,fa 17 0 16,fa 18 1 17,lo 19 18,le 20 19,mv 21 0,nc 22 21,fa 23 3 22,lo 24 23,le 25 24,mv 5 20,mv 6 25])
 (.seq (sr [mv 26 1,mv 27 5,oZ 28 (.bin .mul .num (kZ 2) (tZ 27)),cH 29 26 28]
 (.cond (tZ 29) (sr [mv 30 1,mv 31 5,oZ 32 (.bin .mul .num (kZ 2) (tZ 31)),aS 33 30 32,aQk 34 33 2,mv 7 34]
 (sr [mv 35 1,aRk 36 35 2,cEk 37 36 0,mv 8 37]
 (sr [mv 38 0,nc 39 38,fa 40 3 39,lo 41 40,mv 42 7,ix 43 1 41 42,lo 44 43,mv 9 44]
 (.seq (sr [mv 45 8]
 (.cond (tZ 45) (.region true [mv 46 0,nc 47 46,fa 48 3 47,lo 49 48,mv 50 7,aDk 51 50 1,mv 52 6,aR 53 51 52,ix 54 1 49 53,lo 55 54,mv 9 55])
 .skip))
 (.seq (sr [mv 56 8,mv 57 0,nc 58 57,fa 59 2 58,lo 60 59,mv 61 9,ix 62 1 60 61,lo 63 62,oZ 64 (.bin .eql .bool (tZ 56) (tZ 63))]
 (.cond (tZ 64) (sr [mv 65 0,mv 66 9,ca2 67 204 65 66,mv 4 67]
 .ret)
 .skip))
 (sr [mv 68 0,mv 69 9,ca2 70 205 68 69,mv 4 70]
 .ret))))))
 .skip))
 (sr [mv 71 1,aRk 72 71 2,cEk 73 72 0,mv 10 73]
 (sr [mv 74 1,aQk 75 74 2,mv 11 75]
 (.seq (sr [mv 76 10]
 (.cond (tZ 76) (rf [mv 77 11,aDk 78 77 1,mv 79 5,aR 80 78 79,mv 11 80])
 .skip))
 (sr [mv 81 0,nc 82 81,fa 83 0 82,fa 84 1 83,lo 85 84,mv 86 11,ix 87 6 85 86,lw 88 6 87,oZ 12 (.alloc [(.int .i64 0),(.int .i64 0),(.int .i64 0),(.int .i64 0),(.int .i64 0),(.bool false)]),so 6 12 88]
 (.seq (sr [fa 89 0 12,lo 90 89,cEk 91 90 1]
 (.cond (tZ 91) (.seq (sr [mv 92 10,mv 93 0,nc 94 93,fa 95 2 94,lo 96 95,mv 97 11,ix 98 1 96 97,lo 99 98,oZ 100 (.bin .eql .bool (tZ 92) (tZ 99))]
 (.cond (tZ 100) (sr [mv 101 5,oZ 102 (.bin .mul .num (kZ 2) (tZ 101)),mv 103 0,nc 104 103,fa 105 4 104,lo 106 105,mv 107 11,ix 108 1 106 107,lo 109 108,oZ 110 (.bin .mul .num (kZ 2) (tZ 109)),aD 111 102 110,mv 4 111]
 .ret)
 .skip))
 (sr [mv 112 5,oZ 113 (.bin .mul .num (kZ 2) (tZ 112)),mv 114 0,nc 115 114,fa 116 4 115,lo 117 116,mv 118 11,ix 119 1 117 118,lo 120 119,aSk 121 120 1,mv 122 6,aD 123 121 122,mv 124 6,aR 125 123 124,oZ 126 (.bin .mul .num (kZ 2) (tZ 125)),aD 127 113 126,aDk 128 127 1,mv 4 128]
 .ret))
 .skip))
 (.seq (.region true [mv 129 0,nc 130 129,fa 131 5 130,lo 132 131,fa 133 3 12,lo 134 133,oZ 135 (.lookup .int (.agg [(.int .i64 0),(.int .i64 0)]) false (tZ 132) (tZ 134)),⟨(some 13),.alloc [(.int .i64 0),(.int .i64 0)],none,[3,5,6]⟩,so 2 13 135])
 (sr [oZ 136 (.idxAA 2 1 (tZ 13) (kZ 1)),lo 137 136,mv 14 137]
 (.seq (sr [fa 138 5 12,lo 139 138]
 (.cond (tZ 139) (rf [oZ 140 (.idxAA 2 1 (tZ 13) (kZ 0)),lo 141 140,mv 14 141])
 .skip))
 (.seq (sr [mv 142 10,fa 143 5 12,lo 144 143,fa 145 4 12,lo 146 145,cEk 147 146 1,oZ 148 (.bin .eql .bool (tZ 144) (tZ 147)),oZ 149 (.bin .eql .bool (tZ 142) (tZ 148))]
 (.cond (tZ 149) (sr [mv 150 0,mv 151 14,ca2 152 205 150 151,mv 4 152]
 .ret)
 .skip))
 (sr [mv 153 0,mv 154 14,ca2 155 204 153 154,mv 4 155]
 .ret)))))))))))))⟩
theorem cf105:cFn Tryz.prog Tryz.f178=some af105:=by kernel_rfl
theorem gd105:GD 178 af105:=gG Tryz.func178 cf105 (by kernel_rfl)
def af109:AFn:=⟨57,[(2,(some (some 2)))],(sr [oZ 2 (.alloc [(.int .i64 0),.nilSl])]
 (sr [mnZ 3]
 (.seq (.seq (.region true [mv 10 0,nc 11 10,fa 12 0 11,fa 13 1 12,lo 14 13,mv 15 0,⟨(some 16),.call (.fn 72) [(tZ 15)],none,[4]⟩,oZ 17 (.mkSl 1 2 [.nilSl] [(0,(tZ 14)),(1,(tZ 16))]),le 18 17,mk 19 0])
 (.block 0 (.loop (sr [cL 20 19 18]
 (.seq (.cond (tZ 20) .skip
 (.exit 0))
 (.seq (.block 1 (sr [ix 21 1 17 19,lo 22 21,mv 5 22]
 (sr [mtZ 6]
 (sr [mv 23 5,le 24 23,mk 25 0]
 (.block 2 (.loop (sr [cL 26 25 24]
 (.seq (.cond (tZ 26) .skip
 (.exit 2))
 (.seq (.block 3 (sr [mv 27 25,ix 28 6 23 25,lw 29 6 28,oZ 8 (.alloc [(.int .i64 0),(.int .i64 0),(.int .i64 0),(.int .i64 0),(.int .i64 0),(.bool false)]),mv 7 27,so 6 8 29]
 (.seq (sr [fa 30 0 8,lo 31 30,cNk 32 31 1]
 (.cond (tZ 32) (.exit 3)
 .skip))
 (.seq (sr [mv 33 6]
 (.cond (tZ 33) (sr [mv 34 5,mv 35 7,ca2 36 71 34 35,ca1 37 120 36,mv 9 37]
 (sr [mv 38 3,oZ 39 (.bin .eql .slice (tZ 38) (.const .nilSl)),mv 40 39,gfm 41 40 9,gfm 42 40 3,gZ 43 40 false (.call (.fn 121) [(tZ 41),(tZ 42)]),pk1 44 40 43]
 (.cond (tZ 44) (rf [mv 45 9,mv 3 45])
 .skip)))
 .skip))
 (rf [mv 46 6,no 47 46,mv 6 47])))))
 (rf [aDk 48 25 1,mv 25 48]))))))))))
 (rf [aDk 49 19 1,mv 19 49])))))))
 (sr [mv 50 0,nc 51 50,fa 52 0 51,fa 53 0 52,lo 54 53,mv 55 3,oZ 56 (.build [(.int .i64 0),.nilSl] [(0,1,(tZ 54)),(1,1,(tZ 55))]),so 2 2 56]
 .ret))))⟩
theorem cf109:cFn Tryz.prog Tryz.f74=some af109:=by kernel_rfl
theorem gd109:GD 74 af109:=gG Tryz.func74 cf109 (by kernel_rfl)
def af110:AFn:=⟨54,[(4,none)],(sr [oZ 4 (.mov (.const (.str [])))]
 (.seq (sr [mv 10 1,cEk 11 10 10]
 (.cond (tZ 11) (.seq (sr [mv 12 0,oZ 13 (.bin .leq .num (kZ 0) (tZ 12)),mv 14 13,gtm 15 14 0,gZ 16 14 true (.bin .lss .num (tZ 15) (kZ 100)),pk0 17 14 16]
 (.cond (tZ 17) (sr [mv 18 0,ca1 19 207 18,mv 4 19]
 .ret)
 .skip))
 (sr [oZ 5 (.alloc [(.int .u8 0),(.int .u8 0),(.int .u8 0),(.int .u8 0),(.int .u8 0),(.int .u8 0),(.int .u8 0),(.int .u8 0),(.int .u8 0),(.int .u8 0),(.int .u8 0),(.int .u8 0),(.int .u8 0),(.int .u8 0),(.int .u8 0),(.int .u8 0),(.int .u8 0),(.int .u8 0),(.int .u8 0),(.int .u8 0),(.int .u8 0),(.int .u8 0),(.int .u8 0),(.int .u8 0)])]
 (sr [mv 20 0,oZ 21 (.convInt .u64 (tZ 20)),mv 6 21]
 (.seq (sr [mv 22 0,cLk 23 22 0]
 (.cond (tZ 23) (rf [mv 24 6,oZ 25 (.un .neg (tZ 24)),mv 6 25])
 .skip))
 (sr [mv 26 6,ca1 27 208 26,mv 7 27]
 (sr [mv 28 7,oZ 29 (.bin .add .num (kZ 1) (tZ 28)),oZ 30 (.slArr 24 1 (tZ 5) (some (kZ 1)) (some (tZ 29))),mv 31 6,ca2 32 209 30 31]
 (.seq (sr [mv 33 0,cLk 34 33 0]
 (.cond (tZ 34) (sr [oZ 35 (.idxAA 24 1 (tZ 5) (kZ 0)),pZ (.store 1 (tZ 35) (.const (.int .u8 45)))]
 (sr [mv 36 7,oZ 37 (.bin .add .num (kZ 1) (tZ 36)),oZ 38 (.slArr 24 1 (tZ 5) none (some (tZ 37))),oZ 39 (.toStr (tZ 38)),mv 4 39]
 .ret))
 .skip))
 (sr [mv 40 7,oZ 41 (.bin .add .num (kZ 1) (tZ 40)),oZ 42 (.slArr 24 1 (tZ 5) (some (kZ 1)) (some (tZ 41))),oZ 43 (.toStr (tZ 42)),mv 4 43]
 .ret))))))))
 .skip))
 (sr [mv 45 0,oZ 46 (.convInt .u64 (tZ 45)),mv 47 1,mv 48 0,cLk 49 48 0,oZ 50 (.call (.fn 210) [(.const .nilSl),(tZ 46),(tZ 47),(tZ 49),(bZ false)]),mv 44 50,ex 51 44 0,ex 52 44 1,mv 8 51,mv 9 52]
 (sr [mv 53 9,mv 4 53]
 .ret))))⟩
theorem cf110:cFn Tryz.prog Tryz.f183=some af110:=by kernel_rfl
theorem gd110:GD 183 af110:=gG Tryz.func183 cf110 (by kernel_rfl)
def af111:AFn:=⟨30,[(4,none),(5,none)],(sr [oZ 4 (.mov (.const (.int .u64 0))),oZ 5 (.mov (.const (.int .u64 0)))]
 (.seq (.cond (bZ false) (sr [mv 11 0,oZ 12 (.convInt .u32 (tZ 11)),mv 13 1,oZ 14 (.convInt .u32 (tZ 13)),ca2 15 211 12 14,mv 10 15,ex 16 10 0,ex 17 10 1,mv 6 16,mv 7 17]
 (sr [mv 18 6,oZ 19 (.convInt .u64 (tZ 18)),mv 20 7,oZ 21 (.convInt .u64 (tZ 20)),mv 4 19,mv 5 21]
 .ret))
 .skip)
 (sr [mv 23 0,mv 24 1,ca2 25 212 23 24,mv 22 25,ex 26 22 0,ex 27 22 1,mv 8 26,mv 9 27]
 (sr [mv 28 8,mv 29 9,mv 4 28,mv 5 29]
 .ret))))⟩
theorem cf111:cFn Tryz.prog Tryz.f184=some af111:=by kernel_rfl
theorem gd111:GD 184 af111:=gG Tryz.func184 cf111 (by kernel_rfl)
def af114:AFn:=⟨9,[(2,(some (some 2)))],(sr [bo 1 0,oZ 2 (.alloc [(.int .i64 0),.nilSl])]
 (.seq (.region true [fa 3 0 1,lo 4 3,fa 5 1 1,lo 6 5,⟨(some 7),.append 6 48 [(.int .i64 0),(.int .i64 0),(.int .i64 0),(.int .i64 0),(.int .i64 0),(.bool false)] (.const .nilSl) (tZ 6),none,[1]⟩,oZ 8 (.build [(.int .i64 0),.nilSl] [(0,1,(tZ 4)),(1,1,(tZ 7))]),so 2 2 8])
 .ret))⟩
theorem cf114:cFn Tryz.prog Tryz.f60=some af114:=by kernel_rfl
theorem gd114:GD 60 af114:=gG Tryz.func60 cf114 (by kernel_rfl)
def af115:AFn:=⟨41,[(4,(some (some 2)))],(sr [bo 2 0,oZ 4 (.alloc [(.int .i64 0),.nilSl])]
 (.seq (sr [mk 5 0]
 (.block 0 (.loop (.seq (sr [mv 6 5,fa 7 1 2,lo 8 7,le 9 8,cL 10 6 9]
 (.cond (tZ 10) .skip
 (.exit 0)))
 (.seq (.block 1 (sr [fa 13 1 2,lo 14 13,mv 15 5,ix 16 6 14 15,fa 17 0 16,lo 18 17,cEk 19 18 1,mv 20 19,gtm 21 20 1,gtm 22 20 5,gZ 23 20 true (.idxA 1 (tZ 21) (tZ 22)),gtl 24 20 23,pk0 25 20 24]
 (.cond (tZ 25) (.seq (.region true [fa 26 0 2,lo 27 26,fa 28 1 2,lo 29 28,mv 30 5,oZ 31 (.slSl 6 (tZ 29) (some (tZ 30)) none none),⟨(some 32),.append 6 48 [(.int .i64 0),(.int .i64 0),(.int .i64 0),(.int .i64 0),(.int .i64 0),(.bool false)] (.const .nilSl) (tZ 31),none,[1]⟩,fa 33 1 2,⟨(some 34),.load none (tZ 33),none,[6]⟩,mv 35 5,⟨(some 36),.slSl 6 (tZ 34) none (some (tZ 35)) none,none,[6]⟩,⟨(some 37),.append 6 48 [(.int .i64 0),(.int .i64 0),(.int .i64 0),(.int .i64 0),(.int .i64 0),(.bool false)] (tZ 32) (tZ 36),none,[1]⟩,oZ 38 (.build [(.int .i64 0),.nilSl] [(0,1,(tZ 27)),(1,1,(tZ 37))]),so 2 4 38])
 .ret)
 .skip)))
 (rf [mv 11 5,aDk 12 11 1,mv 5 12]))))))
 (sr [lw 39 2 2,ca1 40 60 39,so 2 4 40]
 .ret)))⟩
theorem cf115:cFn Tryz.prog Tryz.f106=some af115:=by kernel_rfl
theorem gd115:GD 106 af115:=gG Tryz.func106 cf115 (by kernel_rfl)
def af116:AFn:=⟨30,[(4,none)],(sr [mfZ 4]
 (.seq (sr [mk 5 0]
 (.block 0 (.loop (.seq (sr [mv 6 5,mv 7 0,le 8 7,cL 9 6 8]
 (.cond (tZ 9) .skip
 (.exit 0)))
 (.seq (.block 1 (.seq (.region true [mv 12 0,mv 13 5,ix 14 1 12 13,lo 15 14,mv 16 1,mv 17 5,ix 18 1 16 17,lo 19 18,cN 20 15 19])
 (.cond (tZ 20) (.seq (.region true [mv 21 0,mv 22 5,ix 23 1 21 22,lo 24 23,mv 25 1,mv 26 5,ix 27 1 25 26,lo 28 27,cL 29 24 28,mv 4 29])
 .ret)
 .skip)))
 (rf [mv 10 5,aDk 11 10 1,mv 5 11]))))))
 (sr [mfZ 4]
 .ret)))⟩
theorem cf116:cFn Tryz.prog Tryz.f187=some af116:=by kernel_rfl
theorem gd116:GD 187 af116:=gG Tryz.func187 cf116 (by kernel_rfl)
def af117:AFn:=⟨18,[(2,none)],(sr [bo 1 0,mnZ 2]
 (sr [mk 3 0]
 (.seq (sr [fa 4 5 1,lo 5 4]
 (.cond (tZ 5) (rf [mk 3 1])
 .skip))
 (sr [fa 6 0 1,lo 7 6,fa 8 1 1,lo 9 8,fa 10 2 1,lo 11 10,fa 12 3 1,lo 13 12,mv 14 3,fa 15 4 1,lo 16 15,oZ 17 (.mkSl 1 6 [(.int .i64 0)] [(0,(tZ 7)),(1,(tZ 9)),(2,(tZ 11)),(3,(tZ 13)),(4,(tZ 14)),(5,(tZ 16))]),mv 2 17]
 .ret))))⟩
theorem cf117:cFn Tryz.prog Tryz.f188=some af117:=by kernel_rfl
theorem gd117:GD 188 af117:=gG Tryz.func188 cf117 (by kernel_rfl)
def af118:AFn:=⟨21,[(2,none)],(sr [bo 1 0,mfZ 2]
 (sr [fa 3 0 1,lo 4 3,cHk 5 4 1,mv 6 5,gtf 7 6 0 1,gtl 8 6 7,gZ 9 6 true (.bin .leq .num (tZ 8) (kZ 9)),pk0 10 6 9,mv 11 10,gtf 12 11 2 1,gtl 13 11 12,gZ 14 11 true (.bin .geq .num (tZ 13) (kZ 0)),pk0 15 11 14,mv 16 15,gtf 17 16 2 1,gtl 18 16 17,gZ 19 16 true (.bin .leq .num (tZ 18) (kZ 6)),pk0 20 16 19,mv 2 20]
 .ret))⟩
theorem cf118:cFn Tryz.prog Tryz.f162=some af118:=by kernel_rfl
theorem gd118:GD 162 af118:=gG Tryz.func162 cf118 (by kernel_rfl)
def af119:AFn:=⟨9,[(4,none)],(sr [bo 3 1,mfZ 4]
 (sr [mv 5 0,lw 6 3 3,ca2 7 196 5 6,cHk 8 7 0,mv 4 8]
 .ret))⟩
theorem cf119:cFn Tryz.prog Tryz.f163=some af119:=by kernel_rfl
theorem gd119:GD 163 af119:=gG Tryz.func163 cf119 (by kernel_rfl)
def af120:AFn:=⟨53,[(2,none)],(sr [bo 1 0,mfZ 2]
 (sr [mfZ 3]
 (.seq (sr [fa 7 1 1,lo 8 7,le 9 8,mk 10 0]
 (.block 0 (.loop (sr [cL 11 10 9]
 (.seq (.cond (tZ 11) .skip
 (.exit 0))
 (.seq (.block 1 (sr [mv 12 10,ix 13 6 8 10,lw 14 6 13,oZ 5 (.alloc [(.int .i64 0),(.int .i64 0),(.int .i64 0),(.int .i64 0),(.int .i64 0),(.bool false)]),mv 4 12,so 6 5 14]
 (.seq (sr [lw 15 6 5,ca1 16 197 15,no 17 16]
 (.cond (tZ 17) (.exit 1)
 .skip))
 (sr [mv 18 3,no 19 18,mv 3 19]
 (.seq (.region true [fa 20 1 1,lo 21 20,mv 22 4,aDk 23 22 1,fa 24 1 1,lo 25 24,le 26 25,aR 27 23 26,ix 28 6 21 27,lw 29 6 28,⟨(some 6),.alloc [(.int .i64 0),(.int .i64 0),(.int .i64 0),(.int .i64 0),(.int .i64 0),(.bool false)],none,[1,5,8,9]⟩,so 6 6 29])
 (sr [mv 30 3,mv 31 30,gZ 32 31 true (.load (some 6) (tZ 6)),gZ 33 31 true (.call (.fn 197) [(tZ 32)]),gZ 34 31 true (.un .not (tZ 33)),gtm 35 31 34,gff 36 35 1 6,gfl 37 35 36,gff 38 35 1 5,gfl 39 35 38,gZ 40 35 false (.bin .sub .num (tZ 37) (tZ 39)),gZ 41 35 false (.bin .neq .num (tZ 40) (kZ 1)),gfm 42 35 41,gtf 43 42 1 5,gtl 44 42 43,gtf 45 42 1 6,gtl 46 42 45,gZ 47 42 true (.bin .sub .num (tZ 44) (tZ 46)),gZ 48 42 true (.bin .neq .num (tZ 47) (kZ 1)),gZ 49 35 false (.pick (tZ 42) (tZ 48) (bZ false)),gZ 50 31 true (.pick (tZ 35) (bZ true) (tZ 49)),pk0 51 31 50]
 (.cond (tZ 51) (sr [mfZ 2]
 .ret)
 .skip)))))))
 (rf [aDk 52 10 1,mv 10 52])))))))
 (sr [mtZ 2]
 .ret))))⟩
theorem cf120:cFn Tryz.prog Tryz.f164=some af120:=by kernel_rfl
theorem gd120:GD 164 af120:=gG Tryz.func164 cf120 (by kernel_rfl)
def af121:AFn:=⟨19,[(4,none)],(sr [mk 4 0]
 (.seq (sr [mv 6 0,le 7 6,mk 8 0]
 (.block 0 (.loop (sr [cL 9 8 7]
 (.seq (.cond (tZ 9) .skip
 (.exit 0))
 (.seq (.block 1 (sr [mv 10 8,mv 5 10]
 (sr [mv 11 1,mv 12 0,mv 13 5,ix 14 3 12 13,lw 15 3 14,oZ 16 (.call (tZ 11) [(tZ 15)])]
 (.cond (tZ 16) (sr [mv 17 5,mv 4 17]
 .ret)
 .skip))))
 (rf [aDk 18 8 1,mv 8 18])))))))
 (sr [mk 4 (-1)]
 .ret)))⟩
theorem cf121:cFn Tryz.prog Tryz.f165=some af121:=by kernel_rfl
theorem gd121:GD 165 af121:=gG Tryz.func165 cf121 (by kernel_rfl)
def af124:AFn:=⟨29,[(4,none),(5,none)],(sr [bo 2 0,bo 3 1,mnZ 4,mk 5 0]
 (.seq (sr [lw 9 3 2,lw 10 2 3,ca2 11 173 9 10,mv 6 11]
 (sr [mv 12 6,cNk 13 12 0]
 (.cond (tZ 13) (sr [mv 14 6,mnZ 4,mv 5 14]
 .ret)
 .skip)))
 (sr [mnZ 7]
 (.seq (sr [mk 8 1]
 (.block 0 (.loop (.seq (sr [mv 15 8,fa 16 0 3,lo 17 16,cK 18 15 17]
 (.cond (tZ 18) .skip
 (.exit 0)))
 (.seq (.block 1 (rf [mv 21 7,lw 22 2 3,mv 23 8,ca2 24 174 22 23,le 25 24,oZ 26 (.mkSl 1 1 [(.int .i64 0)] [(0,(tZ 25))]),oZ 27 (.append 1 8 [(.int .i64 0)] (tZ 21) (tZ 26)),mv 7 27]))
 (rf [mv 19 8,aDk 20 19 1,mv 8 20]))))))
 (sr [mv 28 7,mv 4 28,mk 5 0]
 .ret)))))⟩
theorem cf124:cFn Tryz.prog Tryz.f122=some af124:=by kernel_rfl
theorem gd124:GD 122 af124:=gG Tryz.func122 cf124 (by kernel_rfl)
def af125:AFn:=⟨148,[],(sr [mtZ 10]
 (sr [mtZ 11]
 (.block 0 (.loop (.block 1 (sr [mv 21 2,mv 22 1,aS 23 21 22,mv 12 23]
 (.seq (sr [mv 24 12,cKk 25 24 12]
 (.cond (tZ 25) (sr [mv 26 0,mv 27 1,mv 28 2,mv 29 4,oZ 30 (.call (.fn 215) [(tZ 26),(tZ 27),(tZ 28),(tZ 29)])]
 .ret)
 .skip))
 (.seq (sr [mv 31 3,cEk 32 31 0]
 (.cond (tZ 32) (sr [mv 33 0,mv 34 1,mv 35 2,mv 36 4,oZ 37 (.call (.fn 216) [(tZ 33),(tZ 34),(tZ 35),(tZ 36)])]
 .ret)
 .skip))
 (.seq (sr [mv 38 10,no 39 38]
 (.cond (tZ 39) (sr [mv 40 0,mv 41 1,mv 42 2,mv 43 4,oZ 44 (.call (.fn 217) [(tZ 40),(tZ 41),(tZ 42),(tZ 43)])]
 (rf [mv 45 3,aSk 46 45 1,mv 3 46]))
 .skip))
 (sr [mv 48 0,mv 49 1,mv 50 2,mv 51 4,oZ 52 (.call (.fn 218) [(tZ 48),(tZ 49),(tZ 50),(tZ 51)]),mv 47 52,ex 53 47 0,ex 54 47 1,mv 13 53,mv 14 54]
 (.seq (sr [mv 55 14,cEk 56 55 2]
 (.cond (tZ 56) (sr [mv 57 0,mv 58 1,mv 59 2,mv 60 4,oZ 61 (.call (.fn 219) [(tZ 57),(tZ 58),(tZ 59),(tZ 60)])]
 (sr [mv 62 2,aSk 63 62 1,mv 64 13,mv 65 1,aS 66 64 65,aS 67 63 66,mv 13 67]
 (rf [mk 14 1])))
 .skip))
 (.seq (sr [mv 68 10,mv 69 68,gtm 70 69 11,pk0 71 69 70,mv 72 71,gtm 73 72 14,gZ 74 72 true (.bin .eql .num (tZ 73) (kZ 1)),pk0 75 72 74]
 (.cond (tZ 75) (sr [mv 76 0,mv 77 1,mv 78 2,mv 79 4,oZ 80 (.call (.fn 220) [(tZ 76),(tZ 77),(tZ 78),(tZ 79)])]
 (.cond (tZ 80) .ret
 .skip))
 .skip))
 (.seq (.seq (.region true [mv 81 1,cGk 82 81 0,mv 83 82,gtm 84 83 4,gtm 85 83 0,gtm 86 83 1,gZ 87 83 true (.bin .sub .num (tZ 86) (kZ 1)),gZ 88 83 true (.idxA 2 (tZ 85) (tZ 87)),gZ 89 83 true (.load (some 2) (tZ 88)),gtm 90 83 0,gtm 91 83 13,gZ 92 83 true (.idxA 2 (tZ 90) (tZ 91)),gZ 93 83 true (.load (some 2) (tZ 92)),gZ 94 83 true (.call (tZ 84) [(tZ 89),(tZ 93)]),gZ 95 83 true (.bin .lss .num (tZ 94) (kZ 0)),gZ 96 83 true (.un .not (tZ 95)),pk0 97 83 96])
 (.cond (tZ 97) (sr [mv 98 0,mv 99 1,mv 100 2,mv 101 13,mv 102 4,oZ 103 (.call (.fn 221) [(tZ 98),(tZ 99),(tZ 100),(tZ 101),(tZ 102)]),mv 15 103]
 (sr [mv 104 15,mv 1 104]
 (.exit 1)))
 .skip))
 (sr [mv 106 0,mv 107 1,mv 108 2,mv 109 13,mv 110 4,oZ 111 (.call (.fn 222) [(tZ 106),(tZ 107),(tZ 108),(tZ 109),(tZ 110)]),mv 105 111,ex 112 105 0,ex 113 105 1,mv 16 112,mv 17 113]
 (sr [mv 114 17,mv 11 114]
 (sr [mv 115 16,mv 116 1,aS 117 115 116,mv 118 2,mv 119 16,aS 120 118 119,mv 18 117,mv 19 120]
 (sr [mv 121 12,aQk 122 121 8,mv 20 122]
 (sr [mv 123 18,mv 124 19,cL 125 123 124]
 (.cond (tZ 125) (sr [mv 126 18,mv 127 20,cH 128 126 127,mv 10 128]
 (sr [mv 129 0,mv 130 1,mv 131 16,mv 132 3,mv 133 4,oZ 134 (.call (.fn 189) [(tZ 129),(tZ 130),(tZ 131),(tZ 132),(tZ 133)])]
 (rf [mv 135 16,aDk 136 135 1,mv 1 136])))
 (sr [mv 137 19,mv 138 20,cH 139 137 138,mv 10 139]
 (sr [mv 140 0,mv 141 16,aDk 142 141 1,mv 143 2,mv 144 3,mv 145 4,oZ 146 (.call (.fn 189) [(tZ 140),(tZ 142),(tZ 143),(tZ 144),(tZ 145)])]
 (rf [mv 147 16,mv 2 147]))))))))))))))))))))))⟩
theorem cf125:cFn Tryz.prog Tryz.f189=some af125:=by kernel_rfl
theorem gd125:GD 189 af125:=gG Tryz.func189 cf125 (by kernel_rfl)
def af126:AFn:=⟨8,[(2,none)],(sr [mk 2 0]
 (.seq (.cond (bZ false) (sr [mv 3 0,oZ 4 (.convInt .u32 (tZ 3)),ca1 5 223 4,mv 2 5]
 .ret)
 .skip)
 (sr [mv 6 0,ca1 7 224 6,mv 2 7]
 .ret)))⟩
theorem cf126:cFn Tryz.prog Tryz.f190=some af126:=by kernel_rfl
theorem gd126:GD 190 af126:=gG Tryz.func190 cf126 (by kernel_rfl)
def af131:AFn:=⟨11,[(2,none)],(sr [bo 1 0,mfZ 2]
 (sr [lo 3 1,nc 4 3,fa 5 0 4,fa 6 1 5,lo 7 6,oZ 8 (.mkFunc (.func 199) [] [(tZ 1)]),ca2 9 198 7 8,no 10 9,mv 2 10]
 .ret))⟩
theorem cf131:cFn Tryz.prog Tryz.f167=some af131:=by kernel_rfl
theorem gd131:GD 167 af131:=gG Tryz.func167 cf131 (by kernel_rfl)
def af132:AFn:=⟨21,[(2,none)],(sr [mfZ 2]
 (sr [mv 3 0,nc 4 3,fa 5 0 4,fa 6 1 5,lo 7 6,oZ 8 (.idxA 6 (tZ 7) (kZ 0)),fa 9 0 8,lo 10 9,cEk 11 10 1,mv 12 11,gtm 13 12 0,gZ 14 12 true (.nilChk (tZ 13)),gtf 15 12 0 14,gZ 16 12 true (.load (some 2) (tZ 15)),gZ 17 12 true (.call (.fn 200) [(tZ 16)]),gZ 18 12 true (.bin .rem .num (tZ 17) (kZ 2)),gZ 19 12 true (.bin .eql .num (tZ 18) (kZ 0)),pk0 20 12 19,mv 2 20]
 .ret))⟩
theorem cf132:cFn Tryz.prog Tryz.f168=some af132:=by kernel_rfl
theorem gd132:GD 168 af132:=gG Tryz.func168 cf132 (by kernel_rfl)
def af133:AFn:=⟨171,[(2,none)],(sr [mfZ 2]
 (sr [mv 14 0,mv 15 0,nc 16 15,fa 17 0 16,fa 18 0 17,lo 19 18,aDk 20 19 1,oZ 21 (.makeSl 1 8 [(.int .i64 0)] (tZ 20) (tZ 20)),nc 22 14,fa 23 6 22,so 1 23 21]
 (sr [mv 24 0,mv 25 0,nc 26 25,fa 27 0 26,fa 28 1 27,lo 29 28,le 30 29,oZ 31 (.makeSl 1 1 [(.bool false)] (tZ 30) (tZ 30)),nc 32 24,fa 33 2 32,so 1 33 31]
 (sr [mv 34 0,mv 35 0,nc 36 35,fa 37 0 36,fa 38 1 37,lo 39 38,le 40 39,oZ 41 (.makeSl 1 8 [(.int .i64 0)] (tZ 40) (tZ 40)),nc 42 34,fa 43 4 42,so 1 43 41]
 (sr [mtZ 3]
 (.seq (sr [mv 44 0,nc 45 44,fa 46 0 45,fa 47 1 46,lo 48 47,le 49 48,mk 50 0]
 (.block 0 (.loop (sr [cL 51 50 49]
 (.seq (.cond (tZ 51) .skip
 (.exit 0))
 (.seq (.block 1 (sr [mv 52 50,ix 53 6 48 50,lw 54 6 53,oZ 5 (.alloc [(.int .i64 0),(.int .i64 0),(.int .i64 0),(.int .i64 0),(.int .i64 0),(.bool false)]),mv 4 52,so 6 5 54]
 (sr [fa 55 0 5,lo 56 55,cEk 57 56 1]
 (.cond (tZ 57) (.seq (.region true [mv 58 0,nc 59 58,fa 60 6 59,lo 61 60,fa 62 1 5,lo 63 62,ix 64 1 61 63,lo 65 64,aDk 66 65 1,ix 67 1 61 63,so 1 67 66])
 (sr [mv 68 0,nc 69 68,fa 70 2 69,lo 71 70,mv 72 4,mv 73 3,ix 74 1 71 72,so 1 74 73]
 (rf [mv 75 3,no 76 75,mv 3 76])))
 .skip))))
 (rf [aDk 77 50 1,mv 50 77])))))))
 (sr [mv 78 0,nc 79 78,fa 80 0 79,fa 81 0 80,lo 82 81,aDk 83 82 1,oZ 84 (.makeSl 1 8 [(.int .i64 0)] (tZ 83) (tZ 83)),mv 6 84]
 (sr [mk 7 0]
 (.seq (sr [mv 85 0,nc 86 85,fa 87 6 86,lo 88 87,le 89 88,mk 90 0]
 (.block 2 (.loop (sr [cL 91 90 89]
 (.seq (.cond (tZ 91) .skip
 (.exit 2))
 (.seq (.block 3 (sr [mv 92 90,ix 93 1 88 90,lo 94 93,mv 8 92,mv 9 94]
 (sr [mv 95 6,mv 96 8,mv 97 7,ix 98 1 95 96,so 1 98 97]
 (rf [mv 99 7,mv 100 9,aD 101 99 100,mv 7 101]))))
 (rf [aDk 102 90 1,mv 90 102])))))))
 (sr [mv 103 0,mv 104 7,oZ 105 (.makeSl 1 8 [(.int .i64 0)] (tZ 104) (tZ 104)),nc 106 103,fa 107 3 106,so 1 107 105]
 (sr [mv 108 7,oZ 109 (.makeSl 1 1 [(.bool false)] (tZ 108) (tZ 108)),mv 10 109]
 (.seq (sr [mv 110 0,nc 111 110,fa 112 0 111,fa 113 1 112,lo 114 113,le 115 114,mk 116 0]
 (.block 4 (.loop (sr [cL 117 116 115]
 (.seq (.cond (tZ 117) .skip
 (.exit 4))
 (.seq (.block 5 (sr [mv 118 116,ix 119 6 114 116,lw 120 6 119,oZ 12 (.alloc [(.int .i64 0),(.int .i64 0),(.int .i64 0),(.int .i64 0),(.int .i64 0),(.bool false)]),mv 11 118,so 6 12 120]
 (.seq (sr [fa 121 0 12,lo 122 121,cNk 123 122 1]
 (.cond (tZ 123) (.exit 5)
 .skip))
 (.seq (.seq (.region true [fa 124 2 12,lo 125 124,cLk 126 125 1,mv 127 126,gff 128 127 2 12,gfl 129 127 128,gfm 130 127 0,gZ 131 127 false (.nilChk (tZ 130)),gff 132 127 6 131,gfl 133 127 132,gff 134 127 1 12,gfl 135 127 134,gZ 136 127 false (.idxA 1 (tZ 133) (tZ 135)),gfl 137 127 136,gZ 138 127 false (.bin .gtr .num (tZ 129) (tZ 137)),pk1 139 127 138])
 (.cond (tZ 139) (sr [mfZ 2]
 .ret)
 .skip))
 (.seq (.region true [mv 140 6,fa 141 1 12,lo 142 141,ix 143 1 140 142,lo 144 143,fa 145 2 12,lo 146 145,aD 147 144 146,aSk 148 147 1,mv 13 148])
 (.seq (sr [mv 149 10,mv 150 13,ix 151 1 149 150,lo 152 151]
 (.cond (tZ 152) (sr [mfZ 2]
 .ret)
 .skip))
 (.region true [mv 153 10,mv 154 13,mv 155 0,nc 156 155,fa 157 3 156,lo 158 157,mv 159 13,mv 160 0,nc 161 160,fa 162 4 161,lo 163 162,mv 164 11,mv 165 11,mv 166 13,ix 167 1 153 154,pZ (.store 1 (tZ 167) (bZ true)),ix 168 1 158 159,so 1 168 165,ix 169 1 163 164,so 1 169 166])))))))
 (rf [aDk 170 116 1,mv 116 170])))))))
 (sr [mtZ 2]
 .ret)))))))))))))⟩
theorem cf133:cFn Tryz.prog Tryz.f169=some af133:=by kernel_rfl
theorem gd133:GD 169 af133:=gG Tryz.func169 cf133 (by kernel_rfl)
def af134:AFn:=⟨103,[(2,none)],(sr [mfZ 2]
 (sr [mv 9 0,nc 10 9,fa 11 0 10,lw 12 2 11,ca1 13 118 12,mv 3 13]
 (.seq (sr [mv 14 3,aRk 15 14 2,cNk 16 15 0]
 (.cond (tZ 16) (sr [mfZ 2]
 .ret)
 .skip))
 (sr [mv 17 0,oZ 18 (.mkMap),nc 19 17,fa 20 5 19,so 1 20 18]
 (.seq (sr [mv 21 0,nc 22 21,fa 23 0 22,fa 24 1 23,lo 25 24,le 26 25,mk 27 0]
 (.block 0 (.loop (sr [cL 28 27 26]
 (.seq (.cond (tZ 28) .skip
 (.exit 0))
 (.seq (.block 1 (sr [mv 29 27,ix 30 6 25 27,lw 31 6 30,oZ 5 (.alloc [(.int .i64 0),(.int .i64 0),(.int .i64 0),(.int .i64 0),(.int .i64 0),(.bool false)]),mv 4 29,so 6 5 31]
 (.seq (sr [fa 32 0 5,lo 33 32,cNk 34 33 2]
 (.cond (tZ 34) (.exit 1)
 .skip))
 (.seq (sr [fa 35 3 5,lo 36 35,cLk 37 36 1,mv 38 37,gff 39 38 3 5,gfl 40 38 39,gfm 41 38 3,gZ 42 38 false (.bin .quo .num (tZ 41) (kZ 2)),gZ 43 38 false (.bin .gtr .num (tZ 40) (tZ 42)),pk1 44 38 43]
 (.cond (tZ 44) (sr [mfZ 2]
 .ret)
 .skip))
 (.seq (.region true [mv 46 0,nc 47 46,fa 48 5 47,lo 49 48,fa 50 3 5,lo 51 50,oZ 52 (.lookup .int (.agg [(.int .i64 0),(.int .i64 0)]) true (tZ 49) (tZ 51)),mv 45 52,ex 53 45 0,ex 54 45 1,⟨(some 6),.alloc [(.int .i64 0),(.int .i64 0)],none,[3,5,6]⟩,so 2 6 53,mv 7 54])
 (.seq (sr [mv 55 7,no 56 55]
 (.cond (tZ 56) (rf [oZ 57 (.build [(.int .i64 0),(.int .i64 0)] [(0,1,(kZ (-1))),(1,1,(kZ (-1)))]),so 2 6 57])
 .skip))
 (sr [mk 8 0]
 (.seq (sr [fa 58 5 5,lo 59 58]
 (.cond (tZ 59) (rf [mk 8 1])
 .skip))
 (.seq (.seq (.region true [mv 60 8,oZ 61 (.idxAA 2 1 (tZ 6) (tZ 60)),lo 62 61,cHk 63 62 0,mv 64 63,gfm 65 64 7,gfm 66 64 65,gtm 67 66 0,gZ 68 66 true (.nilChk (tZ 67)),gtf 69 66 0 68,gtf 70 66 1 69,gtl 71 66 70,gtm 72 66 8,gZ 73 66 true (.bin .sub .num (kZ 1) (tZ 72)),gZ 74 66 true (.idxAA 2 1 (tZ 6) (tZ 73)),gtl 75 66 74,gZ 76 66 true (.idxA 6 (tZ 71) (tZ 75)),gtf 77 66 4 76,gtl 78 66 77,gtf 79 66 4 5,gtl 80 66 79,gZ 81 66 true (.bin .neq .num (tZ 78) (tZ 80)),gZ 82 64 false (.pick (tZ 66) (tZ 81) (bZ false)),pk1 83 64 82])
 (.cond (tZ 83) (sr [mfZ 2]
 .ret)
 .skip))
 (sr [mv 84 8,mv 85 4,oZ 86 (.idxAA 2 1 (tZ 6) (tZ 84)),so 1 86 85]
 (.region true [mv 87 0,nc 88 87,fa 89 5 88,lo 90 89,fa 91 3 5,lo 92 91,lw 93 2 6,pZ (.mapUpd .int (tZ 90) (tZ 92) (tZ 93))])))))))))))
 (rf [aDk 94 27 1,mv 27 94])))))))
 (sr [mv 95 0,nc 96 95,fa 97 5 96,lo 98 97,oZ 99 (.lenMap (tZ 98)),mv 100 3,aQk 101 100 2,cE 102 99 101,mv 2 102]
 .ret))))))⟩
theorem cf134:cFn Tryz.prog Tryz.f170=some af134:=by kernel_rfl
theorem gd134:GD 170 af134:=gG Tryz.func170 cf134 (by kernel_rfl)
def af135:AFn:=⟨61,[(2,none)],(sr [mfZ 2]
 (.seq (.region true [mv 8 0,nc 9 8,fa 10 0 9,fa 11 1 10,lo 12 11,le 13 12,oZ 14 (.bin .mul .num (kZ 2) (tZ 13)),mv 15 0,nc 16 15,fa 17 3 16,lo 18 17,le 19 18,oZ 20 (.bin .mul .num (kZ 2) (tZ 19)),aD 21 14 20,mv 3 21])
 (sr [mv 22 3,oZ 23 (.makeSl 1 1 [(.bool false)] (tZ 22) (tZ 22)),mv 4 23]
 (sr [mk 5 0]
 (.seq (sr [mv 24 3,mk 25 0]
 (.block 0 (.loop (sr [cL 26 25 24]
 (.seq (.cond (tZ 26) .skip
 (.exit 0))
 (.seq (.block 1 (sr [mv 27 25,mv 6 27]
 (.seq (sr [mv 28 4,mv 29 6,ix 30 1 28 29,lo 31 30]
 (.cond (tZ 31) (.exit 1)
 .skip))
 (sr [mv 32 5,aDk 33 32 1,mv 5 33]
 (sr [mv 34 6,mv 7 34]
 (.block 2 (.loop (.seq (sr [mv 35 4,mv 36 7,ix 37 1 35 36,lo 38 37,no 39 38]
 (.cond (tZ 39) .skip
 (.exit 2)))
 (.seq (.block 3 (rf [mv 43 4,mv 44 7,ix 45 1 43 44,pZ (.store 1 (tZ 45) (bZ true))]))
 (rf [mv 40 0,mv 41 7,ca2 42 178 40 41,mv 7 42]))))))))))
 (rf [aDk 46 25 1,mv 25 46])))))))
 (.seq (.region true [mv 47 5,mv 48 0,nc 49 48,fa 50 3 49,lo 51 50,le 52 51,mv 53 0,nc 54 53,fa 55 5 54,lo 56 55,oZ 57 (.lenMap (tZ 56)),aD 58 52 57,aDk 59 58 2,cE 60 47 59,mv 2 60])
 .ret))))))⟩
theorem cf135:cFn Tryz.prog Tryz.f171=some af135:=by kernel_rfl
theorem gd135:GD 171 af135:=gG Tryz.func171 cf135 (by kernel_rfl)
def af136:AFn:=⟨20,[(4,none)],(sr [mk 4 0]
 (sr [mv 6 0,nc 7 6,fa 8 0 7,fa 9 1 8,lo 10 9,le 11 10,mv 5 11]
 (sr [mv 12 1,aSk 13 12 1,mv 14 5,aD 15 13 14,mv 16 5,aR 17 15 16,oZ 18 (.bin .mul .num (kZ 2) (tZ 17)),aDk 19 18 1,mv 4 19]
 .ret)))⟩
theorem cf136:cFn Tryz.prog Tryz.f204=some af136:=by kernel_rfl
theorem gd136:GD 204 af136:=gG Tryz.func204 cf136 (by kernel_rfl)
def af137:AFn:=⟨7,[(4,none)],(sr [mk 4 0]
 (sr [mv 5 1,oZ 6 (.bin .mul .num (kZ 2) (tZ 5)),mv 4 6]
 .ret))⟩
theorem cf137:cFn Tryz.prog Tryz.f205=some af137:=by kernel_rfl
theorem gd137:GD 205 af137:=gG Tryz.func205 cf137 (by kernel_rfl)
def af139:AFn:=⟨45,[(2,none)],(sr [mnZ 2]
 (sr [mv 6 0,nc 7 6,fa 8 0 7,fa 9 1 8,lo 10 9,ca1 11 57 10,mv 3 11]
 (sr [mv 12 3,ca1 13 117 12]
 (.seq (sr [mv 14 3,le 15 14,mk 16 0]
 (.block 0 (.loop (sr [cL 17 16 15]
 (.seq (.cond (tZ 17) .skip
 (.exit 0))
 (.seq (.block 1 (sr [mv 18 16,mv 4 18]
 (sr [mv 19 3,le 20 19,aSk 21 20 1,mv 22 4,aS 23 21 22,mv 5 23]
 (sr [mv 24 3,mv 25 4,ix 26 6 24 25,fa 27 0 26,lo 28 27,cEk 29 28 1,mv 30 29,gtm 31 30 0,gZ 32 30 true (.nilChk (tZ 31)),gtf 33 30 2 32,gtl 34 30 33,gtm 35 30 5,gZ 36 30 true (.idxA 1 (tZ 34) (tZ 35)),gtl 37 30 36,gZ 38 30 true (.un .not (tZ 37)),pk0 39 30 38]
 (.cond (tZ 39) (sr [mv 40 3,mv 41 4,ca2 42 71 40 41,mv 2 42]
 .ret)
 .skip)))))
 (rf [aDk 43 16 1,mv 16 43])))))))
 (sr [mv 44 3,mv 2 44]
 .ret)))))⟩
theorem cf139:cFn Tryz.prog Tryz.f72=some af139:=by kernel_rfl
theorem gd139:GD 72 af139:=gG Tryz.func72 cf139 (by kernel_rfl)
def af140:AFn:=⟨41,[(2,none)],(sr [mnZ 2]
 (sr [oZ 7 (.mkMap),mv 3 7]
 (sr [mv 8 0,ca1 9 57 8,mv 4 9]
 (.seq (sr [mv 10 4,le 11 10,mk 12 0]
 (.block 0 (.loop (sr [cL 13 12 11]
 (.seq (.cond (tZ 13) .skip
 (.exit 0))
 (.seq (.block 1 (sr [mv 14 12,ix 15 6 10 12,lw 16 6 15,oZ 6 (.alloc [(.int .i64 0),(.int .i64 0),(.int .i64 0),(.int .i64 0),(.int .i64 0),(.bool false)]),mv 5 14,so 6 6 16]
 (.seq (sr [fa 17 0 6,lo 18 17,cNk 19 18 2]
 (.cond (tZ 19) (.exit 1)
 .skip))
 (.seq (sr [mv 20 3,fa 21 3 6,lo 22 21,oZ 23 (.lookup .int (.int .i64 0) false (tZ 20) (tZ 22)),cEk 24 23 0]
 (.cond (tZ 24) (rf [mv 25 3,fa 26 3 6,lo 27 26,mv 28 3,oZ 29 (.lenMap (tZ 28)),aDk 30 29 1,pZ (.mapUpd .int (tZ 25) (tZ 27) (tZ 30))])
 .skip))
 (rf [mv 31 4,mv 32 5,mv 33 3,fa 34 3 6,lo 35 34,oZ 36 (.lookup .int (.int .i64 0) false (tZ 33) (tZ 35)),ix 37 6 31 32,fa 38 3 37,so 1 38 36])))))
 (rf [aDk 39 12 1,mv 12 39])))))))
 (sr [mv 40 4,mv 2 40]
 .ret)))))⟩
theorem cf140:cFn Tryz.prog Tryz.f120=some af140:=by kernel_rfl
theorem gd140:GD 120 af140:=gG Tryz.func120 cf140 (by kernel_rfl)
def af141:AFn:=⟨30,[(4,none)],(sr [mfZ 4]
 (.seq (sr [mv 6 0,le 7 6,mk 8 0]
 (.block 0 (.loop (sr [cL 9 8 7]
 (.seq (.cond (tZ 9) .skip
 (.exit 0))
 (.seq (.block 1 (sr [mv 10 8,mv 5 10]
 (.seq (.seq (.region true [mv 11 0,mv 12 5,ix 13 6 11 12,lw 14 6 13,mv 15 1,mv 16 5,ix 17 6 15 16,lw 18 6 17,oZ 19 (.bin .eql (.flat [.int,.int,.int,.int,.int,.bool]) (tZ 14) (tZ 18))])
 (.cond (tZ 19) (.exit 1)
 .skip))
 (.seq (.region true [mv 20 0,mv 21 5,ix 22 6 20 21,lw 23 6 22,mv 24 1,mv 25 5,ix 26 6 24 25,lw 27 6 26,ca2 28 172 23 27,mv 4 28])
 .ret))))
 (rf [aDk 29 8 1,mv 8 29])))))))
 (sr [mfZ 4]
 .ret)))⟩
theorem cf141:cFn Tryz.prog Tryz.f121=some af141:=by kernel_rfl
theorem gd141:GD 121 af141:=gG Tryz.func121 cf141 (by kernel_rfl)
def af142:AFn:=⟨15,[(2,none)],(sr [oZ 2 (.mov (.const (.str [])))]
 (.seq (sr [mv 3 0,cLk 4 3 10]
 (.cond (tZ 4) (sr [mv 5 0,mv 6 0,aDk 7 6 1,oZ 8 (.slStr (.const (.str [48,49,50,51,52,53,54,55,56,57,97,98,99,100,101,102,103,104,105,106,107,108,109,110,111,112,113,114,115,116,117,118,119,120,121,122])) (some (tZ 5)) (some (tZ 7))),mv 2 8]
 .ret)
 .skip))
 (sr [mv 9 0,aMk 10 9 2,mv 11 0,aMk 12 11 2,aDk 13 12 2,oZ 14 (.slStr (.const (.str [48,48,48,49,48,50,48,51,48,52,48,53,48,54,48,55,48,56,48,57,49,48,49,49,49,50,49,51,49,52,49,53,49,54,49,55,49,56,49,57,50,48,50,49,50,50,50,51,50,52,50,53,50,54,50,55,50,56,50,57,51,48,51,49,51,50,51,51,51,52,51,53,51,54,51,55,51,56,51,57,52,48,52,49,52,50,52,51,52,52,52,53,52,54,52,55,52,56,52,57,53,48,53,49,53,50,53,51,53,52,53,53,53,54,53,55,53,56,53,57,54,48,54,49,54,50,54,51,54,52,54,53,54,54,54,55,54,56,54,57,55,48,55,49,55,50,55,51,55,52,55,53,55,54,55,55,55,56,55,57,56,48,56,49,56,50,56,51,56,52,56,53,56,54,56,55,56,56,56,57,57,48,57,49,57,50,57,51,57,52,57,53,57,54,57,55,57,56,57,57])) (some (tZ 10)) (some (tZ 13))),mv 2 14]
 .ret)))⟩
theorem cf142:cFn Tryz.prog Tryz.f207=some af142:=by kernel_rfl
theorem gd142:GD 207 af142:=gG Tryz.func207 cf142 (by kernel_rfl)
def af147:AFn:=⟨51,[(4,none),(5,none)],(sr [oZ 4 (.mov (.const (.int .u64 0))),oZ 5 (.mov (.const (.int .u64 0)))]
 (sr [mv 14 0,oZ 15 (.bin .and .num (tZ 14) (.const (.int .u64 4294967295))),mv 6 15]
 (sr [mv 16 0,oZ 17 (.bin .shr .num (tZ 16) (.const (.int .u64 32))),mv 7 17]
 (sr [mv 18 1,oZ 19 (.bin .and .num (tZ 18) (.const (.int .u64 4294967295))),mv 8 19]
 (sr [mv 20 1,oZ 21 (.bin .shr .num (tZ 20) (.const (.int .u64 32))),mv 9 21]
 (sr [mv 22 6,mv 23 8,aM 24 22 23,mv 10 24]
 (sr [mv 25 7,mv 26 8,aM 27 25 26,mv 28 10,oZ 29 (.bin .shr .num (tZ 28) (.const (.int .u64 32))),aD 30 27 29,mv 11 30]
 (sr [mv 31 11,oZ 32 (.bin .and .num (tZ 31) (.const (.int .u64 4294967295))),mv 12 32]
 (sr [mv 33 11,oZ 34 (.bin .shr .num (tZ 33) (.const (.int .u64 32))),mv 13 34]
 (sr [mv 35 12,mv 36 6,mv 37 9,aM 38 36 37,aD 39 35 38,mv 12 39]
 (sr [mv 40 7,mv 41 9,aM 42 40 41,mv 43 13,aD 44 42 43,mv 45 12,oZ 46 (.bin .shr .num (tZ 45) (.const (.int .u64 32))),aD 47 44 46,mv 4 47]
 (sr [mv 48 0,mv 49 1,aM 50 48 49,mv 5 50]
 .ret))))))))))))⟩
theorem cf147:cFn Tryz.prog Tryz.f212=some af147:=by kernel_rfl
theorem gd147:GD 212 af147:=gG Tryz.func212 cf147 (by kernel_rfl)
def af150:AFn:=⟨19,[(4,none)],(sr [bo 3 1,mk 4 0]
 (.seq (sr [mv 6 0,le 7 6,mk 8 0]
 (.block 0 (.loop (sr [cL 9 8 7]
 (.seq (.cond (tZ 9) .skip
 (.exit 0))
 (.seq (.block 1 (sr [mv 10 8,mv 5 10]
 (.seq (.region true [lw 11 3 3,mv 12 0,mv 13 5,ix 14 3 12 13,lw 15 3 14,oZ 16 (.bin .eql (.flat [.int,.bool,.int]) (tZ 11) (tZ 15))])
 (.cond (tZ 16) (sr [mv 17 5,mv 4 17]
 .ret)
 .skip))))
 (rf [aDk 18 8 1,mv 8 18])))))))
 (sr [mk 4 (-1)]
 .ret)))⟩
theorem cf150:cFn Tryz.prog Tryz.f196=some af150:=by kernel_rfl
theorem gd150:GD 196 af150:=gG Tryz.func196 cf150 (by kernel_rfl)
def af151:AFn:=⟨6,[(2,none)],(sr [bo 1 0,mfZ 2]
 (sr [fa 3 0 1,lo 4 3,cEk 5 4 1,mv 2 5]
 .ret))⟩
theorem cf151:cFn Tryz.prog Tryz.f197=some af151:=by kernel_rfl
theorem gd151:GD 197 af151:=gG Tryz.func197 cf151 (by kernel_rfl)
def af153:AFn:=⟨25,[(4,none)],(sr [bo 2 0,bo 3 1,mk 4 0]
 (.seq (sr [lw 6 3 2,ca1 7 109 6,no 8 7]
 (.cond (tZ 8) (sr [mk 4 2]
 .ret)
 .skip))
 (.seq (sr [lw 9 2 3,ca1 10 56 9,mv 5 10]
 (sr [mv 11 5,cNk 12 11 0]
 (.cond (tZ 12) (sr [mv 13 5,mv 4 13]
 .ret)
 .skip)))
 (.seq (sr [fa 14 0 3,lo 15 14,fa 16 0 2,lo 17 16,le 18 17,cN 19 15 18,mv 20 19,gZ 21 20 false (.load (some 2) (tZ 3)),gZ 22 20 false (.call (.fn 164) [(tZ 21)]),gZ 23 20 false (.un .not (tZ 22)),pk1 24 20 23]
 (.cond (tZ 24) (sr [mk 4 2]
 .ret)
 .skip))
 (sr [mk 4 0]
 .ret)))))⟩
theorem cf153:cFn Tryz.prog Tryz.f173=some af153:=by kernel_rfl
theorem gd153:GD 173 af153:=gG Tryz.func173 cf153 (by kernel_rfl)
def af154:AFn:=⟨65,[(4,none)],(sr [bo 2 0,mnZ 4]
 (sr [mnZ 5]
 (sr [mfZ 6]
 (.seq (sr [fa 10 1 2,lo 11 10,le 12 11,mk 13 0]
 (.block 0 (.loop (sr [cL 14 13 12]
 (.seq (.cond (tZ 14) .skip
 (.exit 0))
 (.seq (.block 1 (sr [mv 15 13,ix 16 6 11 13,lw 17 6 16,oZ 8 (.alloc [(.int .i64 0),(.int .i64 0),(.int .i64 0),(.int .i64 0),(.int .i64 0),(.bool false)]),mv 7 15,so 6 8 17]
 (.seq (sr [lw 18 6 8,ca1 19 197 18,no 20 19]
 (.cond (tZ 20) (.exit 1)
 .skip))
 (sr [mv 21 6,no 22 21,mv 6 22]
 (sr [mv 23 7,aDk 24 23 1,fa 25 1 2,lo 26 25,le 27 26,aR 28 24 27,mv 9 28]
 (.seq (.seq (.region true [mv 29 6,no 30 29,mv 31 30,gff 32 31 1 8,gfl 33 31 32,gff 34 31 1 2,gfl 35 31 34,gfm 36 31 9,gZ 37 31 false (.idxA 6 (tZ 35) (tZ 36)),gff 38 31 1 37,gfl 39 31 38,gZ 40 31 false (.minmax true [(tZ 33),(tZ 39)]),gfm 41 31 1,gZ 42 31 false (.bin .neq .num (tZ 40) (tZ 41)),pk1 43 31 42])
 (.cond (tZ 43) (.exit 1)
 .skip))
 (sr [fa 44 1 8,lo 45 44,mv 46 1,cE 47 45 46]
 (.cond (tZ 47) (rf [mv 48 5,mv 49 9,mv 50 7,oZ 51 (.build [(.int .i64 0),(.int .i64 0)] [(0,1,(tZ 49)),(1,1,(tZ 50))]),oZ 52 (.mkSl 2 1 [(.int .i64 0),(.int .i64 0)] [(0,(tZ 51))]),oZ 53 (.append 2 16 [(.int .i64 0),(.int .i64 0)] (tZ 48) (tZ 52)),mv 5 53])
 (rf [mv 54 5,mv 55 7,mv 56 9,oZ 57 (.build [(.int .i64 0),(.int .i64 0)] [(0,1,(tZ 55)),(1,1,(tZ 56))]),oZ 58 (.mkSl 2 1 [(.int .i64 0),(.int .i64 0)] [(0,(tZ 57))]),oZ 59 (.append 2 16 [(.int .i64 0),(.int .i64 0)] (tZ 54) (tZ 58)),mv 5 59])))))))))
 (rf [aDk 60 13 1,mv 13 60])))))))
 (sr [mv 61 5,oZ 62 (.mkFunc (.func 202) [] [(tZ 2)]),ca2 63 201 61 62]
 (sr [mv 64 5,mv 4 64]
 .ret))))))⟩
theorem cf154:cFn Tryz.prog Tryz.f174=some af154:=by kernel_rfl
theorem gd154:GD 174 af154:=gG Tryz.func174 cf154 (by kernel_rfl)
def af155:AFn:=⟨53,[],(sr [mv 10 1,aDk 11 10 1,mv 8 11]
 (.block 0 (.loop (.seq (sr [mv 12 8,mv 13 2,cL 14 12 13]
 (.cond (tZ 14) .skip
 (.exit 0)))
 (.seq (.block 1 (sr [mv 17 8,mv 9 17]
 (.block 2 (.loop (.seq (.seq (.region true [mv 18 9,mv 19 1,cG 20 18 19,mv 21 20,gtm 22 21 3,gtm 23 21 0,gtm 24 21 9,gZ 25 21 true (.idxA 2 (tZ 23) (tZ 24)),gZ 26 21 true (.load (some 2) (tZ 25)),gtm 27 21 0,gtm 28 21 9,gZ 29 21 true (.bin .sub .num (tZ 28) (kZ 1)),gZ 30 21 true (.idxA 2 (tZ 27) (tZ 29)),gZ 31 21 true (.load (some 2) (tZ 30)),gZ 32 21 true (.call (tZ 22) [(tZ 26),(tZ 31)]),gZ 33 21 true (.bin .lss .num (tZ 32) (kZ 0)),pk0 34 21 33])
 (.cond (tZ 34) .skip
 (.exit 2)))
 (.seq (.block 3 (.region true [mv 37 0,mv 38 9,mv 39 0,mv 40 9,aSk 41 40 1,mv 42 0,mv 43 9,aSk 44 43 1,ix 45 2 42 44,lw 46 2 45,mv 47 0,mv 48 9,ix 49 2 47 48,lw 50 2 49,ix 51 2 37 38,so 2 51 46,ix 52 2 39 41,so 2 52 50]))
 (rf [mv 35 9,aSk 36 35 1,mv 9 36])))))))
 (rf [mv 15 8,aDk 16 15 1,mv 8 16]))))))⟩
theorem cf155:cFn Tryz.prog Tryz.f215=some af155:=by kernel_rfl
theorem gd155:GD 215 af155:=gG Tryz.func215 cf155 (by kernel_rfl)
def af164:AFn:=⟨25,[(2,none)],(sr [mk 2 0]
 (.seq (sr [mv 3 0,oZ 4 (.bin .geq .num (tZ 3) (.const (.int .u64 4294967296)))]
 (.cond (tZ 4) (sr [mv 5 0,oZ 6 (.bin .shr .num (tZ 5) (.const (.int .u64 32))),mv 0 6]
 (rf [mk 2 32]))
 .skip))
 (.seq (sr [mv 7 0,oZ 8 (.bin .geq .num (tZ 7) (.const (.int .u64 65536)))]
 (.cond (tZ 8) (sr [mv 9 0,oZ 10 (.bin .shr .num (tZ 9) (.const (.int .u64 16))),mv 0 10]
 (rf [mv 11 2,aDk 12 11 16,mv 2 12]))
 .skip))
 (.seq (sr [mv 13 0,oZ 14 (.bin .geq .num (tZ 13) (.const (.int .u64 256)))]
 (.cond (tZ 14) (sr [mv 15 0,oZ 16 (.bin .shr .num (tZ 15) (.const (.int .u64 8))),mv 0 16]
 (rf [mv 17 2,aDk 18 17 8,mv 2 18]))
 .skip))
 (sr [mv 19 2,mv 20 0,oZ 21 (.convInt .u8 (tZ 20)),oZ 22 (.idxStr (.const (.str [0,1,2,2,3,3,3,3,4,4,4,4,4,4,4,4,5,5,5,5,5,5,5,5,5,5,5,5,5,5,5,5,6,6,6,6,6,6,6,6,6,6,6,6,6,6,6,6,6,6,6,6,6,6,6,6,6,6,6,6,6,6,6,6,7,7,7,7,7,7,7,7,7,7,7,7,7,7,7,7,7,7,7,7,7,7,7,7,7,7,7,7,7,7,7,7,7,7,7,7,7,7,7,7,7,7,7,7,7,7,7,7,7,7,7,7,7,7,7,7,7,7,7,7,7,7,7,7,8,8,8,8,8,8,8,8,8,8,8,8,8,8,8,8,8,8,8,8,8,8,8,8,8,8,8,8,8,8,8,8,8,8,8,8,8,8,8,8,8,8,8,8,8,8,8,8,8,8,8,8,8,8,8,8,8,8,8,8,8,8,8,8,8,8,8,8,8,8,8,8,8,8,8,8,8,8,8,8,8,8,8,8,8,8,8,8,8,8,8,8,8,8,8,8,8,8,8,8,8,8,8,8,8,8,8,8,8,8,8,8,8,8,8,8,8,8,8,8,8,8,8,8,8,8,8,8])) (tZ 21)),oZ 23 (.convInt .i64 (tZ 22)),aD 24 19 23,mv 2 24]
 .ret)))))⟩
theorem cf164:cFn Tryz.prog Tryz.f224=some af164:=by kernel_rfl
theorem gd164:GD 224 af164:=gG Tryz.func224 cf164 (by kernel_rfl)
def af166:AFn:=⟨9,[(4,none)],(sr [mfZ 4]
 (sr [mv 5 0,mv 6 1,ca2 7 226 5 6,cHk 8 7 0,mv 4 8]
 .ret))⟩
theorem cf166:cFn Tryz.prog Tryz.f198=some af166:=by kernel_rfl
theorem gd166:GD 198 af166:=gG Tryz.func198 cf166 (by kernel_rfl)
def af167:AFn:=⟨55,[(3,none)],(sr [bo 2 0,mfZ 3]
 (.seq (sr [fa 4 0 2,lo 5 4]
 (.block 0 (sr [cEk 7 5 1,mv 6 7]
 (.cond (tZ 6) (.seq (.region true [fa 8 1 2,lo 9 8,cLk 10 9 0,mv 11 10,gff 12 11 1 2,gfl 13 11 12,gfl 14 11 1,gZ 15 11 false (.nilChk (tZ 14)),gff 16 11 0 15,gff 17 11 0 16,gfl 18 11 17,gZ 19 11 false (.bin .gtr .num (tZ 13) (tZ 18)),pk1 20 11 19,mv 21 20,gff 22 21 3 2,gfl 23 21 22,gZ 24 21 false (.bin .neq .num (tZ 23) (kZ 0)),pk1 25 21 24,mv 26 25,gff 27 26 4 2,gfl 28 26 27,gZ 29 26 false (.bin .neq .num (tZ 28) (kZ 0)),pk1 30 26 29,mv 31 30,gff 32 31 5 2,gfl 33 31 32,pk1 34 31 33,mv 3 34])
 .ret)
 (sr [cEk 36 5 2,mv 35 36]
 (.cond (tZ 35) (sr [fa 37 1 2,lo 38 37,cNk 39 38 0,mv 40 39,gff 41 40 2 2,gfl 42 40 41,gZ 43 40 false (.bin .neq .num (tZ 42) (kZ 0)),pk1 44 40 43,mv 45 44,gff 46 45 4 2,gfl 47 45 46,gZ 48 45 false (.bin .neq .num (tZ 47) (kZ 1)),gfm 49 45 48,gtf 50 49 4 2,gtl 51 49 50,gZ 52 49 true (.bin .neq .num (tZ 51) (kZ (-1))),gZ 53 45 false (.pick (tZ 49) (tZ 52) (bZ false)),pk1 54 45 53,mv 3 54]
 .ret)
 .skip))))))
 (sr [mtZ 3]
 .ret)))⟩
theorem cf167:cFn Tryz.prog Tryz.f199=some af167:=by kernel_rfl
theorem gd167:GD 199 af167:=gG Tryz.func199 cf167 (by kernel_rfl)
def af168:AFn:=⟨20,[(2,none)],(sr [bo 1 0,mk 2 0]
 (sr [mk 3 0]
 (.seq (sr [fa 6 1 1,lo 7 6,le 8 7,mk 9 0]
 (.block 0 (.loop (sr [cL 10 9 8]
 (.seq (.cond (tZ 10) .skip
 (.exit 0))
 (.seq (.block 1 (sr [ix 11 6 7 9,lw 12 6 11,oZ 5 (.alloc [(.int .i64 0),(.int .i64 0),(.int .i64 0),(.int .i64 0),(.int .i64 0),(.bool false)]),so 6 5 12]
 (sr [fa 13 0 5,lo 14 13,cEk 15 14 1]
 (.cond (tZ 15) (rf [mv 16 3,aDk 17 16 1,mv 3 17])
 .skip))))
 (rf [aDk 18 9 1,mv 9 18])))))))
 (sr [mv 19 3,mv 2 19]
 .ret))))⟩
theorem cf168:cFn Tryz.prog Tryz.f200=some af168:=by kernel_rfl
theorem gd168:GD 200 af168:=gG Tryz.func200 cf168 (by kernel_rfl)
def af169:AFn:=⟨28,[],(sr [mv 4 0,le 5 4,aSk 6 5 1,mk 2 0,mv 3 6]
 (.block 0 (.loop (.seq (sr [mv 7 2,mv 8 3,cL 9 7 8]
 (.cond (tZ 9) .skip
 (.exit 0)))
 (.seq (.block 1 (.region true [mv 14 0,mv 15 2,mv 16 0,mv 17 3,mv 18 0,mv 19 3,ix 20 6 18 19,lw 21 6 20,mv 22 0,mv 23 2,ix 24 6 22 23,lw 25 6 24,ix 26 6 14 15,so 6 26 21,ix 27 6 16 17,so 6 27 25]))
 (rf [mv 10 2,aDk 11 10 1,mv 12 3,aSk 13 12 1,mv 2 11,mv 3 13]))))))⟩
theorem cf169:cFn Tryz.prog Tryz.f117=some af169:=by kernel_rfl
theorem gd169:GD 117 af169:=gG Tryz.func117 cf169 (by kernel_rfl)
def af170:AFn:=⟨62,[(4,none)],(sr [bo 2 0,bo 3 1,mfZ 4]
 (.seq (.block 0 (sr [fa 6 0 2,lo 7 6,fa 8 0 3,lo 9 8,cN 10 7 9,mv 5 10]
 (.cond (tZ 5) (sr [fa 11 0 2,lo 12 11,fa 13 0 3,lo 14 13,cL 15 12 14,mv 4 15]
 .ret)
 (sr [fa 17 1 2,lo 18 17,fa 19 1 3,lo 20 19,cN 21 18 20,mv 16 21]
 (.cond (tZ 16) (sr [fa 22 1 2,lo 23 22,fa 24 1 3,lo 25 24,cL 26 23 25,mv 4 26]
 .ret)
 (sr [fa 28 2 2,lo 29 28,fa 30 2 3,lo 31 30,cN 32 29 31,mv 27 32]
 (.cond (tZ 27) (sr [fa 33 2 2,lo 34 33,fa 35 2 3,lo 36 35,cL 37 34 36,mv 4 37]
 .ret)
 (sr [fa 39 3 2,lo 40 39,fa 41 3 3,lo 42 41,cN 43 40 42,mv 38 43]
 (.cond (tZ 38) (sr [fa 44 3 2,lo 45 44,fa 46 3 3,lo 47 46,cL 48 45 47,mv 4 48]
 .ret)
 (sr [fa 50 5 2,lo 51 50,fa 52 5 3,lo 53 52,oZ 54 (.bin .neq .bool (tZ 51) (tZ 53)),mv 49 54]
 (.cond (tZ 49) (sr [fa 55 5 3,lo 56 55,mv 4 56]
 .ret)
 .skip)))))))))))
 (sr [fa 57 4 2,lo 58 57,fa 59 4 3,lo 60 59,cL 61 58 60,mv 4 61]
 .ret)))⟩
theorem cf170:cFn Tryz.prog Tryz.f172=some af170:=by kernel_rfl
theorem gd170:GD 172 af170:=gG Tryz.func172 cf170 (by kernel_rfl)
def af176:AFn:=⟨14,[],(sr [mv 5 0,le 6 5,mv 4 6]
 (rf [mv 7 0,mv 8 4,mv 9 4,oZ 10 (.convInt .u64 (tZ 9)),ca1 11 190 10,mv 12 1,oZ 13 (.call (.fn 227) [(tZ 7),(kZ 0),(tZ 8),(tZ 11),(tZ 12)])]))⟩
theorem cf176:cFn Tryz.prog Tryz.f201=some af176:=by kernel_rfl
theorem gd176:GD 201 af176:=gG Tryz.func201 cf176 (by kernel_rfl)
def af183:AFn:=⟨19,[(4,none)],(sr [mk 4 0]
 (.seq (sr [mv 6 0,le 7 6,mk 8 0]
 (.block 0 (.loop (sr [cL 9 8 7]
 (.seq (.cond (tZ 9) .skip
 (.exit 0))
 (.seq (.block 1 (sr [mv 10 8,mv 5 10]
 (sr [mv 11 1,mv 12 0,mv 13 5,ix 14 6 12 13,lw 15 6 14,oZ 16 (.call (tZ 11) [(tZ 15)])]
 (.cond (tZ 16) (sr [mv 17 5,mv 4 17]
 .ret)
 .skip))))
 (rf [aDk 18 8 1,mv 8 18])))))))
 (sr [mk 4 (-1)]
 .ret)))⟩
theorem cf183:cFn Tryz.prog Tryz.f226=some af183:=by kernel_rfl
theorem gd183:GD 226 af183:=gG Tryz.func226 cf183 (by kernel_rfl)
def af186:AFn:=⟨148,[],(sr [mtZ 10]
 (sr [mtZ 11]
 (.block 0 (.loop (.block 1 (sr [mv 21 2,mv 22 1,aS 23 21 22,mv 12 23]
 (.seq (sr [mv 24 12,cKk 25 24 12]
 (.cond (tZ 25) (sr [mv 26 0,mv 27 1,mv 28 2,mv 29 4,oZ 30 (.call (.fn 238) [(tZ 26),(tZ 27),(tZ 28),(tZ 29)])]
 .ret)
 .skip))
 (.seq (sr [mv 31 3,cEk 32 31 0]
 (.cond (tZ 32) (sr [mv 33 0,mv 34 1,mv 35 2,mv 36 4,oZ 37 (.call (.fn 239) [(tZ 33),(tZ 34),(tZ 35),(tZ 36)])]
 .ret)
 .skip))
 (.seq (sr [mv 38 10,no 39 38]
 (.cond (tZ 39) (sr [mv 40 0,mv 41 1,mv 42 2,mv 43 4,oZ 44 (.call (.fn 240) [(tZ 40),(tZ 41),(tZ 42),(tZ 43)])]
 (rf [mv 45 3,aSk 46 45 1,mv 3 46]))
 .skip))
 (sr [mv 48 0,mv 49 1,mv 50 2,mv 51 4,oZ 52 (.call (.fn 241) [(tZ 48),(tZ 49),(tZ 50),(tZ 51)]),mv 47 52,ex 53 47 0,ex 54 47 1,mv 13 53,mv 14 54]
 (.seq (sr [mv 55 14,cEk 56 55 2]
 (.cond (tZ 56) (sr [mv 57 0,mv 58 1,mv 59 2,mv 60 4,oZ 61 (.call (.fn 242) [(tZ 57),(tZ 58),(tZ 59),(tZ 60)])]
 (sr [mv 62 2,aSk 63 62 1,mv 64 13,mv 65 1,aS 66 64 65,aS 67 63 66,mv 13 67]
 (rf [mk 14 1])))
 .skip))
 (.seq (sr [mv 68 10,mv 69 68,gtm 70 69 11,pk0 71 69 70,mv 72 71,gtm 73 72 14,gZ 74 72 true (.bin .eql .num (tZ 73) (kZ 1)),pk0 75 72 74]
 (.cond (tZ 75) (sr [mv 76 0,mv 77 1,mv 78 2,mv 79 4,oZ 80 (.call (.fn 243) [(tZ 76),(tZ 77),(tZ 78),(tZ 79)])]
 (.cond (tZ 80) .ret
 .skip))
 .skip))
 (.seq (.seq (.region true [mv 81 1,cGk 82 81 0,mv 83 82,gtm 84 83 4,gtm 85 83 0,gtm 86 83 1,gZ 87 83 true (.bin .sub .num (tZ 86) (kZ 1)),gZ 88 83 true (.idxA 2 (tZ 85) (tZ 87)),gZ 89 83 true (.load (some 2) (tZ 88)),gtm 90 83 0,gtm 91 83 13,gZ 92 83 true (.idxA 2 (tZ 90) (tZ 91)),gZ 93 83 true (.load (some 2) (tZ 92)),gZ 94 83 true (.call (tZ 84) [(tZ 89),(tZ 93)]),gZ 95 83 true (.bin .lss .num (tZ 94) (kZ 0)),gZ 96 83 true (.un .not (tZ 95)),pk0 97 83 96])
 (.cond (tZ 97) (sr [mv 98 0,mv 99 1,mv 100 2,mv 101 13,mv 102 4,oZ 103 (.call (.fn 244) [(tZ 98),(tZ 99),(tZ 100),(tZ 101),(tZ 102)]),mv 15 103]
 (sr [mv 104 15,mv 1 104]
 (.exit 1)))
 .skip))
 (sr [mv 106 0,mv 107 1,mv 108 2,mv 109 13,mv 110 4,oZ 111 (.call (.fn 245) [(tZ 106),(tZ 107),(tZ 108),(tZ 109),(tZ 110)]),mv 105 111,ex 112 105 0,ex 113 105 1,mv 16 112,mv 17 113]
 (sr [mv 114 17,mv 11 114]
 (sr [mv 115 16,mv 116 1,aS 117 115 116,mv 118 2,mv 119 16,aS 120 118 119,mv 18 117,mv 19 120]
 (sr [mv 121 12,aQk 122 121 8,mv 20 122]
 (sr [mv 123 18,mv 124 19,cL 125 123 124]
 (.cond (tZ 125) (sr [mv 126 18,mv 127 20,cH 128 126 127,mv 10 128]
 (sr [mv 129 0,mv 130 1,mv 131 16,mv 132 3,mv 133 4,oZ 134 (.call (.fn 227) [(tZ 129),(tZ 130),(tZ 131),(tZ 132),(tZ 133)])]
 (rf [mv 135 16,aDk 136 135 1,mv 1 136])))
 (sr [mv 137 19,mv 138 20,cH 139 137 138,mv 10 139]
 (sr [mv 140 0,mv 141 16,aDk 142 141 1,mv 143 2,mv 144 3,mv 145 4,oZ 146 (.call (.fn 227) [(tZ 140),(tZ 142),(tZ 143),(tZ 144),(tZ 145)])]
 (rf [mv 147 16,mv 2 147]))))))))))))))))))))))⟩
theorem cf186:cFn Tryz.prog Tryz.f227=some af186:=by kernel_rfl
theorem gd186:GD 227 af186:=gG Tryz.func227 cf186 (by kernel_rfl)
def af188:AFn:=⟨53,[],(sr [mv 10 1,aDk 11 10 1,mv 8 11]
 (.block 0 (.loop (.seq (sr [mv 12 8,mv 13 2,cL 14 12 13]
 (.cond (tZ 14) .skip
 (.exit 0)))
 (.seq (.block 1 (sr [mv 17 8,mv 9 17]
 (.block 2 (.loop (.seq (.seq (.region true [mv 18 9,mv 19 1,cG 20 18 19,mv 21 20,gtm 22 21 3,gtm 23 21 0,gtm 24 21 9,gZ 25 21 true (.idxA 2 (tZ 23) (tZ 24)),gZ 26 21 true (.load (some 2) (tZ 25)),gtm 27 21 0,gtm 28 21 9,gZ 29 21 true (.bin .sub .num (tZ 28) (kZ 1)),gZ 30 21 true (.idxA 2 (tZ 27) (tZ 29)),gZ 31 21 true (.load (some 2) (tZ 30)),gZ 32 21 true (.call (tZ 22) [(tZ 26),(tZ 31)]),gZ 33 21 true (.bin .lss .num (tZ 32) (kZ 0)),pk0 34 21 33])
 (.cond (tZ 34) .skip
 (.exit 2)))
 (.seq (.block 3 (.region true [mv 37 0,mv 38 9,mv 39 0,mv 40 9,aSk 41 40 1,mv 42 0,mv 43 9,aSk 44 43 1,ix 45 2 42 44,lw 46 2 45,mv 47 0,mv 48 9,ix 49 2 47 48,lw 50 2 49,ix 51 2 37 38,so 2 51 46,ix 52 2 39 41,so 2 52 50]))
 (rf [mv 35 9,aSk 36 35 1,mv 9 36])))))))
 (rf [mv 15 8,aDk 16 15 1,mv 8 16]))))))⟩
theorem cf188:cFn Tryz.prog Tryz.f238=some af188:=by kernel_rfl
theorem gd188:GD 238 af188:=gG Tryz.func238 cf188 (by kernel_rfl)
end Go.Known
end
section
namespace Go.Known
open Go Go.AE Go.Proofs
def alVisits:AFn:=⟨114,[(8,none)],(sr [bo 4 0,bo 5 1,bo 7 3,mfZ 8]
 (.seq (sr [lw 19 3 4,lw 20 2 5,ca2 21 23 19 20,no 22 21,mv 23 22,gfm 24 23 2,gZ 25 23 false (.lenSl (tZ 24)),gZ 26 23 false (.bin .gtr .num (tZ 25) (kZ 45)),pk1 27 23 26]
 (.cond (tZ 27) (sr [oZ 28 (.call (.fn 13) []),mv 8 28]
 .ret)
 .skip))
 (sr [lw 30 3 4,lw 31 2 5,mv 32 2,lw 33 2 7,oZ 34 (.call (.fn 36) [(tZ 30),(tZ 31),(tZ 32),(tZ 33)]),mv 29 34,ex 35 29 0,ex 36 29 1,ex 37 29 2,oZ 9 (.alloc [.nilSl,(.int .i64 0),(.int .i64 0)]),oZ 10 (.alloc [(.int .i64 0),.nilSl]),so 3 9 35,so 2 10 36,mv 11 37]
 (.seq (sr [mv 38 11,cNk 39 38 0,mv 40 39,gfm 41 40 2,gZ 42 40 false (.lenSl (tZ 41)),gZ 43 40 false (.bin .eql .num (tZ 42) (kZ 0)),pk1 44 40 43]
 (.cond (tZ 44) (sr [oZ 45 (.call (.fn 13) []),mv 8 45]
 .ret)
 .skip))
 (.seq (sr [mk 12 0]
 (.block 0 (.loop (.seq (sr [mv 46 12,fa 47 0 4,lo 48 47,le 49 48,cL 50 46 49]
 (.cond (tZ 50) .skip
 (.exit 0)))
 (.seq (.block 1 (.seq (.region true [fa 53 0 4,lo 54 53,mv 55 12,ix 56 3 54 55,fa 57 0 56,lo 58 57,mv 59 2,oZ 60 (.idxA 3 (tZ 59) (kZ 0)),fa 61 0 60,lo 62 61,cE 63 58 62])
 (.cond (tZ 63) (sr [oZ 64 (.call (.fn 13) []),mv 8 64]
 .ret)
 .skip)))
 (rf [mv 51 12,aDk 52 51 1,mv 12 52]))))))
 (sr [lw 66 3 9,lw 67 2 10,ca2 68 32 66 67,mv 65 68,ex 69 65 0,ex 70 65 1,mv 13 69,mv 14 70]
 (.seq (sr [mv 71 14,cNk 72 71 0]
 (.cond (tZ 72) (sr [mfZ 8]
 .ret)
 .skip))
 (.seq (sr [mk 15 0]
 (.block 2 (.loop (.seq (sr [mv 73 15,mv 74 13,le 75 74,cL 76 73 75]
 (.cond (tZ 76) .skip
 (.exit 2)))
 (.seq (.block 3 (.seq (.region true [mv 79 13,mv 80 15,ix 81 1 79 80,lo 82 81,mv 83 2,oZ 84 (.idxA 3 (tZ 83) (kZ 0)),fa 85 0 84,lo 86 85,cE 87 82 86])
 (.cond (tZ 87) (sr [mfZ 8]
 .ret)
 .skip)))
 (rf [mv 77 15,aDk 78 77 1,mv 15 78]))))))
 (.seq (.region true [lw 89 3 9,lw 90 2 10,mv 91 2,oZ 92 (.idxA 3 (tZ 91) (kZ 0)),fa 93 0 92,lo 94 93,ca3 95 24 89 90 94,mv 88 95,ex 96 88 0,ex 97 88 1,ex 98 88 2,⟨(some 16),.alloc [.nilSl,(.int .i64 0),(.int .i64 0)],none,[0,1,3,5,6]⟩,⟨(some 17),.alloc [(.int .i64 0),.nilSl],none,[0,1,3,5,6,11]⟩,so 3 16 96,so 2 17 97,mv 18 98])
 (sr [mv 99 18,cEk 100 99 0,mv 101 100,gZ 102 101 true (.load (some 3) (tZ 16)),gZ 103 101 true (.load (some 3) (tZ 4)),gZ 104 101 true (.call (.fn 26) [(tZ 102),(tZ 103)]),pk0 105 101 104,mv 106 105,gZ 107 106 true (.load (some 2) (tZ 17)),gZ 108 106 true (.load (some 2) (tZ 5)),gZ 109 106 true (.call (.fn 21) [(tZ 107),(tZ 108)]),pk0 110 106 109,mv 111 110,gZ 112 111 true (.call (.fn 13) []),pk0 113 111 112,mv 8 113]
 .ret))))))))))⟩
theorem clVisits:cFn Tryz.prog Tryz.f8=some alVisits:=by kernel_rfl
def alPersons:AFn:=⟨32,[(4,none),(5,none)],(sr [bo 2 0,bo 3 1,mnZ 4,mk 5 0]
 (sr [lw 11 3 2,lw 12 2 3,ca2 13 63 11 12,mv 10 13,ex 14 10 0,ex 15 10 1,mv 6 14,mv 7 15]
 (.seq (sr [mv 16 7,cNk 17 16 0]
 (.cond (tZ 17) (sr [mv 18 7,mnZ 4,mv 5 18]
 .ret)
 .skip))
 (sr [mnZ 8]
 (.seq (sr [mk 9 1]
 (.block 0 (.loop (.seq (sr [mv 19 9,cKk 20 19 9]
 (.cond (tZ 20) .skip
 (.exit 0)))
 (.seq (.block 1 (sr [mv 23 6,mv 24 9,ca2 25 75 23 24,cGk 26 25 0]
 (.cond (tZ 26) (rf [mv 27 8,mv 28 9,oZ 29 (.mkSl 1 1 [(.int .i64 0)] [(0,(tZ 28))]),oZ 30 (.append 1 8 [(.int .i64 0)] (tZ 27) (tZ 29)),mv 8 30])
 .skip)))
 (rf [mv 21 9,aDk 22 21 1,mv 9 22]))))))
 (sr [mv 31 8,mv 4 31,mk 5 0]
 .ret))))))⟩
theorem clPersons:cFn Tryz.prog Tryz.f32=some alPersons:=by kernel_rfl
end Go.Known
end
section
namespace Go.Known
open Go Go.AE Go.Proofs
def ajHands:AFn:=⟨15,[(4,none)],(sr [bo 2 0,bo 3 1,mfZ 4]
 (sr [fa 5 0 2,lo 6 5,le 7 6,cKk 8 7 45,mv 9 8,gtf 10 9 1 3,gtl 11 9 10,gZ 12 9 true (.lenSl (tZ 11)),gZ 13 9 true (.bin .leq .num (tZ 12) (kZ 40)),pk0 14 9 13,mv 4 14]
 .ret))⟩
theorem cjHands:cFn Tryz.prog Tryz.f23=some ajHands:=by kernel_rfl
def ajForget:AFn:=⟨85,[(4,(some (some 2))),(5,none)],(sr [bo 2 0,oZ 4 (.alloc [(.int .i64 0),.nilSl]),mk 5 0]
 (sr [lw 12 2 2,ca1 13 73 12,mv 11 13,ex 14 11 0,ex 15 11 1,mv 6 14,mv 7 15]
 (.seq (sr [mv 16 7,cNk 17 16 0]
 (.cond (tZ 17) (sr [oZ 18 (.build [(.int .i64 0),.nilSl] []),mv 19 7,so 2 4 18,mv 5 19]
 .ret)
 .skip))
 (.seq (sr [mv 20 1,cLk 21 20 1,mv 22 21,gfm 23 22 1,gff 24 22 0 2,gfl 25 22 24,gZ 26 22 false (.bin .gtr .num (tZ 23) (tZ 25)),pk1 27 22 26]
 (.cond (tZ 27) (sr [oZ 28 (.build [(.int .i64 0),.nilSl] []),so 2 4 28,mk 5 2]
 .ret)
 .skip))
 (sr [mv 29 6,nc 30 29,fa 31 0 30,fa 32 1 31,lo 33 32,ca1 34 57 33,mv 8 34]
 (.seq (sr [mv 35 8,le 36 35,mk 37 0]
 (.block 0 (.loop (sr [cL 38 37 36]
 (.seq (.cond (tZ 38) .skip
 (.exit 0))
 (.seq (.block 1 (sr [mv 39 37,ix 40 6 35 37,lw 41 6 40,oZ 10 (.alloc [(.int .i64 0),(.int .i64 0),(.int .i64 0),(.int .i64 0),(.int .i64 0),(.bool false)]),mv 9 39,so 6 10 41]
 (.seq (sr [fa 42 0 10,lo 43 42,cNk 44 43 1,mv 45 44,gff 46 45 1 10,gfl 47 45 46,gfm 48 45 1,gZ 49 45 false (.bin .lss .num (tZ 47) (tZ 48)),pk1 50 45 49]
 (.cond (tZ 50) (.exit 1)
 .skip))
 (sr [mv 51 8,mv 52 9,ix 53 6 51 52,fa 54 1 53,lo 55 54,aSk 56 55 1,ix 57 6 51 52,fa 58 1 57,so 1 58 56]
 (sr [fa 59 1 10,lo 60 59,mv 61 1,cE 62 60 61]
 (.cond (tZ 62) (.region true [mv 63 8,mv 64 9,ix 65 6 63 64,fa 66 2 65,lo 67 66,mv 68 6,nc 69 68,fa 70 6 69,lo 71 70,mv 72 1,aSk 73 72 1,ix 74 1 71 73,lo 75 74,aD 76 67 75,ix 77 6 63 64,fa 78 2 77,so 1 78 76])
 .skip))))))
 (rf [aDk 79 37 1,mv 37 79])))))))
 (sr [fa 80 0 2,lo 81 80,aSk 82 81 1,mv 83 8,oZ 84 (.build [(.int .i64 0),.nilSl] [(0,1,(tZ 82)),(1,1,(tZ 83))]),so 2 4 84,mk 5 0]
 .ret)))))))⟩
theorem cjForget:cFn Tryz.prog Tryz.f113=some ajForget:=by kernel_rfl
def ajSameFrame:AFn:=⟨45,[(4,none)],(sr [bo 2 0,bo 3 1,mfZ 4]
 (.seq (sr [fa 6 1 2,lo 7 6,fa 8 1 3,lo 9 8,cN 10 7 9,mv 11 10,gff 12 11 2 2,gfl 13 11 12,gff 14 11 2 3,gfl 15 11 14,gZ 16 11 false (.bin .neq .num (tZ 13) (tZ 15)),pk1 17 11 16,mv 18 17,gff 19 18 0 2,gfl 20 18 19,gZ 21 18 false (.lenSl (tZ 20)),gff 22 18 0 3,gfl 23 18 22,gZ 24 18 false (.lenSl (tZ 23)),gZ 25 18 false (.bin .neq .num (tZ 21) (tZ 24)),pk1 26 18 25]
 (.cond (tZ 26) (sr [mfZ 4]
 .ret)
 .skip))
 (.seq (sr [mk 5 0]
 (.block 0 (.loop (.seq (sr [mv 27 5,fa 28 0 2,lo 29 28,le 30 29,cL 31 27 30]
 (.cond (tZ 31) .skip
 (.exit 0)))
 (.seq (.block 1 (.seq (.region true [fa 34 0 2,lo 35 34,mv 36 5,ix 37 3 35 36,lw 38 3 37,fa 39 0 3,lo 40 39,mv 41 5,ix 42 3 40 41,lw 43 3 42,oZ 44 (.bin .neq (.flat [.int,.bool,.int]) (tZ 38) (tZ 43))])
 (.cond (tZ 44) (sr [mfZ 4]
 .ret)
 .skip)))
 (rf [mv 32 5,aDk 33 32 1,mv 5 33]))))))
 (sr [mtZ 4]
 .ret))))⟩
theorem cjSameFrame:cFn Tryz.prog Tryz.f26=some ajSameFrame:=by kernel_rfl
def ajDelF:AFn:=⟨33,[(6,none)],(sr [mnZ 6]
 (sr [mv 8 0,mv 9 1,mv 10 2,mv 11 0,le 12 11,oZ 13 (.slSl 3 (tZ 8) (some (tZ 9)) (some (tZ 10)) (some (tZ 12)))]
 (.seq (sr [mv 14 1,mv 15 2,cE 16 14 15]
 (.cond (tZ 16) (sr [mv 17 0,mv 6 17]
 .ret)
 .skip))
 (sr [mv 18 0,le 19 18,mv 7 19]
 (.seq (.region true [mv 20 0,mv 21 1,oZ 22 (.slSl 3 (tZ 20) none (some (tZ 21)) none),mv 23 0,mv 24 2,oZ 25 (.slSl 3 (tZ 23) (some (tZ 24)) none none),oZ 26 (.append 3 24 [(.int .i64 0),(.bool false),(.int .i64 0)] (tZ 22) (tZ 25)),mv 0 26])
 (sr [mv 27 0,mv 28 0,le 29 28,mv 30 7,oZ 31 (.slSl 3 (tZ 27) (some (tZ 29)) (some (tZ 30)) none),pZ (.clear 3 [(.int .i64 0),(.bool false),(.int .i64 0)] (tZ 31))]
 (sr [mv 32 0,mv 6 32]
 .ret)))))))⟩
theorem cjDelF:cFn Tryz.prog Tryz.f114=some ajDelF:=by kernel_rfl
end Go.Known
end
