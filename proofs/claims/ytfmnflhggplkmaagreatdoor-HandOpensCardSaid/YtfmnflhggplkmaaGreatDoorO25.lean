/- Part 25 of the proof: Lq0, Lr, AeNh. -/
import Derived.Test.YtfmnflhggplkmaaGreatDoorO23
set_option linter.all false
section
namespace Go.Known
open Go Go.AE Go.Proofs
set_option maxRecDepth 100000
def aq122:AFn:=⟨40,[],(sr [bo 3 1]
 (.seq (sr [mv 6 0,nc 7 6,fa 8 6 7,lo 9 8,cNk 10 9 0]
 (.cond (tZ 10) .ret
 .skip))
 (.seq (.region true [mv 12 0,nc 13 12,fa 14 3 13,lw 15 2 14,lw 16 7 3,ca2 17 141 15 16,mv 11 17,ex 18 11 0,ex 19 11 1,⟨(some 4),.alloc [(.int .i64 0),.nilSl],none,[3,4,5]⟩,so 2 4 18,mv 5 19])
 (.seq (sr [mv 20 5,cNk 21 20 0]
 (.cond (tZ 21) (sr [mv 22 0,mv 23 5,nc 24 22,fa 25 6 24,so 1 25 23]
 .ret)
 .skip))
 (sr [mv 26 0,lw 27 2 4,nc 28 26,fa 29 3 28,so 2 29 27]
 (.region true [mv 30 0,mv 31 0,nc 32 31,fa 33 5 32,lo 34 33,lw 35 7 3,⟨(some 36),.mkSl 7 1 [(.int .i64 0),(.int .i64 0),(.int .i64 0),(.int .i64 0),(.bool false),(.bool false),(.int .i64 0)] [(0,tZ 35)],none,[4]⟩,oZ 37 (.append 7 48 [(.int .i64 0),(.int .i64 0),(.int .i64 0),(.int .i64 0),(.bool false),(.bool false),(.int .i64 0)] (tZ 34) (tZ 36)),nc 38 30,fa 39 5 38,so 1 39 37]))))))⟩
theorem cq122:cFn Tryz.prog Tryz.f122=some aq122:=by kernel_rfl
theorem gq122:GD 122 aq122:=gG Tryz.func122 cq122 (by kernel_rfl)
def aq46:AFn:=⟨120,[(4,none)],(sr [bo 3 1,mnZ 4]
 (sr [oZ 5 (.alloc [.nilSl])]
 (.seq (.region true [fa 10 1 3,lo 11 10,fa 12 2 3,fa 13 0 12,lo 14 13,mv 6 11,mv 7 14])
 (.seq (sr [fa 15 0 3,lo 16 15]
 (.block 0 (.seq (.block 5 (.seq (.block 4 (.seq (.block 3 (.seq (.block 2 (.seq (.block 1 (.seq (.seq (sr [cEk 18 16 5,mv 17 18]
 (.cond (tZ 17) (.exit 1)
 .skip))
 (.seq (sr [cEk 20 16 7,mv 19 20]
 (.cond (tZ 19) (.exit 2)
 .skip))
 (.seq (sr [cEk 22 16 6,mv 21 22]
 (.cond (tZ 21) (.exit 3)
 .skip))
 (sr [cEk 24 16 8,mv 23 24]
 (.cond (tZ 23) (.exit 4)
 .skip)))))
 (.exit 5)))
 (sr [mv 25 0,mv 26 6,fa 27 2 3,lw 28 4 27,fa 29 7 3,lo 30 29,oZ 31 (.call (.fn 57) [tZ 25,tZ 26,tZ 28,tZ 30,tZ 5])]
 (.exit 0))))
 (sr [mv 32 0,nc 33 32,fa 34 3 33,lw 35 2 34,mv 36 6,ca2 37 38 35 36,le 38 37,cEk 39 38 0]
 (.cond (tZ 39) (sr [mv 40 0,nc 41 40,fa 42 6 41,pZ (.store 1 (tZ 42) (kZ 8))]
 (sr [mnZ 4]
 .ret))
 .skip))))
 (.seq (.seq (sr [mv 43 0,nc 44 43,fa 45 3 44,lw 46 2 45,mv 47 7,ca2 48 38 46 47,le 49 48,cEk 50 49 0]
 (.cond (tZ 50) (sr [mv 51 0,nc 52 51,fa 53 6 52,pZ (.store 1 (tZ 53) (kZ 8))]
 (sr [mnZ 4]
 .ret))
 .skip))
 (sr [mv 54 0,nc 55 54,fa 56 3 55,lw 57 2 56,mv 58 6,ca2 59 38 57 58,le 60 59,mv 8 60]
 (.seq (.region true [mv 61 0,mv 62 6,mv 63 0,mv 64 6,mv 65 7,oZ 66 (.call (.fn 58) [tZ 63,tZ 64,tZ 65,kZ 0]),fa 67 7 3,⟨(some 68),.load none (tZ 67),none,[5]⟩,oZ 69 (.call (.fn 57) [tZ 61,tZ 62,tZ 66,tZ 68,tZ 5])])
 (sr [mv 70 0,mv 71 7,oZ 72 (.build [(.int .i64 0),(.int .i64 0),(.int .i64 0),(.int .i64 0),(.bool false),(.int .i64 0),.nilSl,(.bool false)] [(0,1,kZ 1),(1,1,tZ 71)]),ca3 73 59 70 72 5]
 (sr [fa 74 0 3,lo 75 74,cEk 76 75 7]
 (.cond (tZ 76) (.seq (.region true [mv 77 0,mv 78 7,mv 79 0,mv 80 7,mv 81 6,mv 82 8,oZ 83 (.call (.fn 58) [tZ 79,tZ 80,tZ 81,tZ 82]),fa 84 7 3,⟨(some 85),.load none (tZ 84),none,[6]⟩,no 86 85,oZ 87 (.call (.fn 57) [tZ 77,tZ 78,tZ 83,tZ 86,tZ 5])])
 (rf [mv 88 0,mv 89 6,oZ 90 (.build [(.int .i64 0),(.int .i64 0),(.int .i64 0),(.int .i64 0),(.bool false),(.int .i64 0),.nilSl,(.bool false)] [(0,1,kZ 2),(1,1,tZ 89)]),ca3 91 59 88 90 5]))
 .skip))))))
 (.exit 0))))
 (.seq (sr [mv 92 0,nc 93 92,fa 94 3 93,lw 95 2 94,mv 96 6,ca2 97 38 95 96,le 98 97,mv 9 98]
 (.seq (sr [mv 99 9,cEk 100 99 0]
 (.cond (tZ 100) (rf [mv 101 0,nc 102 101,fa 103 6 102,pZ (.store 1 (tZ 103) (kZ 8))])
 .skip))
 (sr [mv 104 9,mk 105 0]
 (.block 6 (.loop (sr [cL 106 105 104]
 (.seq (.cond (tZ 106) .skip
 (.exit 6))
 (.seq (.block 7 (rf [mv 107 0,mv 108 6,oZ 109 (.build [(.int .i64 0),(.int .i64 0),(.int .i64 0),(.int .i64 0),(.bool false),(.int .i64 0),.nilSl,(.bool false)] [(0,1,kZ 1),(1,1,tZ 108)]),ca3 110 59 107 109 5]))
 (rf [aDk 111 105 1,mv 105 111])))))))))
 (.exit 0))))
 (.seq (sr [fa 112 6 3,lo 113 112,ca1 114 60 113,fa 115 6 3,so 1 115 114]
 (rf [mv 116 0,lw 117 8 3,ca3 118 59 116 117 5]))
 (.exit 0)))))
 (sr [lo 119 5,mv 4 119]
 .ret)))))⟩
theorem cq46:cFn Tryz.prog Tryz.f46=some aq46:=by kernel_rfl
theorem gq46:GD 46 aq46:=gG Tryz.func46 cq46 (by kernel_rfl)
def aq126:AFn:=⟨49,[(6,none)],(sr [mk 6 0]
 (sr [mv 8 0,nc 9 8,fa 10 3 9,fa 11 1 10,lo 12 11,le 13 12,mv 7 13]
 (.seq (.block 0 (sr [mv 15 1,cLk 16 15 0,mv 17 16,gfm 18 17 2,gZ 19 17 false (.bin .lss .num (tZ 18) (kZ 0)),pk1 20 17 19,mv 14 20]
 (.cond (tZ 14) (sr [mk 6 (-1)]
 .ret)
 (sr [mv 22 1,aDk 23 22 1,mv 24 7,aR 25 23 24,mv 26 2,cE 27 25 26,mv 28 27,gtm 29 28 7,gZ 30 28 true (.bin .gtr .num (tZ 29) (kZ 2)),gtm 31 28 30,gfm 32 31 0,gZ 33 31 false (.nilChk (tZ 32)),gff 34 31 3 33,gZ 35 31 false (.load (some 2) (tZ 34)),gfm 36 31 1,gZ 37 31 false (.call (.fn 76) [tZ 35,tZ 36]),gZ 38 28 true (.pick (tZ 31) (bZ true) (tZ 37)),pk0 39 28 38,mv 21 39]
 (.cond (tZ 21) (sr [mv 40 1,mv 6 40]
 .ret)
 (sr [mv 42 2,aDk 43 42 1,mv 44 7,aR 45 43 44,mv 46 1,cE 47 45 46,mv 41 47]
 (.cond (tZ 41) (sr [mv 48 2,mv 6 48]
 .ret)
 .skip)))))))
 (sr [mk 6 (-1)]
 .ret))))⟩
theorem cq126:cFn Tryz.prog Tryz.f126=some aq126:=by kernel_rfl
theorem gq126:GD 126 aq126:=gG Tryz.func126 cq126 (by kernel_rfl)
def aq124:AFn:=⟨30,[(4,none)],(sr [mk 4 0]
 (sr [mk 5 0]
 (.seq (sr [mv 8 0,nc 9 8,fa 10 3 9,fa 11 1 10,lo 12 11,le 13 12,mk 14 0]
 (.block 0 (.loop (sr [cL 15 14 13]
 (.seq (.cond (tZ 15) .skip
 (.exit 0))
 (.seq (.block 1 (sr [ix 16 6 12 14,lw 17 6 16,oZ 7 (.alloc [(.int .i64 0),(.int .i64 0),(.int .i64 0),(.int .i64 0),(.int .i64 0),(.bool false)]),so 6 7 17]
 (sr [lw 18 6 7,ca1 19 52 18,mv 20 19,gtf 21 20 1 7,gtl 22 20 21,gtm 23 20 1,gZ 24 20 true (.bin .eql .num (tZ 22) (tZ 23)),pk0 25 20 24]
 (.cond (tZ 25) (rf [mv 26 5,aDk 27 26 1,mv 5 27])
 .skip))))
 (rf [aDk 28 14 1,mv 14 28])))))))
 (sr [mv 29 5,mv 4 29]
 .ret))))⟩
theorem cq124:cFn Tryz.prog Tryz.f124=some aq124:=by kernel_rfl
theorem gq124:GD 124 aq124:=gG Tryz.func124 cq124 (by kernel_rfl)
def aq59:AFn:=⟨26,[],(sr [bo 4 1]
 (.seq (sr [mv 6 0,nc 7 6,fa 8 6 7,lo 9 8,cNk 10 9 0]
 (.cond (tZ 10) .ret
 .skip))
 (.seq (.region true [oZ 11 (.call (.fn 75) []),fa 12 0 4,⟨(some 13),.load none (tZ 12),none,[0]⟩,oZ 14 (.lookup .int .nilFunc false (tZ 11) (tZ 13)),mv 15 0,⟨(some 16),.load (some 8) (tZ 4),none,[0]⟩,oZ 17 (.call (tZ 14) [tZ 15,tZ 16])])
 (.region true [mv 18 2,mv 19 2,nc 20 19,lo 21 20,lw 22 8 4,⟨(some 23),.mkSl 8 1 [(.int .i64 0),(.int .i64 0),(.int .i64 0),(.int .i64 0),(.bool false),(.int .i64 0),.nilSl,(.bool false)] [(0,tZ 22)],none,[3]⟩,oZ 24 (.append 8 80 [(.int .i64 0),(.int .i64 0),(.int .i64 0),(.int .i64 0),(.bool false),(.int .i64 0),.nilSl,(.bool false)] (tZ 21) (tZ 23)),nc 25 18,so 1 25 24]))))⟩
theorem cq59:cFn Tryz.prog Tryz.f59=some aq59:=by kernel_rfl
theorem gq59:GD 59 aq59:=gG Tryz.func59 cq59 (by kernel_rfl)
def aq123:AFn:=⟨14,[(6,none)],(sr [bo 4 1,bo 5 2,mk 6 0]
 (sr [mv 7 0,nc 8 7,fa 9 3 8,fa 10 1 9,lo 11 10,oZ 12 (.mkFunc (.func 142) [] [tZ 4,tZ 5]),ca2 13 138 11 12,mv 6 13]
 .ret))⟩
theorem cq123:cFn Tryz.prog Tryz.f123=some aq123:=by kernel_rfl
theorem gq123:GD 123 aq123:=gG Tryz.func123 cq123 (by kernel_rfl)
def aq142:AFn:=⟨19,[(4,none)],(sr [bo 3 0,mfZ 4]
 (sr [lw 5 6 3,ca1 6 52 5,mv 7 6,gtf 8 7 1 3,gtl 9 7 8,gtl 10 7 1,gZ 11 7 true (.bin .eql .num (tZ 9) (tZ 10)),pk0 12 7 11,mv 13 12,gtf 14 13 2 3,gtl 15 13 14,gtl 16 13 2,gZ 17 13 true (.bin .eql .num (tZ 15) (tZ 16)),pk0 18 13 17,mv 4 18]
 .ret))⟩
theorem cq142:cFn Tryz.prog Tryz.f142=some aq142:=by kernel_rfl
theorem gq142:GD 142 aq142:=gG Tryz.func142 cq142 (by kernel_rfl)
def aq104:AFn:=⟨211,[],(sr [bo 3 1]
 (sr [fa 18 1 3,lo 19 18,mv 4 19]
 (sr [mv 21 0,lw 22 8 3,ca2 23 129 21 22,mv 20 23,ex 24 20 0,ex 25 20 1,mv 5 24,mv 6 25]
 (.seq (sr [mv 26 0,nc 27 26,fa 28 6 27,lo 29 28,cNk 30 29 0]
 (.cond (tZ 30) .ret
 .skip))
 (.seq (.seq (.region true [fa 31 6 3,lo 32 31,le 33 32,mv 34 0,nc 35 34,fa 36 0 35,fa 37 1 36,lo 38 37,cG 39 33 38,mv 40 39,gfm 41 40 0,gZ 42 40 false (.nilChk (tZ 41)),gff 43 40 3 42,gZ 44 40 false (.load (some 2) (tZ 43)),gfm 45 40 4,gZ 46 40 false (.call (.fn 38) [tZ 44,tZ 45]),gZ 47 40 false (.lenSl (tZ 46)),gfm 48 40 0,gZ 49 40 false (.nilChk (tZ 48)),gff 50 40 0 49,gff 51 40 2 50,⟨(some 52),.load none (tZ 51),(some (40,false)),[15]⟩,gZ 53 40 false (.bin .geq .num (tZ 47) (tZ 52)),pk1 54 40 53])
 (.cond (tZ 54) (sr [mv 55 0,nc 56 55,fa 57 6 56,pZ (.store 1 (tZ 57) (kZ 5))]
 .ret)
 .skip))
 (sr [mv 58 0,nc 59 58,fa 60 3 59,lw 61 2 60,ca1 62 63 61,oZ 7 (.alloc [.nilSl]),so 1 7 62]
 (sr [lw 63 1 7,mv 64 4,ca2 65 66 63 64,mv 8 65]
 (.seq (sr [mv 66 6,le 67 66,mk 68 0]
 (.block 0 (.loop (sr [cL 69 68 67]
 (.seq (.cond (tZ 69) .skip
 (.exit 0))
 (.seq (.block 1 (sr [mv 70 68,ix 71 1 66 68,lo 72 71,mv 9 70,mv 10 72]
 (.seq (sr [lw 73 1 7,mv 74 8,mv 75 10,ca3 76 67 73 74 75,no 77 76,mv 78 77,gfm 79 78 10,gfm 80 78 5,gZ 81 78 false (.bin .eql .num (tZ 79) (tZ 80)),pk1 82 78 81,mv 83 82,gfm 84 83 6,gfm 85 83 9,gZ 86 83 false (.slSl 1 (tZ 84) none (some (tZ 85)) none),gfm 87 83 10,gZ 88 83 false (.call (.fn 81) [tZ 86,tZ 87]),pk1 89 83 88]
 (.cond (tZ 89) (sr [mv 90 0,nc 91 90,fa 92 6 91,pZ (.store 1 (tZ 92) (kZ 4))]
 .ret)
 .skip))
 (rf [lw 93 1 7,mv 94 8,mv 95 10,ca3 96 68 93 94 95,mv 8 96]))))
 (rf [aDk 97 68 1,mv 68 97])))))))
 (.seq (sr [lw 98 1 7,mv 99 8,mv 100 5,ca3 101 67 98 99 100,no 102 101]
 (.cond (tZ 102) (sr [mv 103 0,nc 104 103,fa 105 6 104,pZ (.store 1 (tZ 105) (kZ 4))]
 .ret)
 .skip))
 (sr [lw 106 1 7,mv 107 5,oZ 108 (.call (.fn 65) [tZ 106,tZ 107,bZ true]),mv 109 8,cE 110 108 109,mv 11 110]
 (sr [mv 111 6,le 112 111,oZ 113 (.makeSl 6 48 [(.int .i64 0),(.int .i64 0),(.int .i64 0),(.int .i64 0),(.int .i64 0),(.bool false)] (tZ 112) (tZ 112)),mv 12 113]
 (.seq (sr [mv 114 6,le 115 114,mk 116 0]
 (.block 2 (.loop (sr [cL 117 116 115]
 (.seq (.cond (tZ 117) .skip
 (.exit 2))
 (.seq (.block 3 (sr [mv 118 116,ix 119 1 114 116,lo 120 119,mv 13 118,mv 14 120]
 (rf [mv 121 12,mv 122 13,mv 123 0,nc 124 123,fa 125 3 124,fa 126 1 125,lo 127 126,mv 128 14,ix 129 6 127 128,lw 130 6 129,ix 131 6 121 122,so 6 131 130])))
 (rf [aDk 132 116 1,mv 116 132])))))))
 (.seq (sr [mv 133 6,le 134 133,aSk 135 134 1,mv 15 135]
 (.block 4 (.loop (.seq (sr [mv 136 15,cHk 137 136 0,mv 138 137,gtm 139 138 0,gZ 140 138 true (.nilChk (tZ 139)),gtf 141 138 6 140,gtl 142 138 141,gZ 143 138 true (.bin .eql .num (tZ 142) (kZ 0)),pk0 144 138 143]
 (.cond (tZ 144) .skip
 (.exit 4)))
 (.seq (.block 5 (.seq (.region true [mv 147 0,nc 148 147,fa 149 3 148,fa 150 1 149,lo 151 150,mv 152 12,mv 153 15,ix 154 6 152 153,lw 155 6 154,ca2 156 130 151 155,mv 16 156])
 (.seq (sr [mv 157 15,mv 158 6,le 159 158,aSk 160 159 1,cL 161 157 160]
 (.cond (tZ 161) (sr [mv 162 0,nc 163 162,fa 164 3 163,lw 165 2 164,ca1 166 63 165,so 1 7 166]
 (.region true [lw 167 1 7,lw 168 1 7,mv 169 5,⟨(some 170),.call (.fn 65) [tZ 168,tZ 169,bZ true],none,[0]⟩,mv 171 16,ca3 172 67 167 170 171,mv 11 172]))
 .skip))
 (sr [mv 173 0,nc 174 173,fa 175 3 174,lw 176 2 175,ca1 177 125 176,mv 17 177]
 (sr [mv 178 0,mv 179 5,mv 180 16,mv 181 11,fa 182 6 3,lo 183 182,mv 184 15,ix 185 5 183 184,fa 186 4 185,lo 187 186,oZ 188 (.build [(.int .i64 0),(.int .i64 0),(.int .i64 0),(.int .i64 0),(.bool false),(.bool false),(.int .i64 0)] [(0,1,kZ 7),(1,1,tZ 179),(2,1,tZ 180),(4,1,tZ 181),(5,1,tZ 187)]),ca2 189 122 178 188]
 (rf [mv 190 0,mv 191 17,aDk 192 191 1,fa 193 6 3,lo 194 193,mv 195 15,ix 196 5 194 195,fa 197 4 196,lo 198 197,ca3 199 127 190 192 198,mv 5 199]))))))
 (rf [mv 145 15,aSk 146 145 1,mv 15 146]))))))
 (sr [mv 200 0,mv 201 5,mv 202 4,oZ 203 (.build [(.int .i64 0),(.int .i64 0),(.int .i64 0),(.int .i64 0),(.bool false),(.bool false),(.int .i64 0)] [(0,1,kZ 2),(1,1,tZ 201),(2,1,tZ 202)]),ca2 204 122 200 203]
 (rf [mv 205 0,mv 206 0,mv 207 4,oZ 208 (.call (.fn 123) [tZ 206,tZ 207,kZ 1]),oZ 209 (.build [(.int .i64 0),(.int .i64 0),(.int .i64 0),(.int .i64 0),(.bool false),(.bool false),(.int .i64 0)] [(0,1,kZ 10),(1,1,tZ 208)]),ca2 210 122 205 209])))))))))))))))⟩
theorem cq104:cFn Tryz.prog Tryz.f104=some aq104:=by kernel_rfl
theorem gq104:GD 104 aq104:=gG Tryz.func104 cq104 (by kernel_rfl)
def aq102:AFn:=⟨54,[],(sr [bo 3 1]
 (sr [fa 5 1 3,lo 6 5,mv 4 6]
 (.seq (sr [mv 7 0,nc 8 7,fa 9 3 8,lw 10 2 9,mv 11 4,ca2 12 38 10 11,le 13 12,cEk 14 13 0]
 (.cond (tZ 14) (sr [mv 15 0,nc 16 15,fa 17 6 16,pZ (.store 1 (tZ 17) (kZ 8))]
 .ret)
 .skip))
 (sr [mv 18 0,mv 19 0,mv 20 4,aSk 21 20 1,mv 22 0,mv 23 4,aSk 24 23 1,ca2 25 124 22 24,ca3 26 123 19 21 25,oZ 27 (.build [(.int .i64 0),(.int .i64 0),(.int .i64 0),(.int .i64 0),(.bool false),(.bool false),(.int .i64 0)] [(0,1,kZ 9),(1,1,tZ 26)]),ca2 28 122 18 27]
 (sr [mv 29 0,nc 30 29,fa 31 3 30,lw 32 2 31,ca1 33 125 32,cEk 34 33 0,mv 35 34,gfm 36 35 0,gZ 37 35 false (.nilChk (tZ 36)),gff 38 35 3 37,gZ 39 35 false (.load (some 2) (tZ 38)),gZ 40 35 false (.call (.fn 120) [tZ 39]),gZ 41 35 false (.bin .gtr .num (tZ 40) (kZ 2)),pk1 42 35 41]
 (.cond (tZ 42) (rf [mv 43 0,mv 44 0,mv 45 0,mv 46 4,oZ 47 (.call (.fn 123) [tZ 45,tZ 46,kZ 1]),mv 48 0,mv 49 4,oZ 50 (.call (.fn 123) [tZ 48,tZ 49,kZ 2]),ca3 51 126 44 47 50,oZ 52 (.build [(.int .i64 0),(.int .i64 0),(.int .i64 0),(.int .i64 0),(.bool false),(.bool false),(.int .i64 0)] [(0,1,kZ 1),(1,1,tZ 51)]),ca2 53 122 43 52])
 .skip))))))⟩
theorem cq102:cFn Tryz.prog Tryz.f102=some aq102:=by kernel_rfl
theorem gq102:GD 102 aq102:=gG Tryz.func102 cq102 (by kernel_rfl)
def aq131:AFn:=⟨15,[],(rf [mv 6 0,mv 7 1,mv 8 2,oZ 9 (.minmax false [tZ 7,tZ 8]),mv 10 1,mv 11 2,oZ 12 (.minmax true [tZ 10,tZ 11]),oZ 13 (.build [(.int .i64 0),(.int .i64 0),(.int .i64 0),(.int .i64 0),(.bool false),(.bool false),(.int .i64 0)] [(0,1,kZ 3),(1,1,tZ 9),(2,1,tZ 12)]),ca2 14 122 6 13])⟩
theorem cq131:cFn Tryz.prog Tryz.f131=some aq131:=by kernel_rfl
theorem gq131:GD 131 aq131:=gG Tryz.func131 cq131 (by kernel_rfl)
def aq129:AFn:=⟨64,[(4,none),(5,none)],(sr [bo 3 1,mk 4 0,mnZ 5]
 (.seq (.region true [mv 14 0,nc 15 14,fa 16 0 15,lw 17 3 16,mv 18 0,nc 19 18,fa 20 3 19,lw 21 2 20,fa 22 2 3,lw 23 4 22,ca3 24 48 17 21 23,mv 13 24,ex 25 13 0,ex 26 13 1,mv 6 25,mv 7 26])
 (sr [mnZ 8]
 (.seq (sr [fa 27 6 3,lo 28 27,le 29 28,mk 30 0]
 (.block 0 (.loop (sr [cL 31 30 29]
 (.seq (.cond (tZ 31) .skip
 (.exit 0))
 (.seq (.block 1 (sr [ix 32 5 28 30,lw 33 5 32,oZ 10 (.alloc [(.int .i64 0),(.int .i64 0),(.bool false),(.int .i64 0),(.bool false)]),so 5 10 33]
 (.seq (.region true [mv 35 0,nc 36 35,fa 37 0 36,lw 38 3 37,mv 39 0,nc 40 39,fa 41 3 40,lw 42 2 41,fa 43 0 10,lw 44 4 43,ca3 45 48 38 42 44,mv 34 45,ex 46 34 0,ex 47 34 1,mv 11 46,mv 12 47])
 (sr [mv 48 7,mv 49 48,gtm 50 49 12,pk0 51 49 50,mv 7 51]
 (rf [mv 52 8,mv 53 11,oZ 54 (.mkSl 1 1 [(.int .i64 0)] [(0,tZ 53)]),oZ 55 (.append 1 8 [(.int .i64 0)] (tZ 52) (tZ 54)),mv 8 55])))))
 (rf [aDk 56 30 1,mv 30 56])))))))
 (.seq (sr [mv 57 7,no 58 57]
 (.cond (tZ 58) (rf [mv 59 0,nc 60 59,fa 61 6 60,pZ (.store 1 (tZ 61) (kZ 8))])
 .skip))
 (sr [mv 62 6,mv 63 8,mv 4 62,mv 5 63]
 .ret))))))⟩
theorem cq129:cFn Tryz.prog Tryz.f129=some aq129:=by kernel_rfl
theorem gq129:GD 129 aq129:=gG Tryz.func129 cq129 (by kernel_rfl)
def aq105:AFn:=⟨110,[],(sr [bo 3 1]
 (sr [fa 12 1 3,lo 13 12,mv 4 13]
 (.seq (sr [mv 14 0,nc 15 14,fa 16 3 15,lw 17 2 16,mv 18 4,ca2 19 38 17 18,le 20 19,cEk 21 20 0]
 (.cond (tZ 21) (sr [mv 22 0,nc 23 22,fa 24 6 23,pZ (.store 1 (tZ 24) (kZ 8))]
 .ret)
 .skip))
 (sr [mv 25 0,nc 26 25,fa 27 3 26,lw 28 2 27,ca1 29 125 28,mv 5 29]
 (sr [mv 30 0,mv 31 0,mv 32 4,aSk 33 32 1,mv 34 0,mv 35 4,aSk 36 35 1,ca2 37 124 34 36,ca3 38 123 31 33 37,oZ 39 (.build [(.int .i64 0),(.int .i64 0),(.int .i64 0),(.int .i64 0),(.bool false),(.bool false),(.int .i64 0)] [(0,1,kZ 9),(1,1,tZ 38)]),ca2 40 122 30 39]
 (.seq (sr [mv 41 0,nc 42 41,fa 43 6 42,lo 44 43,cNk 45 44 0]
 (.cond (tZ 45) .ret
 .skip))
 (sr [mv 46 0,mv 47 4,oZ 48 (.call (.fn 123) [tZ 46,tZ 47,kZ 1]),mv 49 0,mv 50 4,oZ 51 (.call (.fn 123) [tZ 49,tZ 50,kZ 2]),mv 6 48,mv 7 51]
 (sr [mv 52 0,nc 53 52,fa 54 3 53,lw 55 2 54,mv 56 6,ca2 57 76 55 56,mv 8 57]
 (sr [mv 58 7,fa 59 7 3,lo 60 59,mv 61 8,oZ 62 (.bin .eql .bool (tZ 60) (tZ 61)),oZ 63 (.build [(.int .i64 0),(.int .i64 0),(.int .i64 0),(.int .i64 0),(.bool false),(.bool false),(.int .i64 0)] [(0,1,kZ 5),(1,1,tZ 58),(5,1,tZ 62),(6,1,(kZ (-1)))]),oZ 9 (.alloc [(.int .i64 0),(.int .i64 0),(.int .i64 0),(.int .i64 0),(.bool false),(.bool false),(.int .i64 0)]),so 7 9 63]
 (.seq (sr [mv 64 8]
 (.cond (tZ 64) (rf [mv 65 6,fa 66 1 9,so 1 66 65])
 .skip))
 (.seq (sr [fa 67 5 9,lo 68 67,mv 69 8,oZ 70 (.bin .eql .bool (tZ 68) (tZ 69))]
 (.cond (tZ 70) (rf [fa 71 6 9,pZ (.store 1 (tZ 71) (kZ 1))])
 .skip))
 (sr [mv 72 0,lw 73 7 9,ca2 74 122 72 73]
 (.seq (sr [mv 75 0,nc 76 75,fa 77 6 76,lo 78 77,cNk 79 78 0]
 (.cond (tZ 79) .ret
 .skip))
 (sr [mv 80 0,mv 81 5,aDk 82 81 1,fa 83 5 9,lo 84 83,ca3 85 127 80 82 84,mv 10 85]
 (sr [mv 86 0,nc 87 86,fa 88 3 87,fa 89 1 88,lo 90 89,le 91 90,mv 11 91]
 (.seq (.region true [mv 92 0,mv 93 10,mv 94 11,aD 95 93 94,aSk 96 95 1,mv 97 11,aR 98 96 97,mv 99 10,aDk 100 99 1,mv 101 11,aR 102 100 101,ca3 103 131 92 98 102])
 (rf [mv 104 0,mv 105 0,mv 106 4,oZ 107 (.call (.fn 123) [tZ 105,tZ 106,kZ 1]),oZ 108 (.build [(.int .i64 0),(.int .i64 0),(.int .i64 0),(.int .i64 0),(.bool false),(.bool false),(.int .i64 0)] [(0,1,kZ 10),(1,1,tZ 107)]),ca2 109 122 104 108])))))))))))))))))⟩
theorem cq105:cFn Tryz.prog Tryz.f105=some aq105:=by kernel_rfl
theorem gq105:GD 105 aq105:=gG Tryz.func105 cq105 (by kernel_rfl)
def aq127:AFn:=⟨14,[(6,none)],(sr [bo 4 1,bo 5 2,mk 6 0]
 (sr [mv 7 0,nc 8 7,fa 9 3 8,fa 10 1 9,lo 11 10,oZ 12 (.mkFunc (.func 143) [] [tZ 4,tZ 5]),ca2 13 138 11 12,mv 6 13]
 .ret))⟩
theorem cq127:cFn Tryz.prog Tryz.f127=some aq127:=by kernel_rfl
theorem gq127:GD 127 aq127:=gG Tryz.func127 cq127 (by kernel_rfl)
def aq143:AFn:=⟨20,[(4,none)],(sr [bo 3 0,mfZ 4]
 (sr [fa 5 0 3,lo 6 5,cEk 7 6 2,mv 8 7,gtf 9 8 3 3,gtl 10 8 9,gtl 11 8 1,gZ 12 8 true (.bin .eql .num (tZ 10) (tZ 11)),pk0 13 8 12,mv 14 13,gtf 15 14 5 3,gtl 16 14 15,gtl 17 14 2,gZ 18 14 true (.bin .eql .bool (tZ 16) (tZ 17)),pk0 19 14 18,mv 4 19]
 .ret))⟩
theorem cq143:cFn Tryz.prog Tryz.f143=some aq143:=by kernel_rfl
theorem gq143:GD 143 aq143:=gG Tryz.func143 cq143 (by kernel_rfl)
def aq147:AFn:=⟨190,[(4,none)],(sr [bo 3 1,mfZ 4]
 (sr [mv 11 0,nc 12 11,fa 13 1 12,lo 14 13,le 15 14,oZ 5 (.alloc [(.int .i64 0)]),so 1 5 15]
 (sr [oZ 16 (.mkFunc (.func 151) [] [tZ 5]),mv 6 16]
 (sr [mk 7 1,mfZ 8,mfZ 9,mfZ 10]
 (.seq (sr [fa 17 0 3,lo 18 17]
 (.block 0 (sr [cEk 20 18 2,mv 19 20]
 (.cond (tZ 19) (rf [mtZ 8])
 (.seq (sr [cEk 22 18 3,mv 21 22]
 (.cond (tZ 21) .skip
 (rf [cEk 23 18 6,mv 21 23])))
 (.cond (tZ 21) (rf [mk 7 2])
 (sr [cEk 25 18 5,mv 24 25]
 (.cond (tZ 24) (rf [mtZ 10])
 (sr [cEk 27 18 7,mv 26 27]
 (.cond (tZ 26) (rf [mk 7 2,mtZ 9])
 (sr [cEk 29 18 8,mv 28 29]
 (.cond (tZ 28) (rf [mk 7 3])
 (.seq (sr [cEk 31 18 1,mv 30 31]
 (.cond (tZ 30) .skip
 (sr [cEk 32 18 4,mv 30 32]
 (.cond (tZ 30) .skip
 (sr [cEk 33 18 9,mv 30 33]
 (.cond (tZ 30) .skip
 (rf [cEk 34 18 10,mv 30 34])))))))
 (.cond (tZ 30) .skip
 (sr [mfZ 4]
 .ret)))))))))))))))
 (.seq (sr [mv 35 9,no 36 35,mv 37 36,gtf 38 37 4 3,gtl 39 37 38,pk0 40 37 39,mv 41 40,gfm 42 41 9,gZ 43 41 false (.un .not (tZ 42)),gfm 44 41 43,gtm 45 44 10,gZ 46 44 true (.un .not (tZ 45)),gZ 47 41 false (.pick (tZ 44) (tZ 46) (bZ false)),gfm 48 41 47,gtf 49 48 5 3,gtl 50 48 49,gZ 51 41 false (.pick (tZ 48) (tZ 50) (bZ false)),pk1 52 41 51,mv 53 52,gfm 54 53 10,gff 55 53 6 3,gfl 56 53 55,gZ 57 53 false (.bin .neq .num (tZ 56) (kZ 0)),gZ 58 53 false (.bin .neq .bool (tZ 54) (tZ 57)),pk1 59 53 58,mv 60 59,gfm 61 60 10,gfm 62 60 61,gtf 63 62 6 3,gtl 64 62 63,gZ 65 62 true (.bin .neq .num (tZ 64) (kZ 1)),gZ 66 60 false (.pick (tZ 62) (tZ 65) (bZ false)),gfm 67 60 66,gtf 68 67 6 3,gtl 69 67 68,gZ 70 67 true (.bin .neq .num (tZ 69) (kZ (-1))),gZ 71 60 false (.pick (tZ 67) (tZ 70) (bZ false)),pk1 72 60 71]
 (.cond (tZ 72) (sr [mfZ 4]
 .ret)
 .skip))
 (.seq (sr [mv 73 8]
 (.cond (tZ 73) (.seq (.region true [mv 74 6,fa 75 1 3,lo 76 75,oZ 77 (.call (tZ 74) [tZ 76]),mv 78 77,gfl 79 78 5,gZ 80 78 false (.bin .eql .num (tZ 79) (kZ 0)),gfm 81 78 80,gtf 82 81 1 3,gtl 83 81 82,gZ 84 81 true (.bin .eql .num (tZ 83) (kZ 0)),gZ 85 78 false (.pick (tZ 81) (tZ 84) (bZ false)),pk1 86 78 85,mv 87 86,gtf 88 87 2 3,gtl 89 87 88,gZ 90 87 true (.bin .geq .num (tZ 89) (kZ 0)),pk0 91 87 90,mv 92 91,gtf 93 92 2 3,gtl 94 92 93,gtm 95 92 0,gZ 96 92 true (.nilChk (tZ 95)),gtf 97 92 0 96,gtl 98 92 97,gZ 99 92 true (.bin .leq .num (tZ 94) (tZ 98)),pk0 100 92 99,mv 101 100,gtf 102 101 3 3,gtl 103 101 102,gZ 104 101 true (.bin .geq .num (tZ 103) (kZ 0)),pk0 105 101 104,mv 106 105,gtf 107 106 3 3,gtl 108 106 107,gtm 109 106 0,gZ 110 106 true (.nilChk (tZ 109)),gtf 111 106 6 110,gtl 112 106 111,gtf 113 106 2 3,gtl 114 106 113,gZ 115 106 true (.idxA 1 (tZ 112) (tZ 114)),gtl 116 106 115,gZ 117 106 true (.bin .leq .num (tZ 108) (tZ 116)),pk0 118 106 117,mv 4 118])
 .ret)
 .skip))
 (.seq (sr [mv 119 6,fa 120 1 3,lo 121 120,oZ 122 (.call (tZ 119) [tZ 121]),no 123 122,mv 124 123,gfm 125 124 7,gZ 126 124 false (.bin .lss .num (tZ 125) (kZ 2)),gfm 127 124 126,gtf 128 127 2 3,gtl 129 127 128,gZ 130 127 true (.bin .neq .num (tZ 129) (kZ 0)),gZ 131 124 false (.pick (tZ 127) (tZ 130) (bZ false)),pk1 132 124 131,mv 133 132,gfm 134 133 7,gZ 135 133 false (.bin .lss .num (tZ 134) (kZ 3)),gfm 136 133 135,gtf 137 136 3 3,gtl 138 136 137,gZ 139 136 true (.bin .neq .num (tZ 138) (kZ 0)),gZ 140 133 false (.pick (tZ 136) (tZ 139) (bZ false)),pk1 141 133 140,mv 142 141,gfm 143 142 7,gZ 144 142 false (.bin .geq .num (tZ 143) (kZ 2)),gfm 145 142 144,gtm 146 145 6,gtf 147 145 2 3,gtl 148 145 147,gZ 149 145 true (.call (tZ 146) [tZ 148]),gZ 150 145 true (.un .not (tZ 149)),gZ 151 142 false (.pick (tZ 145) (tZ 150) (bZ false)),pk1 152 142 151,mv 153 152,gfm 154 153 7,gZ 155 153 false (.bin .eql .num (tZ 154) (kZ 3)),gfm 156 153 155,gtm 157 156 6,gtf 158 156 3 3,gtl 159 156 158,gZ 160 156 true (.call (tZ 157) [tZ 159]),gZ 161 156 true (.un .not (tZ 160)),gZ 162 153 false (.pick (tZ 156) (tZ 161) (bZ false)),pk1 163 153 162]
 (.cond (tZ 163) (sr [mfZ 4]
 .ret)
 .skip))
 (.seq (sr [mv 164 9]
 (.cond (tZ 164) (sr [fa 165 1 3,lo 166 165,fa 167 2 3,lo 168 167,cN 169 166 168,mv 4 169]
 .ret)
 .skip))
 (sr [mv 170 7,cLk 171 170 2,mv 172 171,gff 173 172 1 3,gfl 174 172 173,gff 175 172 2 3,gfl 176 172 175,gZ 177 172 false (.bin .lss .num (tZ 174) (tZ 176)),gfm 178 172 177,gtm 179 178 7,gZ 180 178 true (.bin .lss .num (tZ 179) (kZ 3)),gtm 181 178 180,gff 182 181 2 3,gfl 183 181 182,gff 184 181 3 3,gfl 185 181 184,gZ 186 181 false (.bin .lss .num (tZ 183) (tZ 185)),gZ 187 178 true (.pick (tZ 181) (bZ true) (tZ 186)),gZ 188 172 false (.pick (tZ 178) (tZ 187) (bZ false)),pk1 189 172 188,mv 4 189]
 .ret))))))))))⟩
theorem cq147:cFn Tryz.prog Tryz.f147=some aq147:=by kernel_rfl
theorem gq147:GD 147 aq147:=gG Tryz.func147 cq147 (by kernel_rfl)
def aq151:AFn:=⟨11,[(3,none)],(sr [mfZ 3]
 (sr [mv 4 0,cHk 5 4 0,mv 6 5,gtm 7 6 0,gtl 8 6 1,gZ 9 6 true (.bin .lss .num (tZ 7) (tZ 8)),pk0 10 6 9,mv 3 10]
 .ret))⟩
theorem cq151:cFn Tryz.prog Tryz.f151=some aq151:=by kernel_rfl
theorem gq151:GD 151 aq151:=gG Tryz.func151 cq151 (by kernel_rfl)
def aq152:AFn:=⟨102,[(4,none),(5,none)],(sr [bo 3 1,mnZ 4,mfZ 5]
 (sr [mv 12 0,fa 13 1 3,lo 14 13,ca2 15 163 12 14,mv 11 15,ex 16 11 0,ex 17 11 1,oZ 6 (.alloc [(.int .i64 0)]),oZ 7 (.alloc [(.int .i64 0)]),so 1 6 16,so 1 7 17]
 (.seq (.region true [mv 18 0,nc 19 18,fa 20 1 19,lo 21 20,lo 22 6,ix 23 7 21 22,lw 24 7 23,mv 25 0,nc 26 25,fa 27 1 26,lo 28 27,lo 29 7,ix 30 7 28 29,lw 31 7 30,⟨(some 8),.alloc [(.int .i64 0),(.int .i64 0),(.int .i64 0),(.int .i64 0),(.int .i64 0),(.bool false),(.bool false)],none,[3,4,5,6,10,11,12,13]⟩,⟨(some 9),.alloc [(.int .i64 0),(.int .i64 0),(.int .i64 0),(.int .i64 0),(.int .i64 0),(.bool false),(.bool false)],none,[3,4,5,6,10,11,12,13,14]⟩,⟨none,.store 7 (tZ 8) (tZ 24),none,[10,11,12,13]⟩,so 7 9 31])
 (.seq (sr [fa 32 0 8,fa 33 0 32,lo 34 33,cNk 35 34 1,mv 36 35,gff 37 36 0 9,gff 38 36 0 37,gfl 39 36 38,gZ 40 36 false (.bin .neq .num (tZ 39) (kZ 1)),pk1 41 36 40,mv 42 41,gff 43 42 0 8,gff 44 42 1 43,gfl 45 42 44,gff 46 42 0 9,gff 47 42 1 46,gfl 48 42 47,gZ 49 42 false (.bin .neq .num (tZ 45) (tZ 48)),pk1 50 42 49,mv 51 50,gff 52 51 0 8,gff 53 51 2 52,gfl 54 51 53,gff 55 51 0 9,gff 56 51 2 55,gfl 57 51 56,gZ 58 51 false (.minmax true [tZ 54,tZ 57]),gff 59 51 0 8,gff 60 51 2 59,gfl 61 51 60,gff 62 51 0 9,gff 63 51 2 62,gfl 64 51 63,gZ 65 51 false (.minmax false [tZ 61,tZ 64]),gZ 66 51 false (.bin .sub .num (tZ 58) (tZ 65)),gZ 67 51 false (.bin .neq .num (tZ 66) (kZ 1)),pk1 68 51 67,mv 69 68,gfm 70 69 0,gZ 71 69 false (.nilChk (tZ 70)),gff 72 69 4 71,gfl 73 69 72,gZ 74 69 false (.bin .leq .num (tZ 73) (kZ 2)),gfm 75 69 74,gtm 76 75 0,gZ 77 75 true (.nilChk (tZ 76)),gtf 78 75 5 77,gtl 79 75 78,gZ 80 75 true (.bin .gtr .num (tZ 79) (kZ 0)),gZ 81 69 false (.pick (tZ 75) (tZ 80) (bZ false)),pk1 82 69 81]
 (.cond (tZ 82) (sr [mnZ 4,mfZ 5]
 .ret)
 .skip))
 (sr [mv 83 0,nc 84 83,fa 85 1 84,lo 86 85,oZ 87 (.mkFunc (.func 165) [] [tZ 6,tZ 7]),ca2 88 164 86 87,mv 10 88]
 (sr [mv 89 10,fa 90 0 8,fa 91 1 90,lo 92 91,fa 93 0 8,fa 94 2 93,lo 95 94,fa 96 0 9,fa 97 2 96,lo 98 97,oZ 99 (.minmax true [tZ 95,tZ 98]),oZ 100 (.call (.fn 166) [tZ 89,tZ 92,tZ 99,(kZ (-2))])]
 (sr [mv 101 10,mv 4 101,mtZ 5]
 .ret)))))))⟩
theorem cq152:cFn Tryz.prog Tryz.f152=some aq152:=by kernel_rfl
theorem gq152:GD 152 aq152:=gG Tryz.func152 cq152 (by kernel_rfl)
def aq165:AFn:=⟨15,[(6,none)],(sr [bo 5 1,mfZ 6]
 (sr [mv 7 0,lo 8 2,cE 9 7 8,mv 10 9,gfm 11 10 0,gfl 12 10 3,gZ 13 10 false (.bin .eql .num (tZ 11) (tZ 12)),pk1 14 10 13,mv 6 14]
 .ret))⟩
theorem cq165:cFn Tryz.prog Tryz.f165=some aq165:=by kernel_rfl
theorem gq165:GD 165 aq165:=gG Tryz.func165 cq165 (by kernel_rfl)
def aq153:AFn:=⟨106,[(4,none),(5,none)],(sr [bo 3 1,mnZ 4,mfZ 5]
 (sr [fa 12 2 3,lo 13 12,fa 14 3 3,lo 15 14,oZ 16 (.build [(.int .i64 0),(.int .i64 0)] [(0,1,tZ 13),(1,1,tZ 15)]),oZ 6 (.alloc [(.int .i64 0),(.int .i64 0)]),so 2 6 16]
 (sr [fa 17 2 3,lo 18 17,fa 19 3 3,lo 20 19,aDk 21 20 1,oZ 22 (.build [(.int .i64 0),(.int .i64 0),(.int .i64 0),(.int .i64 0),(.int .i64 0),(.bool false)] [(0,1,kZ 1),(1,1,tZ 18),(2,1,tZ 21)]),oZ 23 (.build [(.int .i64 0),(.int .i64 0),(.int .i64 0),(.int .i64 0),(.int .i64 0),(.bool false),(.bool false)] [(0,6,tZ 22),(6,1,bZ true)]),oZ 7 (.alloc [(.int .i64 0),(.int .i64 0),(.int .i64 0),(.int .i64 0),(.int .i64 0),(.bool false),(.bool false)]),so 7 7 23]
 (sr [fa 24 2 3,lo 25 24,fa 26 3 3,lo 27 26,aDk 28 27 2,oZ 29 (.build [(.int .i64 0),(.int .i64 0),(.int .i64 0),(.int .i64 0),(.int .i64 0),(.bool false)] [(0,1,kZ 1),(1,1,tZ 25),(2,1,tZ 28)]),oZ 30 (.build [(.int .i64 0),(.int .i64 0),(.int .i64 0),(.int .i64 0),(.int .i64 0),(.bool false),(.bool false)] [(0,6,tZ 29),(6,1,bZ false)]),oZ 8 (.alloc [(.int .i64 0),(.int .i64 0),(.int .i64 0),(.int .i64 0),(.int .i64 0),(.bool false),(.bool false)]),so 7 8 30]
 (.seq (sr [mv 31 0,nc 32 31,fa 33 1 32,lo 34 33,le 35 34,cEk 36 35 0]
 (.cond (tZ 36) (sr [lw 37 7 7,lw 38 7 8,oZ 39 (.mkSl 7 2 [(.int .i64 0),(.int .i64 0),(.int .i64 0),(.int .i64 0),(.int .i64 0),(.bool false),(.bool false)] [(0,tZ 37),(1,tZ 38)]),mv 4 39,mtZ 5]
 .ret)
 .skip))
 (.seq (sr [mk 40 0]
 (.block 0 (.loop (sr [cLk 41 40 2]
 (.seq (.cond (tZ 41) .skip
 (.exit 0))
 (.seq (.block 1 (sr [mv 42 40,mv 9 42]
 (.seq (.region true [mv 43 0,nc 44 43,fa 45 2 44,lo 46 45,mv 47 0,nc 48 47,fa 49 3 48,lo 50 49,fa 51 1 3,lo 52 51,oZ 53 (.bin .mul .num (kZ 2) (tZ 52)),mv 54 9,aD 55 53 54,ix 56 1 50 55,lo 57 56,ix 58 5 46 57,lw 59 5 58,⟨(some 10),.alloc [(.bool false),.nilSl,.nilSl,.nilSl,(.bool false)],none,[3,7,9,13,14,15,16]⟩,so 5 10 59])
 (.seq (sr [fa 60 2 10,lo 61 60,lw 62 2 6,ca2 63 167 61 62,no 64 63]
 (.cond (tZ 64) (.exit 1)
 .skip))
 (.seq (sr [fa 65 0 10,lo 66 65,mv 67 9,cEk 68 67 1,oZ 69 (.bin .neq .bool (tZ 66) (tZ 68))]
 (.cond (tZ 69) (rf [fa 70 0 8,fa 71 2 70,lo 72 71,fa 73 0 7,fa 74 2 73,lo 75 74,fa 76 0 7,fa 77 2 76,so 1 77 72,fa 78 0 8,fa 79 2 78,so 1 79 75])
 .skip))
 (.seq (.region true [fa 80 0 10,lo 81 80,fa 82 0 10,lo 83 82,no 84 83,fa 85 6 7,⟨none,.store 1 (tZ 85) (tZ 81),none,[3]⟩,fa 86 6 8,so 1 86 84])
 (sr [mv 87 0,nc 88 87,fa 89 1 88,lo 90 89,ca1 91 168 90,mv 11 91]
 (sr [mv 92 11,fa 93 2 3,lo 94 93,fa 95 3 3,lo 96 95,oZ 97 (.call (.fn 166) [tZ 92,tZ 94,tZ 96,kZ 2])]
 (sr [mv 98 11,fa 99 1 3,lo 100 99,lw 101 7 7,lw 102 7 8,oZ 103 (.mkSl 7 2 [(.int .i64 0),(.int .i64 0),(.int .i64 0),(.int .i64 0),(.int .i64 0),(.bool false),(.bool false)] [(0,tZ 101),(1,tZ 102)]),ca3 104 169 98 100 103,mv 4 104,mtZ 5]
 .ret)))))))))
 (rf [aDk 105 40 1,mv 40 105])))))))
 (sr [mnZ 4,mfZ 5]
 .ret)))))))⟩
theorem cq153:cFn Tryz.prog Tryz.f153=some aq153:=by kernel_rfl
theorem gq153:GD 153 aq153:=gG Tryz.func153 cq153 (by kernel_rfl)
def aq154:AFn:=⟨144,[(4,none),(5,none)],(sr [bo 3 1,mnZ 4,mfZ 5]
 (sr [mv 20 0,fa 21 1 3,lo 22 21,ca2 23 170 20 22,mv 19 23,ex 24 19 0,ex 25 19 1,ex 26 19 2,mv 6 24,mv 7 25,mv 8 26]
 (sr [mv 28 0,fa 29 2 3,lo 30 29,ca2 31 170 28 30,mv 27 31,ex 32 27 0,ex 33 27 1,ex 34 27 2,mv 9 32,mv 10 33,mv 11 34]
 (.seq (.seq (.region true [mv 35 8,no 36 35,mv 37 36,gfm 38 37 11,gZ 39 37 false (.un .not (tZ 38)),pk1 40 37 39,mv 41 40,gfm 42 41 7,gfm 43 41 10,gZ 44 41 false (.bin .eql .num (tZ 42) (tZ 43)),pk1 45 41 44,mv 46 45,gfm 47 46 0,gZ 48 46 false (.nilChk (tZ 47)),gff 49 46 1 48,gfl 50 46 49,gfm 51 46 7,gZ 52 46 false (.idxA 7 (tZ 50) (tZ 51)),gff 53 46 0 52,gff 54 46 3 53,gfl 55 46 54,gfm 56 46 0,gZ 57 46 false (.nilChk (tZ 56)),gff 58 46 1 57,gfl 59 46 58,gfm 60 46 10,gZ 61 46 false (.idxA 7 (tZ 59) (tZ 60)),gff 62 46 0 61,gff 63 46 3 62,gfl 64 46 63,gZ 65 46 false (.bin .neq .num (tZ 55) (tZ 64)),pk1 66 46 65,mv 67 66,gfm 68 67 0,gff 69 67 1 3,gfl 70 67 69,gff 71 67 2 3,gfl 72 67 71,gZ 73 67 false (.mkSl 1 2 [(.int .i64 0)] [(0,tZ 70),(1,tZ 72)]),gZ 74 67 false (.call (.fn 171) [tZ 68,kZ 1,tZ 73]),gZ 75 67 false (.un .not (tZ 74)),pk1 76 67 75])
 (.cond (tZ 76) (sr [mnZ 4,mfZ 5]
 .ret)
 .skip))
 (.seq (.region true [mv 77 0,nc 78 77,fa 79 1 78,lo 80 79,mv 81 6,ix 82 7 80 81,fa 83 0 82,fa 84 2 83,lo 85 84,mv 86 0,nc 87 86,fa 88 1 87,lo 89 88,mv 90 9,ix 91 7 89 90,fa 92 0 91,fa 93 2 92,lo 94 93,mv 12 85,mv 13 94])
 (sr [mv 95 0,nc 96 95,fa 97 1 96,lo 98 97,ca1 99 168 98,mv 14 99]
 (sr [mv 100 14,mv 101 6,mv 102 14,mv 103 9,mv 104 13,mv 105 12,ix 106 7 100 101,fa 107 0 106,fa 108 2 107,so 1 108 104,ix 109 7 102 103,fa 110 0 109,fa 111 2 110,so 1 111 105]
 (.seq (sr [fa 112 1 3,lo 113 112,fa 114 2 3,lo 115 114,oZ 116 (.mkSl 1 2 [(.int .i64 0)] [(0,tZ 113),(1,tZ 115)]),le 117 116,mk 118 0]
 (.block 0 (.loop (sr [cL 119 118 117]
 (.seq (.cond (tZ 119) .skip
 (.exit 0))
 (.seq (.block 1 (sr [ix 120 1 116 118,lo 121 120,mv 16 121]
 (sr [mv 123 0,mv 124 16,ca2 125 163 123 124,mv 122 125,ex 126 122 0,ex 127 122 1,mv 17 126,mv 18 127]
 (.region true [mv 128 14,mv 129 17,mv 130 14,mv 131 18,mv 132 14,mv 133 18,ix 134 7 132 133,lw 135 7 134,mv 136 14,mv 137 17,ix 138 7 136 137,lw 139 7 138,ix 140 7 128 129,so 7 140 135,ix 141 7 130 131,so 7 141 139]))))
 (rf [aDk 142 118 1,mv 118 142])))))))
 (sr [mv 143 14,mv 4 143,mtZ 5]
 .ret)))))))))⟩
theorem cq154:cFn Tryz.prog Tryz.f154=some aq154:=by kernel_rfl
theorem gq154:GD 154 aq154:=gG Tryz.func154 cq154 (by kernel_rfl)
def aq171:AFn:=⟨31,[(6,none)],(sr [bo 3 0,bo 4 1,bo 5 2,mfZ 6]
 (.seq (.region true [lo 7 3,nc 8 7,fa 9 3 8,lo 10 9,lo 11 5,oZ 12 (.idxA 1 (tZ 11) (kZ 0)),lo 13 12,oZ 14 (.bin .mul .num (kZ 2) (tZ 13)),ix 15 1 10 14,lo 16 15,lo 17 3,nc 18 17,fa 19 3 18,lo 20 19,lo 21 5,oZ 22 (.idxA 1 (tZ 21) (kZ 0)),lo 23 22,oZ 24 (.bin .mul .num (kZ 2) (tZ 23)),aDk 25 24 1,ix 26 1 20 25,lo 27 26,oZ 28 (.mkSl 1 2 [(.int .i64 0)] [(0,tZ 16),(1,tZ 27)]),oZ 29 (.mkFunc (.func 181) [] [tZ 3,tZ 5,tZ 4]),ca2 30 180 28 29,mv 6 30])
 .ret))⟩
theorem cq171:cFn Tryz.prog Tryz.f171=some aq171:=by kernel_rfl
theorem gq171:GD 171 aq171:=gG Tryz.func171 cq171 (by kernel_rfl)
def aq181:AFn:=⟨55,[(5,none)],(sr [mfZ 5]
 (sr [lo 12 1,nc 13 12,fa 14 2 13,lo 15 14,mv 16 0,ix 17 5 15 16,lw 18 5 17,oZ 6 (.alloc [(.bool false),.nilSl,.nilSl,.nilSl,(.bool false)]),so 5 6 18]
 (.seq (sr [fa 19 1 6,lo 20 19,le 21 20,lo 22 2,le 23 22,cN 24 21 23,mv 25 24,gff 26 25 2 6,gfl 27 25 26,gZ 28 25 false (.lenSl (tZ 27)),gfl 29 25 3,gZ 30 25 false (.bin .neq .num (tZ 28) (tZ 29)),pk1 31 25 30]
 (.cond (tZ 31) (sr [mfZ 5]
 .ret)
 .skip))
 (.seq (sr [lo 32 2,le 33 32,mk 34 0]
 (.block 0 (.loop (sr [cL 35 34 33]
 (.seq (.cond (tZ 35) .skip
 (.exit 0))
 (.seq (.block 1 (sr [ix 36 1 32 34,lo 37 36,mv 8 37]
 (sr [mk 9 0]
 (.seq (sr [fa 38 1 6,lo 39 38,le 40 39,mk 41 0]
 (.block 2 (.loop (sr [cL 42 41 40]
 (.seq (.cond (tZ 42) .skip
 (.exit 2))
 (.seq (.block 3 (sr [ix 43 1 39 41,lo 44 43,mv 11 44]
 (sr [mv 45 11,aQk 46 45 2,mv 47 8,cE 48 46 47]
 (.cond (tZ 48) (rf [mv 49 9,aDk 50 49 1,mv 9 50])
 .skip))))
 (rf [aDk 51 41 1,mv 41 51])))))))
 (sr [mv 52 9,cNk 53 52 1]
 (.cond (tZ 53) (sr [mfZ 5]
 .ret)
 .skip))))))
 (rf [aDk 54 34 1,mv 34 54])))))))
 (sr [mtZ 5]
 .ret)))))⟩
theorem cq181:cFn Tryz.prog Tryz.f181=some aq181:=by kernel_rfl
theorem gq181:GD 181 aq181:=gG Tryz.func181 cq181 (by kernel_rfl)
def aq146:AFn:=⟨55,[(4,(some (some 2))),(5,none)],(sr [bo 3 1,oZ 4 (.alloc [(.int .i64 0),.nilSl]),mk 5 0]
 (.seq (sr [mv 10 0,lw 11 7 3,ca2 12 147 10 11,no 13 12]
 (.cond (tZ 13) (sr [oZ 14 (.build [(.int .i64 0),.nilSl] []),so 2 4 14,mk 5 2]
 .ret)
 .skip))
 (.seq (.region true [oZ 16 (.call (.fn 148) []),fa 17 0 3,⟨(some 18),.load none (tZ 17),none,[0]⟩,oZ 19 (.idxArr 11 1 none (tZ 16) (tZ 18)),mv 20 0,⟨(some 21),.load (some 7) (tZ 3),none,[0]⟩,oZ 22 (.call (tZ 19) [tZ 20,tZ 21]),mv 15 22,ex 23 15 0,ex 24 15 1,mv 6 23,mv 7 24])
 (.seq (sr [mv 25 7,no 26 25]
 (.cond (tZ 26) (sr [oZ 27 (.build [(.int .i64 0),.nilSl] []),so 2 4 27,mk 5 4]
 .ret)
 .skip))
 (.seq (sr [fa 29 0 3,lo 30 29,ca1 31 149 30,mv 28 31,ex 32 28 0,ex 33 28 1,mv 8 32,mv 9 33]
 (sr [mv 34 0,nc 35 34,fa 36 1 35,lo 37 36,le 38 37,mv 39 8,aD 40 38 39,cGk 41 40 400,mv 42 41,gfm 43 42 0,gZ 44 42 false (.nilChk (tZ 43)),gff 45 42 5 44,gfl 46 42 45,gfm 47 42 9,gZ 48 42 false (.bin .add .num (tZ 46) (tZ 47)),gZ 49 42 false (.bin .gtr .num (tZ 48) (kZ 100)),pk1 50 42 49]
 (.cond (tZ 50) (sr [oZ 51 (.build [(.int .i64 0),.nilSl] []),so 2 4 51,mk 5 7]
 .ret)
 .skip)))
 (sr [mv 52 0,mv 53 6,ca2 54 150 52 53,so 2 4 54,mk 5 0]
 .ret))))))⟩
theorem cq146:cFn Tryz.prog Tryz.f146=some aq146:=by kernel_rfl
theorem gq146:GD 146 aq146:=gG Tryz.func146 cq146 (by kernel_rfl)
def aq163:AFn:=⟨15,[(4,none),(5,none)],(sr [mk 4 0,mk 5 0]
 (.seq (.region true [mv 6 1,mv 7 1,aDk 8 7 1,mv 9 0,nc 10 9,fa 11 1 10,lo 12 11,le 13 12,aR 14 8 13,mv 4 6,mv 5 14])
 .ret))⟩
theorem cq163:cFn Tryz.prog Tryz.f163=some aq163:=by kernel_rfl
theorem gq163:GD 163 aq163:=gG Tryz.func163 cq163 (by kernel_rfl)
def aq150:AFn:=⟨38,[(4,(some (some 2)))],(sr [oZ 4 (.alloc [(.int .i64 0),.nilSl])]
 (sr [mv 8 0,nc 9 8,fa 10 0 9,lo 11 10,oZ 12 (.build [(.int .i64 0),.nilSl] [(0,1,tZ 11)]),oZ 5 (.alloc [(.int .i64 0),.nilSl]),so 2 5 12]
 (sr [mv 13 1,oZ 14 (.call (.fn 161) [tZ 13,(.fn 162)]),oZ 15 (.minmax true [kZ 0,tZ 14]),mv 6 15]
 (.seq (sr [mv 16 1,le 17 16,mk 18 0]
 (.block 0 (.loop (sr [cL 19 18 17]
 (.seq (.cond (tZ 19) .skip
 (.exit 0))
 (.seq (.block 1 (sr [mv 20 18,mv 7 20]
 (.region true [fa 21 1 5,lo 22 21,mv 23 1,mv 24 6,mv 25 7,aD 26 24 25,mv 27 1,le 28 27,aR 29 26 28,ix 30 7 23 29,fa 31 0 30,lw 32 6 31,⟨(some 33),.mkSl 6 1 [(.int .i64 0),(.int .i64 0),(.int .i64 0),(.int .i64 0),(.int .i64 0),(.bool false)] [(0,tZ 32)],none,[1]⟩,oZ 34 (.append 6 48 [(.int .i64 0),(.int .i64 0),(.int .i64 0),(.int .i64 0),(.int .i64 0),(.bool false)] (tZ 22) (tZ 33)),fa 35 1 5,so 1 35 34])))
 (rf [aDk 36 18 1,mv 18 36])))))))
 (sr [lw 37 2 5,so 2 4 37]
 .ret)))))⟩
theorem cq150:cFn Tryz.prog Tryz.f150=some aq150:=by kernel_rfl
theorem gq150:GD 150 aq150:=gG Tryz.func150 cq150 (by kernel_rfl)
def aq162:AFn:=⟨11,[(2,none)],(sr [bo 1 0,mfZ 2]
 (sr [fa 3 0 1,fa 4 0 3,lo 5 4,cEk 6 5 1,mv 7 6,gtf 8 7 6 1,gtl 9 7 8,pk0 10 7 9,mv 2 10]
 .ret))⟩
theorem cq162:cFn Tryz.prog Tryz.f162=some aq162:=by kernel_rfl
theorem gq162:GD 162 aq162:=gG Tryz.func162 cq162 (by kernel_rfl)
def aq156:AFn:=⟨27,[(4,none),(5,none)],(sr [bo 3 1,mnZ 4,mfZ 5]
 (.seq (.region true [mv 6 0,nc 7 6,fa 8 1 7,lo 9 8,fa 10 1 3,lo 11 10,mv 12 0,fa 13 6 3,lo 14 13,fa 15 5 3,lo 16 15,⟨(some 17),.call (.fn 173) [tZ 12,kZ 1,tZ 14,tZ 16],none,[3,5]⟩,mv 18 0,fa 19 6 3,⟨(some 20),.load none (tZ 19),none,[11]⟩,fa 21 5 3,⟨(some 22),.load none (tZ 21),none,[11]⟩,no 23 22,⟨(some 24),.call (.fn 173) [tZ 18,kZ 1,tZ 20,tZ 23],none,[3,5]⟩,⟨(some 25),.mkSl 7 2 [(.int .i64 0),(.int .i64 0),(.int .i64 0),(.int .i64 0),(.int .i64 0),(.bool false),(.bool false)] [(0,tZ 17),(1,tZ 24)],none,[3,5]⟩,ca3 26 169 9 11 25,mv 4 26,mtZ 5])
 .ret))⟩
theorem cq156:cFn Tryz.prog Tryz.f156=some aq156:=by kernel_rfl
theorem gq156:GD 156 aq156:=gG Tryz.func156 cq156 (by kernel_rfl)
def aq170:AFn:=⟨51,[(4,none),(5,none),(6,none)],(sr [mk 4 0,mk 5 0,mfZ 6]
 (sr [mv 10 0,mv 11 1,ca2 12 163 10 11,mv 9 12,ex 13 9 0,ex 14 9 1,mv 7 13,mv 8 14]
 (.seq (sr [mv 15 0,nc 16 15,fa 17 1 16,lo 18 17,mv 19 7,ix 20 7 18 19,fa 21 0 20,fa 22 0 21,lo 23 22,cEk 24 23 2]
 (.cond (tZ 24) (rf [mv 25 8,mv 26 7,mv 7 25,mv 8 26])
 .skip))
 (.seq (.region true [mv 27 7,mv 28 8,mv 29 0,nc 30 29,fa 31 1 30,lo 32 31,mv 33 7,ix 34 7 32 33,fa 35 0 34,fa 36 0 35,lo 37 36,cEk 38 37 1,mv 39 38,gtm 40 39 0,gZ 41 39 true (.nilChk (tZ 40)),gtf 42 39 1 41,gtl 43 39 42,gtm 44 39 8,gZ 45 39 true (.idxA 7 (tZ 43) (tZ 44)),gtf 46 39 0 45,gtf 47 39 0 46,gtl 48 39 47,gZ 49 39 true (.bin .eql .num (tZ 48) (kZ 2)),pk0 50 39 49,mv 4 27,mv 5 28,mv 6 50])
 .ret))))⟩
theorem cq170:cFn Tryz.prog Tryz.f170=some aq170:=by kernel_rfl
theorem gq170:GD 170 aq170:=gG Tryz.func170 cq170 (by kernel_rfl)
def aq160:AFn:=⟨125,[(4,none),(5,none)],(sr [bo 3 1,mnZ 4,mfZ 5]
 (.seq (.region true [mv 8 0,nc 9 8,fa 10 1 9,lo 11 10,fa 12 1 3,lo 13 12,ix 14 7 11 13,lw 15 7 14,⟨(some 6),.alloc [(.int .i64 0),(.int .i64 0),(.int .i64 0),(.int .i64 0),(.int .i64 0),(.bool false),(.bool false)],none,[3,5,6,7]⟩,so 7 6 15])
 (.seq (sr [fa 16 0 6,fa 17 0 16,lo 18 17,cNk 19 18 1]
 (.cond (tZ 19) (sr [mnZ 4,mfZ 5]
 .ret)
 .skip))
 (sr [mv 20 0,nc 21 20,fa 22 1 21,lo 23 22,ca1 24 168 23,mv 7 24]
 (.seq (.block 0 (.seq (.region true [fa 26 0 3,lo 27 26,cEk 28 27 9,mv 29 28,gtf 30 29 0 6,gtf 31 29 1 30,gtl 32 29 31,gtm 33 29 0,gZ 34 29 true (.nilChk (tZ 33)),gtf 35 29 0 34,gtl 36 29 35,gZ 37 29 true (.bin .lss .num (tZ 32) (tZ 36)),pk0 38 29 37,mv 39 38,gtf 40 39 0 6,gtf 41 39 2 40,gtl 42 39 41,gtm 43 39 0,gZ 44 39 true (.nilChk (tZ 43)),gtf 45 39 6 44,gtl 46 39 45,gtf 47 39 0 6,gtf 48 39 1 47,gtl 49 39 48,gZ 50 39 true (.idxA 1 (tZ 46) (tZ 49)),gtl 51 39 50,gZ 52 39 true (.bin .eql .num (tZ 42) (tZ 51)),pk0 53 39 52,mv 25 53])
 (.cond (tZ 25) (sr [mv 54 7,fa 55 0 6,fa 56 1 55,lo 57 56,aDk 58 57 1,oZ 59 (.call (.fn 166) [tZ 54,tZ 58,kZ 0,kZ 1])]
 (.region true [mv 60 7,fa 61 1 3,lo 62 61,mv 63 7,fa 64 1 3,lo 65 64,fa 66 0 6,fa 67 1 66,lo 68 67,aDk 69 68 1,ix 70 7 60 62,fa 71 0 70,fa 72 1 71,⟨none,.store 1 (tZ 72) (tZ 69),none,[5]⟩,ix 73 7 63 65,fa 74 0 73,fa 75 2 74,pZ (.store 1 (tZ 75) (kZ 1))]))
 (sr [fa 77 0 3,lo 78 77,cEk 79 78 10,mv 80 79,gtf 81 80 0 6,gtf 82 80 1 81,gtl 83 80 82,gZ 84 80 true (.bin .gtr .num (tZ 83) (kZ 0)),pk0 85 80 84,mv 86 85,gtf 87 86 0 6,gtf 88 86 2 87,gtl 89 86 88,gZ 90 86 true (.bin .eql .num (tZ 89) (kZ 1)),pk0 91 86 90,mv 76 91]
 (.cond (tZ 76) (sr [mv 92 7,fa 93 0 6,fa 94 1 93,lo 95 94,oZ 96 (.call (.fn 166) [tZ 92,tZ 95,kZ 1,(kZ (-1))])]
 (.region true [mv 97 7,fa 98 1 3,lo 99 98,mv 100 7,fa 101 1 3,lo 102 101,fa 103 0 6,fa 104 1 103,lo 105 104,aSk 106 105 1,mv 107 0,nc 108 107,fa 109 6 108,lo 110 109,fa 111 0 6,fa 112 1 111,lo 113 112,aSk 114 113 1,ix 115 1 110 114,lo 116 115,aDk 117 116 1,ix 118 7 97 99,fa 119 0 118,fa 120 1 119,⟨none,.store 1 (tZ 120) (tZ 106),none,[5]⟩,ix 121 7 100 102,fa 122 0 121,fa 123 2 122,so 1 123 117]))
 (sr [mnZ 4,mfZ 5]
 .ret))))))
 (sr [mv 124 7,mv 4 124,mtZ 5]
 .ret))))))⟩
theorem cq160:cFn Tryz.prog Tryz.f160=some aq160:=by kernel_rfl
theorem gq160:GD 160 aq160:=gG Tryz.func160 cq160 (by kernel_rfl)
def aq173:AFn:=⟨19,[(8,(some (some 7)))],(sr [oZ 8 (.alloc [(.int .i64 0),(.int .i64 0),(.int .i64 0),(.int .i64 0),(.int .i64 0),(.bool false),(.bool false)])]
 (sr [mv 9 0,nc 10 9,fa 11 5 10,lo 12 11,mv 13 1,aD 14 12 13,mv 15 2,mv 16 3,oZ 17 (.build [(.int .i64 0),(.int .i64 0),(.int .i64 0),(.int .i64 0),(.int .i64 0),(.bool false)] [(0,1,kZ 2),(3,1,tZ 14),(4,1,tZ 15),(5,1,tZ 16)]),oZ 18 (.build [(.int .i64 0),(.int .i64 0),(.int .i64 0),(.int .i64 0),(.int .i64 0),(.bool false),(.bool false)] [(0,6,tZ 17)]),so 7 8 18]
 .ret))⟩
theorem cq173:cFn Tryz.prog Tryz.f173=some aq173:=by kernel_rfl
theorem gq173:GD 173 aq173:=gG Tryz.func173 cq173 (by kernel_rfl)
def aq68:AFn:=⟨18,[(6,none)],(sr [bo 3 0,mk 6 0]
 (.seq (sr [lw 8 1 3,mv 9 2,oZ 10 (.call (.fn 65) [tZ 8,tZ 9,bZ true]),mv 7 10]
 (sr [mv 11 7,mv 12 1,cN 13 11 12]
 (.cond (tZ 13) (sr [mv 14 7,mv 6 14]
 .ret)
 .skip)))
 (sr [lw 15 1 3,mv 16 2,oZ 17 (.call (.fn 65) [tZ 15,tZ 16,bZ false]),mv 6 17]
 .ret)))⟩
theorem cq68:cFn Tryz.prog Tryz.f68=some aq68:=by kernel_rfl
theorem gq68:GD 68 aq68:=gG Tryz.func68 cq68 (by kernel_rfl)
def aq67:AFn:=⟨32,[(6,none)],(sr [bo 3 0,mfZ 6]
 (sr [mv 7 1,cHk 8 7 0,mv 9 8,gtf 10 9 0 3,gtl 11 9 10,gtm 12 9 1,gZ 13 9 true (.idxA 5 (tZ 11) (tZ 12)),gtf 14 9 1 13,gtl 15 9 14,gtm 16 9 2,gZ 17 9 true (.bin .mul .num (kZ 2) (tZ 16)),gZ 18 9 true (.call (.fn 81) [tZ 15,tZ 17]),gtm 19 9 18,gff 20 19 0 3,gfl 21 19 20,gfm 22 19 1,gZ 23 19 false (.idxA 5 (tZ 21) (tZ 22)),gff 24 19 1 23,gfl 25 19 24,gfm 26 19 2,gZ 27 19 false (.bin .mul .num (kZ 2) (tZ 26)),gZ 28 19 false (.bin .add .num (tZ 27) (kZ 1)),gZ 29 19 false (.call (.fn 81) [tZ 25,tZ 28]),gZ 30 9 true (.pick (tZ 19) (bZ true) (tZ 29)),pk0 31 9 30,mv 6 31]
 .ret))⟩
theorem cq67:cFn Tryz.prog Tryz.f67=some aq67:=by kernel_rfl
theorem gq67:GD 67 aq67:=gG Tryz.func67 cq67 (by kernel_rfl)
def aq66:AFn:=⟨9,[(4,none)],(sr [bo 2 0,bo 3 1,mk 4 0]
 (sr [fa 5 0 2,lo 6 5,oZ 7 (.mkFunc (.func 82) [] [tZ 3]),ca2 8 79 6 7,mv 4 8]
 .ret))⟩
theorem cq66:cFn Tryz.prog Tryz.f66=some aq66:=by kernel_rfl
theorem gq66:GD 66 aq66:=gG Tryz.func66 cq66 (by kernel_rfl)
def aq82:AFn:=⟨12,[(3,none)],(sr [bo 2 0,mfZ 3]
 (sr [fa 4 0 2,lo 5 4,mv 6 5,gtf 7 6 3 2,gtl 8 6 7,gtl 9 6 1,gZ 10 6 true (.call (.fn 81) [tZ 8,tZ 9]),pk0 11 6 10,mv 3 11]
 .ret))⟩
theorem cq82:cFn Tryz.prog Tryz.f82=some aq82:=by kernel_rfl
theorem gq82:GD 82 aq82:=gG Tryz.func82 cq82 (by kernel_rfl)
end Go.Known
end
section
namespace Go.Known
open Go Go.AE Go.Proofs
set_option maxRecDepth 100000
def ahHOpens:AFn:=⟨116,[(6,none)],(sr [bo 3 0,mfZ 6]
 (.seq (sr [lw 20 3 3,ca1 21 7 20,no 22 21]
 (.cond (tZ 22) (sr [oZ 23 (.call (.fn 8) []),mv 6 23]
 .ret)
 .skip))
 (sr [lw 25 3 3,mv 26 1,ca2 27 25 25 26,mv 24 27,ex 28 24 0,ex 29 24 1,ex 30 24 2,oZ 7 (.alloc [(.int .i64 0),.nilSl]),so 2 7 28,mv 8 29,mv 9 30]
 (sr [lw 32 3 3,mv 33 1,ca2 34 26 32 33,mv 31 34,ex 35 31 0,ex 36 31 1,ex 37 31 2,oZ 10 (.alloc [(.int .i64 0),.nilSl]),so 2 10 35,mv 11 36,mv 12 37]
 (.seq (sr [lw 38 3 3,ca1 39 11 38,no 40 39,mv 41 40,gfm 42 41 12,gZ 43 41 false (.un .not (tZ 42)),pk1 44 41 43]
 (.cond (tZ 44) (sr [mv 45 9,cEk 46 45 2,mv 47 46,gZ 48 47 true (.load (some 2) (tZ 7)),gZ 49 47 true (.build [(.int .i64 0),.nilSl] []),gZ 50 47 true (.call (.fn 21) [tZ 48,tZ 49]),pk0 51 47 50,mv 52 51,gtm 53 52 8,gZ 54 52 true (.lenSl (tZ 53)),gZ 55 52 true (.bin .eql .num (tZ 54) (kZ 0)),pk0 56 52 55,mv 57 56,gZ 58 57 true (.call (.fn 8) []),pk0 59 57 58,mv 6 59]
 .ret)
 .skip))
 (.seq (sr [mv 60 9,cNk 61 60 0,mv 62 61,gZ 63 62 false (.load (some 2) (tZ 7)),gZ 64 62 false (.load (some 2) (tZ 10)),gZ 65 62 false (.call (.fn 21) [tZ 63,tZ 64]),gZ 66 62 false (.un .not (tZ 65)),pk1 67 62 66,mv 68 67,gfm 69 68 8,gfm 70 68 11,gZ 71 68 false (.call (.fn 27) [tZ 69,tZ 70]),gZ 72 68 false (.un .not (tZ 71)),pk1 73 68 72]
 (.cond (tZ 73) (sr [mfZ 6]
 .ret)
 .skip))
 (sr [mv 75 2,ca1 76 9 75,mv 74 76,ex 77 74 0,ex 78 74 1,oZ 13 (.alloc [.nilSl,(.int .i64 0),(.int .i64 0)]),so 3 13 77,mv 9 78]
 (.seq (sr [mv 79 9,cNk 80 79 0,mv 81 80,gfm 82 81 2,gZ 83 81 false (.bin .lss .num (tZ 82) (kZ 1)),pk1 84 81 83]
 (.cond (tZ 84) (sr [oZ 85 (.call (.fn 8) []),mv 6 85]
 .ret)
 .skip))
 (sr [lw 87 3 13,mv 88 1,ca2 89 25 87 88,mv 86 89,ex 90 86 0,ex 91 86 1,ex 92 86 2,oZ 14 (.alloc [(.int .i64 0),.nilSl]),so 2 14 90,mv 15 91,mv 16 92]
 (sr [lw 94 3 13,lw 95 2 14,mv 96 15,ca3 97 28 94 95 96,mv 93 97,ex 98 93 0,ex 99 93 1,ex 100 93 2,oZ 17 (.alloc [(.int .i64 0),.nilSl]),so 2 17 98,mv 18 99,mv 19 100]
 (sr [mv 101 16,cEk 102 101 0,mv 103 102,gtm 104 103 19,gZ 105 103 true (.bin .eql .num (tZ 104) (kZ 0)),pk0 106 103 105,mv 107 106,gtm 108 107 18,gtm 109 107 15,gZ 110 107 true (.lenSl (tZ 109)),gZ 111 107 true (.bin .eql .num (tZ 108) (tZ 110)),pk0 112 107 111,mv 113 112,gZ 114 113 true (.call (.fn 8) []),pk0 115 113 114,mv 6 115]
 .ret)))))))))))⟩
theorem chHOpens:cFn Tryz.prog Tryz.f6=some ahHOpens:=by kernel_rfl
def ahShort:AFn:=⟨7,[(2,none)],(sr [bo 1 0,mfZ 2]
 (sr [fa 3 0 1,lo 4 3,le 5 4,cKk 6 5 60,mv 2 6]
 .ret))⟩
theorem chShort:cFn Tryz.prog Tryz.f7=some ahShort:=by kernel_rfl
def ahIndex:AFn:=⟨10,[(4,none)],(sr [bo 2 0,bo 3 1,mk 4 0]
 (sr [fa 5 0 2,lo 6 5,lw 7 3 3,ca2 8 34 6 7,aDk 9 8 1,mv 4 9]
 .ret))⟩
theorem chIndex:cFn Tryz.prog Tryz.f12=some ahIndex:=by kernel_rfl
def ahRStandard:AFn:=⟨38,[(2,(some (some 3)))],(sr [oZ 2 (.alloc [.nilSl,(.int .i64 0),(.int .i64 0)])]
 (sr [oZ 7 (.build [.nilSl,(.int .i64 0),(.int .i64 0)] [(1,1,kZ 6),(2,1,kZ 4)]),oZ 3 (.alloc [.nilSl,(.int .i64 0),(.int .i64 0)]),so 3 3 7]
 (.seq (sr [mk 4 1]
 (.block 0 (.loop (.seq (sr [mv 8 4,mv 9 0,cK 10 8 9]
 (.cond (tZ 10) .skip
 (.exit 0)))
 (.seq (.block 1 (.seq (sr [mk 5 1]
 (.block 2 (.loop (.seq (sr [mv 13 5,cKk 14 13 5]
 (.cond (tZ 14) .skip
 (.exit 2)))
 (.seq (.block 3 (rf [fa 17 0 3,lo 18 17,mv 19 4,mv 20 5,oZ 21 (.build [(.int .i64 0),(.bool false),(.int .i64 0)] [(0,1,tZ 19),(2,1,tZ 20)]),oZ 22 (.mkSl 3 1 [(.int .i64 0),(.bool false),(.int .i64 0)] [(0,tZ 21)]),oZ 23 (.append 3 24 [(.int .i64 0),(.bool false),(.int .i64 0)] (tZ 18) (tZ 22)),fa 24 0 3,so 1 24 23]))
 (rf [mv 15 5,aDk 16 15 1,mv 5 16]))))))
 (sr [mk 6 5]
 (.block 4 (.loop (.seq (sr [mv 25 6,cHk 26 25 1]
 (.cond (tZ 26) .skip
 (.exit 4)))
 (.seq (.block 5 (rf [fa 29 0 3,lo 30 29,mv 31 4,mv 32 6,oZ 33 (.build [(.int .i64 0),(.bool false),(.int .i64 0)] [(0,1,tZ 31),(1,1,bZ true),(2,1,tZ 32)]),oZ 34 (.mkSl 3 1 [(.int .i64 0),(.bool false),(.int .i64 0)] [(0,tZ 33)]),oZ 35 (.append 3 24 [(.int .i64 0),(.bool false),(.int .i64 0)] (tZ 30) (tZ 34)),fa 36 0 3,so 1 36 35]))
 (rf [mv 27 6,aSk 28 27 1,mv 6 28]))))))))
 (rf [mv 11 4,aDk 12 11 1,mv 4 12]))))))
 (sr [lw 37 3 3,so 3 2 37]
 .ret))))⟩
theorem chRStandard:cFn Tryz.prog Tryz.f14=some ahRStandard:=by kernel_rfl
def ahParseName:AFn:=⟨34,[(2,(some (some 3))),(3,none)],(sr [oZ 2 (.alloc [(.int .i64 0),(.bool false),(.int .i64 0)]),mk 3 0]
 (.seq (sr [mk 4 1]
 (.block 0 (.loop (.seq (sr [mv 9 4,cKk 10 9 9]
 (.cond (tZ 10) .skip
 (.exit 0)))
 (.seq (.block 1 (sr [mk 5 0]
 (.block 2 (.loop (.seq (sr [mv 13 5,cKk 14 13 6]
 (.cond (tZ 14) .skip
 (.exit 2)))
 (.seq (.block 3 (sr [oZ 17 (.mkSl 1 2 [(.bool false)] [(0,bZ false),(1,bZ true)]),le 18 17,mk 19 0]
 (.block 4 (.loop (sr [cL 20 19 18]
 (.seq (.cond (tZ 20) .skip
 (.exit 4))
 (.seq (.block 5 (sr [ix 21 1 17 19,lo 22 21,mv 7 22]
 (sr [mv 23 4,mv 24 7,mv 25 5,oZ 26 (.build [(.int .i64 0),(.bool false),(.int .i64 0)] [(0,1,tZ 23),(1,1,tZ 24),(2,1,tZ 25)]),oZ 8 (.alloc [(.int .i64 0),(.bool false),(.int .i64 0)]),so 3 8 26]
 (sr [lw 27 3 8,ca1 28 17 27,mv 29 0,cE 30 28 29]
 (.cond (tZ 30) (sr [lw 31 3 8,so 3 2 31,mk 3 0]
 .ret)
 .skip)))))
 (rf [aDk 32 19 1,mv 19 32]))))))))
 (rf [mv 15 5,aDk 16 15 1,mv 5 16])))))))
 (rf [mv 11 4,aDk 12 11 1,mv 4 12]))))))
 (sr [oZ 33 (.build [(.int .i64 0),(.bool false),(.int .i64 0)] []),so 3 2 33,mk 3 6]
 .ret)))⟩
theorem chParseName:cFn Tryz.prog Tryz.f15=some ahParseName:=by kernel_rfl
def ahRHang:AFn:=⟨67,[(4,(some (some 2))),(5,none)],(sr [oZ 4 (.alloc [(.int .i64 0),.nilSl]),mfZ 5]
 (sr [mv 10 0,oZ 11 (.build [(.int .i64 0),.nilSl] [(0,1,tZ 10)]),oZ 6 (.alloc [(.int .i64 0),.nilSl]),so 2 6 11]
 (.seq (sr [mk 7 0]
 (.block 0 (.loop (.seq (sr [mv 12 7,mv 13 1,le 14 13,cL 15 12 14]
 (.cond (tZ 15) .skip
 (.exit 0)))
 (.seq (.block 1 (sr [mv 18 1,mv 19 7,ix 20 1 18 19,lo 21 20,mv 8 21]
 (.seq (sr [mv 22 8,cLk 23 22 1,mv 24 23,gfm 25 24 8,gfm 26 24 0,gZ 27 24 false (.bin .gtr .num (tZ 25) (tZ 26)),pk1 28 24 27,mv 29 28,gfm 30 29 7,gZ 31 29 false (.bin .gtr .num (tZ 30) (kZ 0)),gfm 32 29 31,gtm 33 32 8,gtm 34 32 1,gtm 35 32 7,gZ 36 32 true (.bin .sub .num (tZ 35) (kZ 1)),gZ 37 32 true (.idxA 1 (tZ 34) (tZ 36)),gtl 38 32 37,gZ 39 32 true (.bin .leq .num (tZ 33) (tZ 38)),gZ 40 29 false (.pick (tZ 32) (tZ 39) (bZ false)),pk1 41 29 40]
 (.cond (tZ 41) (sr [oZ 42 (.build [(.int .i64 0),.nilSl] []),so 2 4 42,mfZ 5]
 .ret)
 .skip))
 (sr [mk 9 1]
 (.seq (sr [mv 43 7,cGk 44 43 0,mv 45 44,gtm 46 45 1,gtm 47 45 7,gZ 48 45 true (.bin .sub .num (tZ 47) (kZ 1)),gZ 49 45 true (.idxA 1 (tZ 46) (tZ 48)),gtl 50 45 49,gtm 51 45 8,gZ 52 45 true (.bin .sub .num (tZ 51) (kZ 1)),gZ 53 45 true (.bin .eql .num (tZ 50) (tZ 52)),pk0 54 45 53]
 (.cond (tZ 54) (rf [mk 9 2])
 .skip))
 (rf [fa 55 1 6,lo 56 55,mv 57 8,aSk 58 57 1,mv 59 9,oZ 60 (.build [(.int .i64 0),(.int .i64 0),(.int .i64 0),(.int .i64 0),(.int .i64 0),(.bool false)] [(0,1,kZ 1),(1,1,tZ 58),(2,1,tZ 59)]),mv 61 8,oZ 62 (.build [(.int .i64 0),(.int .i64 0),(.int .i64 0),(.int .i64 0),(.int .i64 0),(.bool false)] [(0,1,kZ 1),(1,1,tZ 61),(2,1,kZ 1)]),oZ 63 (.mkSl 6 2 [(.int .i64 0),(.int .i64 0),(.int .i64 0),(.int .i64 0),(.int .i64 0),(.bool false)] [(0,tZ 60),(1,tZ 62)]),oZ 64 (.append 6 48 [(.int .i64 0),(.int .i64 0),(.int .i64 0),(.int .i64 0),(.int .i64 0),(.bool false)] (tZ 56) (tZ 63)),fa 65 1 6,so 1 65 64]))))))
 (rf [mv 16 7,aDk 17 16 1,mv 7 17]))))))
 (sr [lw 66 2 6,so 2 4 66,mtZ 5]
 .ret))))⟩
theorem chRHang:cFn Tryz.prog Tryz.f20=some ahRHang:=by kernel_rfl
def ahOpening:AFn:=⟨137,[(4,(some (some 2))),(5,none),(6,none)],(sr [bo 2 0,oZ 4 (.alloc [(.int .i64 0),.nilSl]),mnZ 5,mk 6 0]
 (.seq (sr [lw 20 3 2,ca1 21 10 20,no 22 21]
 (.cond (tZ 22) (sr [oZ 23 (.build [(.int .i64 0),.nilSl] []),so 2 4 23,mnZ 5,mk 6 2]
 .ret)
 .skip))
 (sr [mnZ 7]
 (.seq (sr [mv 24 1]
 (.block 0 (sr [cEk 26 24 1,mv 25 26]
 (.cond (tZ 25) (rf [oZ 27 (.mkSl 1 4 [(.str [])] [(0,(.const (.str [76,49]))),(1,(.const (.str [76,53]))),(2,(.const (.str [82,53]))),(3,(.const (.str [82,49])))]),mv 7 27])
 (.seq (sr [cEk 29 24 2,mv 28 29]
 (.cond (tZ 28) .skip
 (rf [cEk 30 24 3,mv 28 30])))
 (.cond (tZ 28) (rf [oZ 31 (.mkSl 1 6 [(.str [])] [(0,(.const (.str [76,49]))),(1,(.const (.str [76,50]))),(2,(.const (.str [76,53]))),(3,(.const (.str [82,53]))),(4,(.const (.str [82,50]))),(5,(.const (.str [82,49])))]),mv 7 31])
 (sr [cEk 33 24 4,mv 32 33]
 (.cond (tZ 32) (rf [oZ 34 (.mkSl 1 2 [(.str [])] [(0,(.const (.str [76,50]))),(1,(.const (.str [82,50])))]),mv 7 34])
 .skip))))))))
 (sr [oZ 35 (.mkMap),mv 8 35]
 (sr [mk 9 0]
 (.seq (sr [mv 36 7,le 37 36,mk 38 0]
 (.block 1 (.loop (sr [cL 39 38 37]
 (.seq (.cond (tZ 39) .skip
 (.exit 1))
 (.seq (.block 2 (sr [ix 40 1 36 38,lo 41 40,mv 11 41]
 (sr [mv 43 11,ca1 44 15 43,mv 42 44,ex 45 42 0,ex 46 42 1,oZ 12 (.alloc [(.int .i64 0),(.bool false),(.int .i64 0)]),so 3 12 45,mv 13 46]
 (sr [mv 47 8,mv 48 11,lw 49 3 2,lw 50 3 12,ca2 51 12 49 50,pZ (.mapUpd .str (tZ 47) (tZ 48) (tZ 51))]
 (.seq (sr [mv 52 8,mv 53 11,oZ 54 (.lookup .str (.int .i64 0) false (tZ 52) (tZ 53)),mv 55 9,cK 56 54 55]
 (.cond (tZ 56) (sr [oZ 57 (.build [(.int .i64 0),.nilSl] []),so 2 4 57,mnZ 5,mk 6 2]
 .ret)
 .skip))
 (rf [mv 58 8,mv 59 11,oZ 60 (.lookup .str (.int .i64 0) false (tZ 58) (tZ 59)),mv 9 60]))))))
 (rf [aDk 61 38 1,mv 38 61])))))))
 (.seq (sr [mv 62 7,le 63 62,cEk 64 63 0]
 (.cond (tZ 64) (sr [oZ 65 (.build [(.int .i64 0),.nilSl] []),so 2 4 65,mnZ 5,mk 6 2]
 .ret)
 .skip))
 (.seq (sr [mv 66 1,cEk 67 66 4]
 (.cond (tZ 67) (sr [lw 69 3 2,mv 70 8,oZ 71 (.lookup .str (.int .i64 0) false (tZ 70) (.const (.str [76,50]))),mv 72 8,oZ 73 (.lookup .str (.int .i64 0) false (tZ 72) (.const (.str [82,50]))),oZ 74 (.mkSl 1 2 [(.int .i64 0)] [(0,tZ 71),(1,tZ 73)]),ca2 75 19 69 74,mv 68 75,ex 76 68 0,ex 77 68 1,oZ 14 (.alloc [(.int .i64 0),.nilSl]),so 2 14 76,mv 15 77]
 (sr [lw 78 2 14,mv 79 15,so 2 4 78,mnZ 5,mv 6 79]
 .ret))
 .skip))
 (sr [lw 81 3 2,mv 82 8,oZ 83 (.lookup .str (.int .i64 0) false (tZ 82) (.const (.str [76,49]))),mv 84 8,oZ 85 (.lookup .str (.int .i64 0) false (tZ 84) (.const (.str [76,53]))),mv 86 8,oZ 87 (.lookup .str (.int .i64 0) false (tZ 86) (.const (.str [82,53]))),mv 88 8,oZ 89 (.lookup .str (.int .i64 0) false (tZ 88) (.const (.str [82,49]))),oZ 90 (.mkSl 1 4 [(.int .i64 0)] [(0,tZ 83),(1,tZ 85),(2,tZ 87),(3,tZ 89)]),ca2 91 19 81 90,mv 80 91,ex 92 80 0,ex 93 80 1,oZ 16 (.alloc [(.int .i64 0),.nilSl]),so 2 16 92,mv 17 93]
 (sr [oZ 18 (.mov (.fn 41))]
 (sr [oZ 19 (.mov (.fn 42))]
 (.seq (sr [mv 94 1]
 (.block 3 (sr [cEk 96 94 2,mv 95 96]
 (.cond (tZ 95) (.seq (.region true [lw 97 2 16,mv 98 18,mv 99 8,oZ 100 (.lookup .str (.int .i64 0) false (tZ 99) (.const (.str [82,50]))),mv 101 8,oZ 102 (.lookup .str (.int .i64 0) false (tZ 101) (.const (.str [82,53]))),mv 103 8,oZ 104 (.lookup .str (.int .i64 0) false (tZ 103) (.const (.str [76,53]))),⟨(some 105),.call (tZ 98) [tZ 100,tZ 102,tZ 104],none,[0]⟩,mv 106 19,mv 107 8,⟨(some 108),.lookup .str (.int .i64 0) false (tZ 107) (.const (.str [76,50])),none,[8]⟩,mv 109 8,⟨(some 110),.lookup .str (.int .i64 0) false (tZ 109) (.const (.str [82,53])),none,[8]⟩,⟨(some 111),.call (tZ 106) [tZ 108,tZ 110],none,[0]⟩,⟨(some 112),.mkSl 8 1 [(.int .i64 0),(.int .i64 0),(.int .i64 0),(.int .i64 0),(.bool false),(.int .i64 0),.nilSl,(.bool false)] [(0,tZ 111)],none,[0]⟩,⟨(some 113),.append 8 80 [(.int .i64 0),(.int .i64 0),(.int .i64 0),(.int .i64 0),(.bool false),(.int .i64 0),.nilSl,(.bool false)] (tZ 105) (tZ 112),none,[0]⟩,mv 114 17,so 2 4 97,mv 5 113,mv 6 114])
 .ret)
 (sr [cEk 116 94 3,mv 115 116]
 (.cond (tZ 115) (.seq (.region true [lw 117 2 16,mv 118 18,mv 119 8,oZ 120 (.lookup .str (.int .i64 0) false (tZ 119) (.const (.str [76,50]))),mv 121 8,oZ 122 (.lookup .str (.int .i64 0) false (tZ 121) (.const (.str [76,53]))),mv 123 8,oZ 124 (.lookup .str (.int .i64 0) false (tZ 123) (.const (.str [82,53]))),⟨(some 125),.call (tZ 118) [tZ 120,tZ 122,tZ 124],none,[0]⟩,mv 126 19,mv 127 8,⟨(some 128),.lookup .str (.int .i64 0) false (tZ 127) (.const (.str [82,50])),none,[8]⟩,mv 129 8,⟨(some 130),.lookup .str (.int .i64 0) false (tZ 129) (.const (.str [76,53])),none,[8]⟩,⟨(some 131),.call (tZ 126) [tZ 128,tZ 130],none,[0]⟩,⟨(some 132),.mkSl 8 1 [(.int .i64 0),(.int .i64 0),(.int .i64 0),(.int .i64 0),(.bool false),(.int .i64 0),.nilSl,(.bool false)] [(0,tZ 131)],none,[0]⟩,⟨(some 133),.append 8 80 [(.int .i64 0),(.int .i64 0),(.int .i64 0),(.int .i64 0),(.bool false),(.int .i64 0),.nilSl,(.bool false)] (tZ 125) (tZ 132),none,[0]⟩,mv 134 17,so 2 4 117,mv 5 133,mv 6 134])
 .ret)
 .skip))))))
 (sr [lw 135 2 16,mv 136 17,so 2 4 135,mnZ 5,mv 6 136]
 .ret))))))))))))))⟩
theorem chOpening:cFn Tryz.prog Tryz.f25=some ahOpening:=by kernel_rfl
def ahROpening:AFn:=⟨163,[(4,(some (some 2))),(5,none),(6,none)],(sr [bo 2 0,oZ 4 (.alloc [(.int .i64 0),.nilSl]),mnZ 5,mfZ 6]
 (sr [oZ 20 (.mkSl 1 4 [(.int .i64 0)] [(0,kZ 1),(1,kZ 5),(2,(kZ (-5))),(3,(kZ (-1)))]),mv 7 20]
 (.seq (sr [mv 21 1,cEk 22 21 2,mv 23 22,gfm 24 23 1,gZ 25 23 false (.bin .eql .num (tZ 24) (kZ 3)),pk1 26 23 25]
 (.cond (tZ 26) (rf [oZ 27 (.mkSl 1 6 [(.int .i64 0)] [(0,kZ 1),(1,kZ 2),(2,kZ 5),(3,(kZ (-5))),(4,(kZ (-2))),(5,(kZ (-1)))]),mv 7 27])
 .skip))
 (.seq (sr [mv 28 1,cEk 29 28 4]
 (.cond (tZ 29) (rf [oZ 30 (.mkSl 1 2 [(.int .i64 0)] [(0,kZ 2),(1,(kZ (-2)))]),mv 7 30])
 .skip))
 (.seq (sr [mv 31 1,cLk 32 31 1,mv 33 32,gfm 34 33 1,gZ 35 33 false (.bin .gtr .num (tZ 34) (kZ 4)),pk1 36 33 35]
 (.cond (tZ 36) (sr [oZ 37 (.build [(.int .i64 0),.nilSl] []),so 2 4 37,mnZ 5,mfZ 6]
 .ret)
 .skip))
 (sr [mnZ 8]
 (.seq (sr [mk 9 0]
 (.block 0 (.loop (.seq (sr [mv 38 9,mv 39 7,le 40 39,cL 41 38 40]
 (.cond (tZ 41) .skip
 (.exit 0)))
 (.seq (.block 1 (sr [mv 44 7,mv 45 9,ix 46 1 44 45,lo 47 46,oZ 48 (.build [(.int .i64 0),(.bool false),(.int .i64 0)] [(0,1,kZ 1),(2,1,tZ 47)]),oZ 10 (.alloc [(.int .i64 0),(.bool false),(.int .i64 0)]),so 3 10 48]
 (.seq (sr [mv 49 7,mv 50 9,ix 51 1 49 50,lo 52 51,cLk 53 52 0]
 (.cond (tZ 53) (rf [mv 54 7,mv 55 9,ix 56 1 54 55,lo 57 56,oZ 58 (.un .neg (tZ 57)),oZ 59 (.build [(.int .i64 0),(.bool false),(.int .i64 0)] [(0,1,kZ 1),(1,1,bZ true),(2,1,tZ 58)]),so 3 10 59])
 .skip))
 (sr [mv 60 8,lw 61 3 2,lw 62 3 10,ca2 63 13 61 62,oZ 64 (.mkSl 1 1 [(.int .i64 0)] [(0,tZ 63)]),oZ 65 (.append 1 8 [(.int .i64 0)] (tZ 60) (tZ 64)),mv 8 65]
 (.seq (.region true [mv 66 8,mv 67 9,ix 68 1 66 67,lo 69 68,cEk 70 69 0,mv 71 70,gfm 72 71 9,gZ 73 71 false (.bin .gtr .num (tZ 72) (kZ 0)),gfm 74 71 73,gtm 75 74 8,gtm 76 74 9,gZ 77 74 true (.idxA 1 (tZ 75) (tZ 76)),gtl 78 74 77,gtm 79 74 8,gtm 80 74 9,gZ 81 74 true (.bin .sub .num (tZ 80) (kZ 1)),gZ 82 74 true (.idxA 1 (tZ 79) (tZ 81)),gtl 83 74 82,gZ 84 74 true (.bin .leq .num (tZ 78) (tZ 83)),gZ 85 71 false (.pick (tZ 74) (tZ 84) (bZ false)),pk1 86 71 85])
 (.cond (tZ 86) (sr [oZ 87 (.build [(.int .i64 0),.nilSl] []),so 2 4 87,mnZ 5,mfZ 6]
 .ret)
 .skip))))))
 (rf [mv 42 9,aDk 43 42 1,mv 9 43]))))))
 (.seq (sr [mv 88 8,le 89 88,cLk 90 89 6]
 (.cond (tZ 90) (sr [fa 92 0 2,lo 93 92,le 94 93,mv 95 8,ca2 96 20 94 95,mv 91 96,ex 97 91 0,ex 98 91 1,oZ 11 (.alloc [(.int .i64 0),.nilSl]),so 2 11 97,mv 12 98]
 (sr [lw 99 2 11,mv 100 12,so 2 4 99,mnZ 5,mv 6 100]
 .ret))
 .skip))
 (.seq (.region true [fa 102 0 2,lo 103 102,le 104 103,mv 105 8,oZ 106 (.idxA 1 (tZ 105) (kZ 0)),lo 107 106,mv 108 8,oZ 109 (.idxA 1 (tZ 108) (kZ 2)),lo 110 109,mv 111 8,oZ 112 (.idxA 1 (tZ 111) (kZ 3)),lo 113 112,mv 114 8,oZ 115 (.idxA 1 (tZ 114) (kZ 5)),lo 116 115,⟨(some 117),.mkSl 1 4 [(.int .i64 0)] [(0,tZ 107),(1,tZ 110),(2,tZ 113),(3,tZ 116)],none,[1]⟩,ca2 118 20 104 117,mv 101 118,ex 119 101 0,ex 120 101 1,⟨(some 13),.alloc [(.int .i64 0),.nilSl],none,[1,4,5,7,8,10,11,13,14,15,16]⟩,so 2 13 119,mv 14 120])
 (.seq (.region true [mv 121 8,oZ 122 (.idxA 1 (tZ 121) (kZ 4)),lo 123 122,mv 124 8,oZ 125 (.idxA 1 (tZ 124) (kZ 1)),lo 126 125,mv 127 8,oZ 128 (.idxA 1 (tZ 127) (kZ 2)),lo 129 128,mv 130 8,oZ 131 (.idxA 1 (tZ 130) (kZ 3)),lo 132 131,mv 15 123,mv 16 126,mv 17 129,mv 18 132])
 (.seq (sr [mv 133 1,cEk 134 133 3]
 (.cond (tZ 134) (.region true [mv 135 8,oZ 136 (.idxA 1 (tZ 135) (kZ 1)),lo 137 136,mv 138 8,oZ 139 (.idxA 1 (tZ 138) (kZ 4)),lo 140 139,mv 141 8,oZ 142 (.idxA 1 (tZ 141) (kZ 3)),lo 143 142,mv 144 8,oZ 145 (.idxA 1 (tZ 144) (kZ 2)),lo 146 145,mv 15 137,mv 16 140,mv 17 143,mv 18 146])
 .skip))
 (sr [mv 147 15,mv 148 17,oZ 149 (.build [(.int .i64 0),(.int .i64 0),(.bool false),(.int .i64 0)] [(0,1,tZ 148),(1,1,kZ 1)]),mv 150 18,oZ 151 (.build [(.int .i64 0),(.int .i64 0),(.bool false),(.int .i64 0)] [(0,1,tZ 150),(1,1,kZ 1)]),oZ 152 (.build [(.int .i64 0),(.int .i64 0),(.bool false),(.int .i64 0),(.bool false)] [(0,4,tZ 151),(4,1,bZ true)]),oZ 153 (.mkSl 5 1 [(.int .i64 0),(.int .i64 0),(.bool false),(.int .i64 0),(.bool false)] [(0,tZ 152)]),oZ 154 (.build [(.int .i64 0),(.int .i64 0),(.int .i64 0),(.int .i64 0),(.bool false),(.int .i64 0),.nilSl,(.bool false)] [(0,1,kZ 3),(1,1,tZ 147),(2,4,tZ 149),(6,1,tZ 153)]),mv 155 16,mv 156 18,oZ 157 (.build [(.int .i64 0),(.int .i64 0),(.bool false),(.int .i64 0)] [(0,1,tZ 156),(1,1,kZ 1),(3,1,kZ 1)]),oZ 158 (.build [(.int .i64 0),(.int .i64 0),(.int .i64 0),(.int .i64 0),(.bool false),(.int .i64 0),.nilSl,(.bool false)] [(0,1,kZ 3),(1,1,tZ 155),(2,4,tZ 157)]),oZ 159 (.mkSl 8 2 [(.int .i64 0),(.int .i64 0),(.int .i64 0),(.int .i64 0),(.bool false),(.int .i64 0),.nilSl,(.bool false)] [(0,tZ 154),(1,tZ 158)]),mv 19 159]
 (sr [lw 160 2 13,mv 161 19,mv 162 14,so 2 4 160,mv 5 161,mv 6 162]
 .ret)))))))))))))⟩
theorem chROpening:cFn Tryz.prog Tryz.f26=some ahROpening:=by kernel_rfl
def ahSameOps:AFn:=⟨27,[(4,none)],(sr [mfZ 4]
 (.seq (sr [mv 6 0,le 7 6,mv 8 1,le 9 8,cN 10 7 9]
 (.cond (tZ 10) (sr [mfZ 4]
 .ret)
 .skip))
 (.seq (sr [mk 5 0]
 (.block 0 (.loop (.seq (sr [mv 11 5,mv 12 0,le 13 12,cL 14 11 13]
 (.cond (tZ 14) .skip
 (.exit 0)))
 (.seq (.block 1 (.seq (.region true [mv 17 0,mv 18 5,ix 19 8 17 18,lw 20 8 19,mv 21 1,mv 22 5,ix 23 8 21 22,lw 24 8 23,ca2 25 43 20 24,no 26 25])
 (.cond (tZ 26) (sr [mfZ 4]
 .ret)
 .skip)))
 (rf [mv 15 5,aDk 16 15 1,mv 5 16]))))))
 (sr [mtZ 4]
 .ret))))⟩
theorem chSameOps:cFn Tryz.prog Tryz.f27=some ahSameOps:=by kernel_rfl
def ahSameOp:AFn:=⟨59,[(4,none)],(sr [bo 2 0,bo 3 1,mfZ 4]
 (.seq (sr [fa 6 0 2,lo 7 6,fa 8 0 3,lo 9 8,cN 10 7 9,mv 11 10,gff 12 11 1 2,gfl 13 11 12,gff 14 11 1 3,gfl 15 11 14,gZ 16 11 false (.bin .neq .num (tZ 13) (tZ 15)),pk1 17 11 16,mv 18 17,gff 19 18 2 2,gZ 20 18 false (.load (some 4) (tZ 19)),gff 21 18 2 3,gZ 22 18 false (.load (some 4) (tZ 21)),gZ 23 18 false (.bin .neq (.flat [.int,.int,.bool,.int]) (tZ 20) (tZ 22)),pk1 24 18 23,mv 25 24,gff 26 25 7 2,gfl 27 25 26,gff 28 25 7 3,gfl 29 25 28,gZ 30 25 false (.bin .neq .bool (tZ 27) (tZ 29)),pk1 31 25 30,mv 32 31,gff 33 32 6 2,gfl 34 32 33,gZ 35 32 false (.lenSl (tZ 34)),gff 36 32 6 3,gfl 37 32 36,gZ 38 32 false (.lenSl (tZ 37)),gZ 39 32 false (.bin .neq .num (tZ 35) (tZ 38)),pk1 40 32 39]
 (.cond (tZ 40) (sr [mfZ 4]
 .ret)
 .skip))
 (.seq (sr [mk 5 0]
 (.block 0 (.loop (.seq (sr [mv 41 5,fa 42 6 2,lo 43 42,le 44 43,cL 45 41 44]
 (.cond (tZ 45) .skip
 (.exit 0)))
 (.seq (.block 1 (.seq (.region true [fa 48 6 2,lo 49 48,mv 50 5,ix 51 5 49 50,lw 52 5 51,fa 53 6 3,lo 54 53,mv 55 5,ix 56 5 54 55,lw 57 5 56,oZ 58 (.bin .neq (.flat [.int,.int,.bool,.int,.bool]) (tZ 52) (tZ 57))])
 (.cond (tZ 58) (sr [mfZ 4]
 .ret)
 .skip)))
 (rf [mv 46 5,aDk 47 46 1,mv 5 47]))))))
 (sr [mtZ 4]
 .ret))))⟩
theorem chSameOp:cFn Tryz.prog Tryz.f43=some ahSameOp:=by kernel_rfl
def ahOp1:AFn:=⟨18,[(6,none)],(sr [mnZ 6]
 (sr [mv 8 1,oZ 9 (.build [(.int .i64 0),(.int .i64 0),(.bool false),(.int .i64 0)] [(0,1,tZ 8),(1,1,kZ 1)]),oZ 10 (.build [(.int .i64 0),(.int .i64 0),(.bool false),(.int .i64 0),(.bool false)] [(0,4,tZ 9),(4,1,bZ true)]),oZ 11 (.mkSl 5 1 [(.int .i64 0),(.int .i64 0),(.bool false),(.int .i64 0),(.bool false)] [(0,tZ 10)]),mv 7 11]
 (sr [mv 12 0,mv 13 2,oZ 14 (.build [(.int .i64 0),(.int .i64 0),(.bool false),(.int .i64 0)] [(0,1,tZ 13),(1,1,kZ 1)]),mv 15 7,oZ 16 (.build [(.int .i64 0),(.int .i64 0),(.int .i64 0),(.int .i64 0),(.bool false),(.int .i64 0),.nilSl,(.bool false)] [(0,1,kZ 3),(1,1,tZ 12),(2,4,tZ 14),(6,1,tZ 15)]),oZ 17 (.mkSl 8 1 [(.int .i64 0),(.int .i64 0),(.int .i64 0),(.int .i64 0),(.bool false),(.int .i64 0),.nilSl,(.bool false)] [(0,tZ 16)]),mv 6 17]
 .ret)))⟩
theorem chOp1:cFn Tryz.prog Tryz.f41=some ahOp1:=by kernel_rfl
def ahOp2:AFn:=⟨9,[(4,(some (some 8)))],(sr [oZ 4 (.alloc [(.int .i64 0),(.int .i64 0),(.int .i64 0),(.int .i64 0),(.bool false),(.int .i64 0),.nilSl,(.bool false)])]
 (sr [mv 5 0,mv 6 1,oZ 7 (.build [(.int .i64 0),(.int .i64 0),(.bool false),(.int .i64 0)] [(0,1,tZ 6),(1,1,kZ 1),(3,1,kZ 1)]),oZ 8 (.build [(.int .i64 0),(.int .i64 0),(.int .i64 0),(.int .i64 0),(.bool false),(.int .i64 0),.nilSl,(.bool false)] [(0,1,kZ 3),(1,1,tZ 5),(2,4,tZ 7)]),so 8 4 8]
 .ret))⟩
theorem chOp2:cFn Tryz.prog Tryz.f42=some ahOp2:=by kernel_rfl
end Go.Known
end
section
namespace Go.AE
open Go.RowKit
def onlyG (get:Nat→Option ABlk) (S:List Nat) (b:Nat):Option ABlk:=bif memN b S then get b else none
def fzV (get:Nat→Option ABlk) (S:List Nat) (x:AVal):AVal:=
 match freezeV (onlyG get S) 5 x with
 | some y=>y
 | none=>x
theorem freezeS {W:Base} {Φ:Pers} {ρ:Rho} {m:Mem} {w:World} (S:List Nat) (hr:Rel W Φ ρ m w):∃ Φs:Pers,Ext Φ ρ Φs ρ∧(∀ B c,Φs B=some c → ∃ e fz,w.heap[B]? = some (.cells c e fz)) ∧
 (∀ B c,Φs B=some c→W.p B=some c∨W.Free B)∧(∀ b x l,m.get b=some x→ρ b=some l→memN b S=false→Φs l.blk=none) ∧ ∀ x v,R Φ ρ x v→R Φs ρ (fzV m.get S x) v:=by
 have hlv:∀ B,(∃ b l y,memN b S=true∧m.get b=some y∧ρ b=some l∧l.blk=B)→Φ B=none∧W.Free B:=by
  rintro B ⟨b,l,y,_,h1,h2,rfl⟩
  obtain⟨l',o,g1,g2,g3,_⟩:=hr.live b y h1
  grind
 obtain⟨Φs,hy,hn⟩:∃ Φs:Pers,(∀ B,(∃ b l y,memN b S=true∧m.get b=some y∧ρ b=some l∧l.blk=B)→Φs B=match w.heap[B]? with|some (.cells c _ _)=>some c|_=>none) ∧
  ∀ B,¬(∃ b l y,memN b S=true∧m.get b=some y∧ρ b=some l∧l.blk=B)→Φs B=Φ B:=
  ⟨fun B=>@ite _ (∃ b l y,memN b S=true∧m.get b=some y∧ρ b=some l∧l.blk=B) (Classical.propDecidable _) (match w.heap[B]? with|some (.cells c _ _)=>some c|_=>none) (Φ B),
   fun B hL=>by simp_all,fun B hL=>by grind⟩
 have hE:Ext Φ ρ Φs ρ:=⟨fun B c hB=>by
  grind,fun b l h=>h⟩
 refine⟨Φs,hE,fun B c hB=>?_,fun B c hB=>?_,fun b x l hx hl hS=>?_,fun x v hR=>?_⟩
 ·by_cases hL:∃ b l y,memN b S=true∧m.get b=some y∧ρ b=some l∧l.blk=B
  ·grind
  ·rw[hn B hL]at hB
   exact hr.pers B c hB
 ·by_cases hL:∃ b l y,memN b S=true∧m.get b=some y∧ρ b=some l∧l.blk=B
  ·grind
  ·rw[hn B hL]at hB
   exact hr.newp B c hB
 ·have hL:¬ ∃ b' l' y,memN b' S=true∧m.get b'=some y∧ρ b'=some l'∧l'.blk=l.blk:=by
   rintro⟨b',l',y,h1,h2,h3,h4⟩
   have:=hr.inj b' b y x l' l h2 hx h3 hl h4
   subst this
   rw[h1]at hS; cases hS
  rw[hn _ hL]
  obtain⟨l',o,g1,g2,g3,_⟩:=hr.live b x hx
  grind
 ·have hrS:Rel W Φ ρ ⟨onlyG m.get S,m.next⟩ w:=hr.sub ⟨fun b x hx=>by
   unfold onlyG at hx
   grind,Nat.le_refl _⟩
  unfold fzV
  cases hz:freezeV (onlyG m.get S) 5 x with
  | none=>exact hR.ext hE
  | some y=>
   refine freeze_R (m:=⟨onlyG m.get S,m.next⟩) hrS hE (fun b l k els c e fz hg hl hw=>?_) 5 x y v hz hR
   unfold onlyG at hg
   grind
def fzLL (get:Nat→Option ABlk) (S:List Nat) (els:List (List AVal)):List (List AVal):=els.map (List.map (fzV get S))
theorem BR.fz {Φ Φs:Pers} {ρ:Rho} {get:Nat→Option ABlk} {S:List Nat} (hf:∀ x v,R Φ ρ x v→R Φs ρ (fzV get S x) v) {k:Nat} {els:List (List AVal)} {l:Loc} {o:Obj} (h:BR Φ ρ (.cells k els) l o):BR Φs ρ (.cells k (fzLL get S els)) l o:=by
 cases h with
 | cells _ _ _ c e hk hn hl hr h1=>
  have hget:∀ (i:Nat) (row:List AVal),(fzLL get S els)[i]? = some row → ∃ row0,els[i]? = some row0∧row=row0.map (fzV get S):=by
   intro i row hi
   rw[fzLL,List.getElem?_map]at hi
   grind
  refine .cells k _ l c e hk hn (by rw[fzLL,List.length_map]; exact hl) ⟨fun i row hi=>?_,fun i row j x hi hj=>?_⟩ h1
  ·obtain⟨r0,g1,rfl⟩:=hget i row hi
   rw[List.length_map]; exact hr.1 i r0 g1
  ·obtain⟨r0,g1,rfl⟩:=hget i row hi
   rw[List.getElem?_map]at hj
   cases h0:r0[j]? with
   | none=>grind
   | some x0=>
    rw[h0]at hj; injection hj with hj; subst hj
    obtain⟨v,k1,k2,k3⟩:=hr.2 i r0 j x0 g1 h0
    grind
def SubFB (q:Nat→Nat) (S:List Nat):List (Nat×ABlk)→SMem→Prop
 | [],_=>True
 | (b,x) :: r,m=>(memN (q b) S=false∧(m.get (q b)=some (x.ren q) ∨ ∃ k els,m.get (q b)=some (.cells k els)∧x.ren q=.cells k (fzLL m.get S els)))∧SubFB q S r m
theorem SubFB.get {q:Nat→Nat} {S:List Nat}:∀ {l:List (Nat×ABlk)} {m:SMem},SubFB q S l m → ∀ b x,lookB l b=some x→memN (q b) S=false ∧ ∃ y,m.get (q b)=some y∧(x.ren q=y ∨ ∃ k els,y=.cells k els∧x.ren q=.cells k (fzLL m.get S els))
 | [],m,_,b,x,h=>by simp[lookB]at h
 | (c,y) :: r,m,hs,b,x,h=>by
  simp only[lookB]at h
  split at h
  ·rename_i hb; subst hb; injection h with h; subst h
   refine⟨hs.1.1,?_⟩
   rcases hs.1.2 with h1|⟨k,els,h1,h2⟩
   ·exact⟨_,h1,.inl rfl⟩
   grind
  ·exact hs.2.get b x h
def SubF (n0:Nat) (l:List (Nat×Nat)) (S:List Nat) (e0:Env) (m0:SMem) (e:Env) (m:SMem):Prop:=
 n0≤m0.next∧n0≤m.next∧SubRE (qOf l n0 m0.next m.next) e0 e∧SubFB (qOf l n0 m0.next m.next) S m0.bl m∧InjK (qOf l n0 m0.next m.next) m0.bl
theorem SubF.wk {n0 n:Nat} {l:List (Nat×Nat)} {S:List Nat} {e0 e:Env} {m0 m:SMem} (h:SubF n0 l S e0 m0 e m):WkR n n0 e0 m0 e m:=by
 obtain⟨hn0,hn,he,hm,hi⟩:=h
 refine⟨hn0,fun W Φ ρ vs w hr ht=>?_⟩
 obtain⟨Φs,hE,f1,f2,f3,f4⟩:=freezeS S hr
 refine⟨Φs,fun b=>ρ (qOf l n0 m0.next m.next b),hE.pers,fun b hb=>by simp only[qOf,if_pos hb],⟨hr.base,f1,fun b x hx=>?_,fun b b' x x' l l' h1 h2 h3 h4 h5=>?_,fun b l' hb=>qOf_lt (hr.fresh _ _ hb) hn0,f2⟩,?_⟩
 ·obtain⟨hS,y,hy,hs⟩:=hm.get b x hx
  obtain⟨l',o,g1,g2,g3,g4,g5⟩:=hr.live _ y hy
  refine⟨l',o,g1,g2,f3 _ y l' hy g1 hS,g4,?_⟩
  refine BR.unren (q:=qOf l n0 m0.next m.next) (ρ:=ρ) (fun _ _ hb=>hb) ?_
  rcases hs with rfl|⟨k,els,rfl,h2⟩
  ·exact g5.ext hE
  ·rw[h2]
   exact g5.fz f4
 ·obtain⟨_,y,hy,_⟩:=hm.get b x h1
  obtain⟨_,y',hy',_⟩:=hm.get b' x' h2
  exact hi.get b b' x x' h1 h2 (hr.inj _ _ y y' l l' hy hy' h3 h4 h5)
 ·refine⟨by rw[ht.1,toE_length,toE_length],fun i x v hx hv=>?_⟩
  have hin:i<n:=by
   have:=(List.getElem?_eq_some_iff.1 hx).1
   rwa[toE_length]at this
  rw[toE_get hin]at hx
  injection hx with hx
  subst hx
  rcases he.get i with h1|h1
  ·rw[h1]; exact .bot v
  ·have hR:=ht.2 i (e.get i) v (toE_get hin) hv
   rw[h1]at hR
   exact(hR.unren (ρ':=fun b=>ρ (qOf l n0 m0.next m.next b)) (q:=qOf l n0 m0.next m.next) (fun _ _ hb=>hb) _ rfl).ext ⟨hE.pers,fun _ _ h=>h⟩
theorem freezeV_closed {get:Nat→Option ABlk}:∀ (n:Nat) (x y:AVal),x.closed=true→freezeV get n x=some y→y=x:=by
 intro n
 induction n with
 | zero=>intro x y _ h; simp[freezeV]at h
 | succ n ih=>
  have hL:∀ (l:List AVal) (ds:List AVal),closedL l=true→mapO (freezeV get n) l=some ds→ds=l:=by
   intro l
   induction l with
   | nil=>intro ds _ h; simp only[mapO,Option.some.injEq]at h; exact h.symm
   | cons a r ihr=>
    intro ds hc h
    simp only[closedL,Bool.and_eq_true]at hc
    simp only[mapO]at h
    grind
  have hLL:∀ (l ds:List (List AVal)),closedLL l=true→mapO (mapO (freezeV get n)) l=some ds→ds=l:=by
   intro l
   induction l with
   | nil=>intro ds _ h; simp only[mapO,Option.some.injEq]at h; exact h.symm
   | cons a r ihr=>
    intro ds hc h
    simp only[closedLL,Bool.and_eq_true]at hc
    simp only[mapO]at h
    grind
  intro x y hc h
  cases x<;>simp only[freezeV]at h<;>first|(simp only[Option.some.injEq]at h; exact h.symm)|(cases h; done)|(cases hc; done)|skip
  ·rename_i els
   cases hm:mapO (mapO (freezeV get n)) els with
   | none=>simp[hm]at h
   | some ds=>simp only[hm,Option.some.injEq]at h; subst h; rw[hLL els ds hc hm]
  ·rename_i cs
   cases hm:mapO (freezeV get n) cs with
   | none=>simp[hm]at h
   | some ds=>simp only[hm,Option.some.injEq]at h; subst h; rw[hL cs ds hc hm]
  ·rename_i cs
   cases hm:mapO (freezeV get n) cs with
   | none=>simp[hm]at h
   | some ds=>simp only[hm,Option.some.injEq]at h; subst h; rw[hL cs ds hc hm]
theorem fzV_closed {get:Nat→Option ABlk} {S:List Nat} {x:AVal} (h:x.closed=true):fzV get S x=x:=by
 unfold fzV
 cases hz:freezeV (onlyG get S) 5 x with
 | none=>rfl
 | some y=>exact freezeV_closed 5 x y h hz
theorem fzL_closed {get:Nat→Option ABlk} {S:List Nat}:∀ {l:List AVal},closedL l=true→l.map (fzV get S)=l
 | [],_=>rfl
 | x :: r,h=>by
  simp only[closedL,Bool.and_eq_true]at h
  rw[List.map_cons,fzV_closed h.1,fzL_closed h.2]
theorem fzLL_closed {get:Nat→Option ABlk} {S:List Nat}:∀ {l:List (List AVal)},closedLL l=true→fzLL get S l=l
 | [],_=>rfl
 | x :: r,h=>by
  simp only[closedLL,Bool.and_eq_true]at h
  have:=fzLL_closed (get:=get) (S:=S) h.2
  unfold fzLL at this ⊢
  rw[List.map_cons,fzL_closed h.1,this]
theorem fzLL_append {get:Nat→Option ABlk} {S:List Nat} (a b:List (List AVal)):fzLL get S (a++b)=fzLL get S a++fzLL get S b:=by simp[fzLL]
theorem mapO_closed {get:Nat→Option ABlk} {n:Nat}:∀ {l:List (List AVal)},(∀ row,row∈l → ∀ x,x∈row→freezeV get n x=some x)→mapO (mapO (freezeV get n)) l=some l
 | [],_=>rfl
 | a :: r,h=>by
  have h1:mapO (freezeV get n) a=some a:=by
   have ha:=h a (List.mem_cons_self ..)
   clear h
   induction a with
   | nil=>rfl
   | cons x t ih=>
    simp only[mapO]
    grind
  simp only[mapO]
  rw[h1,mapO_closed fun row hr=>h row (List.mem_cons_of_mem _ hr)]
theorem fzV_sl {get:Nat→Option ABlk} {S:List Nat} {b k len:Nat} {els:List (List AVal)} (hb:memN b S=true) (hg:get b=some (.cells k els)) (hl:els.length=len) (hs:∀ row,row∈els → ∀ x,x∈row→freezeV (onlyG get S) 4 x=some x):fzV get S (.sl b 0 len)=.imm els:=by
 have h:onlyG get S b=some (.cells k els):=by unfold onlyG; rw[hb]; exact hg
 subst hl
 have h1:Nat.ble (0+els.length) els.length=true:=by simp
 unfold fzV
 rw[freezeV]
 simp only[h,h1,cond_true,List.drop_zero,List.take_length,mapO_closed hs]
end Go.AE
end
