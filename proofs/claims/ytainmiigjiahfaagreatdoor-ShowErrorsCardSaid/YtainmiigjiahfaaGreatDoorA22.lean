/-
  Part 22 of the proof: Kf1.
-/
import Derived.Test.YtainmiigjiahfaaGreatDoorA21
import Derived.Test.YtainmiigjiahfaaGreatDoorProg
set_option linter.all false
set_option linter.unusedSimpArgs false
set_option linter.unusedVariables false

/- Kf1: The code of the program's functions, resolved (printed by a program). -/
section
namespace Go.Known
open Go Go.AE Go.Proofs

def af100 : AFn := ⟨81, [(4, none)], (.seq (.region false [oZ 4 (.mov (kZ 0))])
 (.seq (.region true [oZ 9 (.mov (tZ 0)), oZ 10 (.nilChk (tZ 9)), oZ 11 (.fieldA 0 (tZ 10)), oZ 12 (.load none (tZ 11)), oZ 13 (.mov (tZ 0)), oZ 14 (.mov (tZ 0)), oZ 15 (.nilChk (tZ 14)), oZ 16 (.fieldA 2 (tZ 15)), oZ 17 (.load none (tZ 16)), oZ 18 (.mov (tZ 1)), oZ 19 (.idxA 1 (tZ 17) (tZ 18)), oZ 20 (.load none (tZ 19)), ⟨(some 21), .call (.fn 99) [(tZ 13), (tZ 20)], none, [3]⟩, oZ 22 (.idxA 6 (tZ 12) (tZ 21)), oZ 23 (.fieldA 3 (tZ 22)), oZ 24 (.load none (tZ 23)), oZ 5 (.mov (tZ 24))])
 (.seq (.region false [oZ 6 (.mov (kZ 1))])
 (.seq (.block 0 (.loop (.seq (.seq (.region false [oZ 25 (.mov (tZ 1)), oZ 26 (.mov (tZ 6)), oZ 27 (.bin .add .num (tZ 25) (tZ 26)), oZ 28 (.mov (tZ 0)), oZ 29 (.nilChk (tZ 28)), oZ 30 (.fieldA 2 (tZ 29)), oZ 31 (.load none (tZ 30)), oZ 32 (.lenSl (tZ 31)), oZ 33 (.bin .lss .num (tZ 27) (tZ 32))])
 (.cond (tZ 33) .skip
 (.exit 0)))
 (.block 1 (.seq (.region false [oZ 34 (.mov (tZ 0)), oZ 35 (.nilChk (tZ 34)), oZ 36 (.fieldA 2 (tZ 35)), oZ 37 (.load none (tZ 36)), oZ 38 (.mov (tZ 1)), oZ 39 (.mov (tZ 6)), oZ 40 (.bin .add .num (tZ 38) (tZ 39)), oZ 41 (.idxA 1 (tZ 37) (tZ 40)), oZ 42 (.load none (tZ 41)), oZ 7 (.mov (tZ 42))])
 (.seq (.region true [oZ 43 (.mov (tZ 0)), oZ 44 (.nilChk (tZ 43)), oZ 45 (.fieldA 0 (tZ 44)), oZ 46 (.load none (tZ 45)), oZ 47 (.mov (tZ 0)), oZ 48 (.mov (tZ 7)), ⟨(some 49), .call (.fn 99) [(tZ 47), (tZ 48)], none, [3]⟩, oZ 50 (.idxA 6 (tZ 46) (tZ 49)), oZ 51 (.load (some 6) (tZ 50)), ⟨(some 8), .alloc [(.int .i64 0), (.int .i64 0), (.int .i64 0), (.int .i64 0), (.int .i64 0), (.bool false)], none, [3, 6, 7, 8]⟩, pZ (.store 6 (tZ 8) (tZ 51))])
 (.seq (.seq (.region true [oZ 52 (.fieldA 0 (tZ 8)), oZ 53 (.load none (tZ 52)), oZ 54 (.bin .neq .num (tZ 53) (kZ 2)), oZ 55 (.mov (tZ 54)), gZ 56 55 false (.fieldA 3 (tZ 8)), gZ 57 55 false (.load none (tZ 56)), gZ 58 55 false (.mov (tZ 5)), gZ 59 55 false (.bin .neq .num (tZ 57) (tZ 58)), oZ 60 (.pick (tZ 55) (bZ true) (tZ 59)), oZ 61 (.mov (tZ 60)), gZ 62 61 false (.mov (tZ 0)), gZ 63 61 false (.mov (tZ 7)), gZ 64 61 false (.call (.fn 101) [(tZ 62), (tZ 63)]), gZ 65 61 false (.mov (tZ 0)), gZ 66 61 false (.nilChk (tZ 65)), gZ 67 61 false (.fieldA 2 (tZ 66)), ⟨(some 68), .load none (tZ 67), (some (61, false)), [12]⟩, gZ 69 61 false (.mov (tZ 1)), gZ 70 61 false (.mov (tZ 6)), gZ 71 61 false (.bin .add .num (tZ 69) (tZ 70)), gZ 72 61 false (.bin .sub .num (tZ 71) (kZ 1)), ⟨(some 73), .idxA 1 (tZ 68) (tZ 72), (some (61, false)), [12]⟩, ⟨(some 74), .load none (tZ 73), (some (61, false)), [12]⟩, gZ 75 61 false (.call (.fn 97) [(tZ 74)]), gZ 76 61 false (.bin .neq .num (tZ 64) (tZ 75)), oZ 77 (.pick (tZ 61) (bZ true) (tZ 76))])
 (.cond (tZ 77) (.exit 0)
 .skip))
 (.region false [oZ 78 (.mov (tZ 6)), oZ 79 (.bin .add .num (tZ 78) (kZ 1)), oZ 6 (.mov (tZ 79))]))))))))
 (.seq (.region false [oZ 80 (.mov (tZ 6)), oZ 4 (.mov (tZ 80))])
 .ret)))))⟩
theorem cf100 : cFn Tryz.prog Tryz.f100 = some af100 := by kernel_rfl
theorem gd100 : Go.AE.Good Tryz.prog (100, af100) := ⟨⟨_, Tryz.func100, cf100⟩, by kernel_rfl, by kernel_rfl, by kernel_rfl⟩
def af101 : AFn := ⟨53, [(4, none)], (.seq (.region false [oZ 4 (.mov (kZ 0))])
 (.seq (.region false [oZ 8 (.mov (tZ 0)), oZ 9 (.mov (tZ 1)), oZ 10 (.call (.fn 99) [(tZ 8), (tZ 9)]), oZ 5 (.mov (tZ 10))])
 (.seq (.region false [oZ 11 (.mov (tZ 0)), oZ 12 (.nilChk (tZ 11)), oZ 13 (.fieldA 0 (tZ 12)), oZ 14 (.load none (tZ 13)), oZ 15 (.mov (tZ 5)), oZ 16 (.idxA 6 (tZ 14) (tZ 15)), oZ 17 (.load (some 6) (tZ 16)), oZ 6 (.alloc [(.int .i64 0), (.int .i64 0), (.int .i64 0), (.int .i64 0), (.int .i64 0), (.bool false)]), pZ (.store 6 (tZ 6) (tZ 17))])
 (.seq (.region false [oZ 18 (.mov (tZ 0)), oZ 19 (.nilChk (tZ 18)), oZ 20 (.fieldA 1 (tZ 19)), oZ 21 (.load none (tZ 20)), oZ 22 (.mov (tZ 5)), oZ 23 (.idxA 1 (tZ 21) (tZ 22)), oZ 24 (.load none (tZ 23)), oZ 7 (.mov (tZ 24))])
 (.seq (.seq (.region false [oZ 25 (.mov (tZ 1)), oZ 26 (.bin .rem .num (tZ 25) (kZ 2)), oZ 27 (.bin .eql .num (tZ 26) (kZ 0)), oZ 28 (.fieldA 5 (tZ 6)), oZ 29 (.load none (tZ 28)), oZ 30 (.fieldA 4 (tZ 6)), oZ 31 (.load none (tZ 30)), oZ 32 (.bin .eql .num (tZ 31) (kZ 1)), oZ 33 (.bin .eql .bool (tZ 29) (tZ 32)), oZ 34 (.bin .eql .bool (tZ 27) (tZ 33))])
 (.cond (tZ 34) (.seq (.region false [oZ 35 (.mov (tZ 7)), oZ 36 (.bin .mul .num (kZ 2) (tZ 35)), oZ 4 (.mov (tZ 36))])
 .ret)
 .skip))
 (.seq (.region true [oZ 37 (.mov (tZ 7)), oZ 38 (.bin .sub .num (tZ 37) (kZ 1)), oZ 39 (.mov (tZ 0)), oZ 40 (.nilChk (tZ 39)), oZ 41 (.fieldA 0 (tZ 40)), oZ 42 (.load none (tZ 41)), oZ 43 (.lenSl (tZ 42)), oZ 44 (.bin .add .num (tZ 38) (tZ 43)), oZ 45 (.mov (tZ 0)), oZ 46 (.nilChk (tZ 45)), oZ 47 (.fieldA 0 (tZ 46)), oZ 48 (.load none (tZ 47)), oZ 49 (.lenSl (tZ 48)), oZ 50 (.bin .rem .num (tZ 44) (tZ 49)), oZ 51 (.bin .mul .num (kZ 2) (tZ 50)), oZ 52 (.bin .add .num (tZ 51) (kZ 1)), oZ 4 (.mov (tZ 52))])
 .ret))))))⟩
theorem cf101 : cFn Tryz.prog Tryz.f101 = some af101 := by kernel_rfl
theorem gd101 : Go.AE.Good Tryz.prog (101, af101) := ⟨⟨_, Tryz.func101, cf101⟩, by kernel_rfl, by kernel_rfl, by kernel_rfl⟩
def af102 : AFn := ⟨224, [(8, none)], (.seq (.region false [oZ 8 (.mov (.const .nilSl))])
 (.seq (.region false [oZ 15 (.mov (tZ 0)), oZ 16 (.mov (tZ 1)), oZ 17 (.mov (tZ 2)), oZ 18 (.slSl 1 (tZ 15) (some (tZ 16)) (some (tZ 17)) none)])
 (.seq (.seq (.region false [oZ 19 (.mov (tZ 1)), oZ 20 (.mov (tZ 2)), oZ 21 (.bin .eql .num (tZ 19) (tZ 20))])
 (.cond (tZ 21) (.seq (.region false [oZ 22 (.mov (tZ 0)), oZ 23 (.mov (tZ 1)), oZ 24 (.mov (tZ 3)), oZ 25 (.call (.fn 127) [(tZ 22), (tZ 23), (tZ 24)]), oZ 8 (.mov (tZ 25))])
 .ret)
 .skip))
 (.seq (.seq (.region false [oZ 26 (.mov (tZ 2)), oZ 27 (.mov (tZ 0)), oZ 28 (.lenSl (tZ 27)), oZ 29 (.bin .eql .num (tZ 26) (tZ 28))])
 (.cond (tZ 29) (.seq (.region false [oZ 30 (.mov (tZ 0)), oZ 31 (.mov (tZ 1)), oZ 32 (.slSl 1 (tZ 30) none (some (tZ 31)) none), oZ 33 (.mov (tZ 3)), oZ 34 (.append 1 8 [(.int .i64 0)] (tZ 32) (tZ 33)), oZ 9 (.mov (tZ 34))])
 (.seq (.seq (.region false [oZ 35 (.mov (tZ 9)), oZ 36 (.lenSl (tZ 35)), oZ 37 (.mov (tZ 0)), oZ 38 (.lenSl (tZ 37)), oZ 39 (.bin .lss .num (tZ 36) (tZ 38))])
 (.cond (tZ 39) (.region false [oZ 40 (.mov (tZ 0)), oZ 41 (.mov (tZ 9)), oZ 42 (.lenSl (tZ 41)), oZ 43 (.slSl 1 (tZ 40) (some (tZ 42)) none none), pZ (.clear 1 [(.int .i64 0)] (tZ 43))])
 .skip))
 (.seq (.region false [oZ 44 (.mov (tZ 9)), oZ 8 (.mov (tZ 44))])
 .ret)))
 .skip))
 (.seq (.region true [oZ 45 (.mov (tZ 0)), oZ 46 (.mov (tZ 1)), oZ 47 (.slSl 1 (tZ 45) none (some (tZ 46)) none), oZ 48 (.lenSl (tZ 47)), oZ 49 (.mov (tZ 3)), oZ 50 (.lenSl (tZ 49)), oZ 51 (.bin .add .num (tZ 48) (tZ 50)), oZ 52 (.mov (tZ 0)), oZ 53 (.mov (tZ 2)), oZ 54 (.slSl 1 (tZ 52) (some (tZ 53)) none none), oZ 55 (.lenSl (tZ 54)), oZ 56 (.bin .add .num (tZ 51) (tZ 55)), oZ 10 (.mov (tZ 56))])
 (.seq (.seq (.region false [oZ 57 (.mov (tZ 10)), oZ 58 (.mov (tZ 0)), oZ 59 (.capSl (tZ 58)), oZ 60 (.bin .gtr .num (tZ 57) (tZ 59))])
 (.cond (tZ 60) (.seq (.region false [oZ 61 (.mov (tZ 0)), oZ 62 (.mov (tZ 1)), oZ 63 (.slSl 1 (tZ 61) none (some (tZ 62)) none), oZ 64 (.mov (tZ 10)), oZ 65 (.mov (tZ 1)), oZ 66 (.bin .sub .num (tZ 64) (tZ 65)), oZ 67 (.appendZ 1 8 [(.int .i64 0)] (tZ 63) (tZ 66)), oZ 11 (.mov (tZ 67))])
 (.seq (.region false [oZ 68 (.mov (tZ 11)), oZ 69 (.mov (tZ 1)), oZ 70 (.slSl 1 (tZ 68) (some (tZ 69)) none none), oZ 71 (.mov (tZ 3)), oZ 72 (.copy 1 (tZ 70) (tZ 71))])
 (.seq (.region true [oZ 73 (.mov (tZ 11)), oZ 74 (.mov (tZ 1)), oZ 75 (.mov (tZ 3)), oZ 76 (.lenSl (tZ 75)), oZ 77 (.bin .add .num (tZ 74) (tZ 76)), oZ 78 (.slSl 1 (tZ 73) (some (tZ 77)) none none), oZ 79 (.mov (tZ 0)), oZ 80 (.mov (tZ 2)), oZ 81 (.slSl 1 (tZ 79) (some (tZ 80)) none none), oZ 82 (.copy 1 (tZ 78) (tZ 81))])
 (.seq (.region false [oZ 83 (.mov (tZ 11)), oZ 8 (.mov (tZ 83))])
 .ret))))
 .skip))
 (.seq (.region false [oZ 84 (.mov (tZ 0)), oZ 85 (.mov (tZ 10)), oZ 86 (.slSl 1 (tZ 84) none (some (tZ 85)) none), oZ 12 (.mov (tZ 86))])
 (.seq (.seq (.region false [oZ 87 (.mov (tZ 1)), oZ 88 (.mov (tZ 3)), oZ 89 (.lenSl (tZ 88)), oZ 90 (.bin .add .num (tZ 87) (tZ 89)), oZ 91 (.mov (tZ 2)), oZ 92 (.bin .leq .num (tZ 90) (tZ 91))])
 (.cond (tZ 92) (.seq (.region false [oZ 93 (.mov (tZ 12)), oZ 94 (.mov (tZ 1)), oZ 95 (.slSl 1 (tZ 93) (some (tZ 94)) none none), oZ 96 (.mov (tZ 3)), oZ 97 (.copy 1 (tZ 95) (tZ 96))])
 (.seq (.region true [oZ 98 (.mov (tZ 12)), oZ 99 (.mov (tZ 1)), oZ 100 (.mov (tZ 3)), oZ 101 (.lenSl (tZ 100)), oZ 102 (.bin .add .num (tZ 99) (tZ 101)), oZ 103 (.slSl 1 (tZ 98) (some (tZ 102)) none none), oZ 104 (.mov (tZ 0)), oZ 105 (.mov (tZ 2)), oZ 106 (.slSl 1 (tZ 104) (some (tZ 105)) none none), oZ 107 (.copy 1 (tZ 103) (tZ 106))])
 (.seq (.region false [oZ 108 (.mov (tZ 0)), oZ 109 (.mov (tZ 10)), oZ 110 (.slSl 1 (tZ 108) (some (tZ 109)) none none), pZ (.clear 1 [(.int .i64 0)] (tZ 110))])
 (.seq (.region false [oZ 111 (.mov (tZ 12)), oZ 8 (.mov (tZ 111))])
 .ret))))
 .skip))
 (.seq (.seq (.region false [oZ 112 (.mov (tZ 12)), oZ 113 (.mov (tZ 1)), oZ 114 (.mov (tZ 3)), oZ 115 (.lenSl (tZ 114)), oZ 116 (.bin .add .num (tZ 113) (tZ 115)), oZ 117 (.slSl 1 (tZ 112) (some (tZ 116)) none none), oZ 118 (.mov (tZ 3)), oZ 119 (.call (.fn 128) [(tZ 117), (tZ 118)]), oZ 120 (.un .not (tZ 119))])
 (.cond (tZ 120) (.seq (.region true [oZ 121 (.mov (tZ 12)), oZ 122 (.mov (tZ 1)), oZ 123 (.mov (tZ 3)), oZ 124 (.lenSl (tZ 123)), oZ 125 (.bin .add .num (tZ 122) (tZ 124)), oZ 126 (.slSl 1 (tZ 121) (some (tZ 125)) none none), oZ 127 (.mov (tZ 0)), oZ 128 (.mov (tZ 2)), oZ 129 (.slSl 1 (tZ 127) (some (tZ 128)) none none), oZ 130 (.copy 1 (tZ 126) (tZ 129))])
 (.seq (.region false [oZ 131 (.mov (tZ 12)), oZ 132 (.mov (tZ 1)), oZ 133 (.slSl 1 (tZ 131) (some (tZ 132)) none none), oZ 134 (.mov (tZ 3)), oZ 135 (.copy 1 (tZ 133) (tZ 134))])
 (.seq (.region false [oZ 136 (.mov (tZ 12)), oZ 8 (.mov (tZ 136))])
 .ret)))
 .skip))
 (.seq (.region false [oZ 137 (.mov (tZ 3)), oZ 138 (.lenSl (tZ 137)), oZ 139 (.mov (tZ 2)), oZ 140 (.mov (tZ 1)), oZ 141 (.bin .sub .num (tZ 139) (tZ 140)), oZ 142 (.bin .sub .num (tZ 138) (tZ 141)), oZ 13 (.mov (tZ 142))])
 (.seq (.seq (.region false [oZ 143 (.mov (tZ 12)), oZ 144 (.mov (tZ 1)), oZ 145 (.mov (tZ 2)), oZ 146 (.slSl 1 (tZ 143) (some (tZ 144)) (some (tZ 145)) none), oZ 147 (.mov (tZ 3)), oZ 148 (.call (.fn 128) [(tZ 146), (tZ 147)]), oZ 149 (.un .not (tZ 148))])
 (.cond (tZ 149) (.seq (.region true [oZ 150 (.mov (tZ 12)), oZ 151 (.mov (tZ 1)), oZ 152 (.mov (tZ 2)), oZ 153 (.slSl 1 (tZ 150) (some (tZ 151)) (some (tZ 152)) none), oZ 154 (.mov (tZ 3)), oZ 155 (.mov (tZ 13)), oZ 156 (.slSl 1 (tZ 154) (some (tZ 155)) none none), oZ 157 (.copy 1 (tZ 153) (tZ 156))])
 (.seq (.region true [oZ 158 (.mov (tZ 12)), oZ 159 (.mov (tZ 0)), oZ 160 (.lenSl (tZ 159)), oZ 161 (.slSl 1 (tZ 158) (some (tZ 160)) none none), oZ 162 (.mov (tZ 3)), oZ 163 (.mov (tZ 13)), oZ 164 (.slSl 1 (tZ 162) none (some (tZ 163)) none), oZ 165 (.copy 1 (tZ 161) (tZ 164))])
 (.seq (.region false [oZ 166 (.mov (tZ 12)), oZ 167 (.mov (tZ 1)), oZ 168 (.slSl 1 (tZ 166) (some (tZ 167)) none none), oZ 169 (.mov (tZ 13)), oZ 170 (.call (.fn 129) [(tZ 168), (tZ 169)])])
 (.seq (.region false [oZ 171 (.mov (tZ 12)), oZ 8 (.mov (tZ 171))])
 .ret))))
 .skip))
 (.seq (.seq (.region false [oZ 172 (.mov (tZ 12)), oZ 173 (.mov (tZ 0)), oZ 174 (.lenSl (tZ 173)), oZ 175 (.slSl 1 (tZ 172) (some (tZ 174)) none none), oZ 176 (.mov (tZ 3)), oZ 177 (.call (.fn 128) [(tZ 175), (tZ 176)]), oZ 178 (.un .not (tZ 177))])
 (.cond (tZ 178) (.seq (.region true [oZ 179 (.mov (tZ 12)), oZ 180 (.mov (tZ 0)), oZ 181 (.lenSl (tZ 180)), oZ 182 (.slSl 1 (tZ 179) (some (tZ 181)) none none), oZ 183 (.mov (tZ 3)), oZ 184 (.mov (tZ 13)), oZ 185 (.slSl 1 (tZ 183) none (some (tZ 184)) none), oZ 186 (.copy 1 (tZ 182) (tZ 185))])
 (.seq (.region true [oZ 187 (.mov (tZ 12)), oZ 188 (.mov (tZ 1)), oZ 189 (.mov (tZ 2)), oZ 190 (.slSl 1 (tZ 187) (some (tZ 188)) (some (tZ 189)) none), oZ 191 (.mov (tZ 3)), oZ 192 (.mov (tZ 13)), oZ 193 (.slSl 1 (tZ 191) (some (tZ 192)) none none), oZ 194 (.copy 1 (tZ 190) (tZ 193))])
 (.seq (.region false [oZ 195 (.mov (tZ 12)), oZ 196 (.mov (tZ 1)), oZ 197 (.slSl 1 (tZ 195) (some (tZ 196)) none none), oZ 198 (.mov (tZ 13)), oZ 199 (.call (.fn 129) [(tZ 197), (tZ 198)])])
 (.seq (.region false [oZ 200 (.mov (tZ 12)), oZ 8 (.mov (tZ 200))])
 .ret))))
 .skip))
 (.seq (.region false [oZ 201 (.mov (tZ 3)), oZ 202 (.mov (tZ 0)), oZ 203 (.mov (tZ 2)), oZ 204 (.slSl 1 (tZ 202) (some (tZ 203)) none none), oZ 205 (.call (.fn 130) [(tZ 201), (tZ 204)]), oZ 14 (.mov (tZ 205))])
 (.seq (.region false [oZ 206 (.mov (tZ 12)), oZ 207 (.mov (tZ 1)), oZ 208 (.slSl 1 (tZ 206) (some (tZ 207)) none none), oZ 209 (.mov (tZ 3)), oZ 210 (.copy 1 (tZ 208) (tZ 209))])
 (.seq (.region true [oZ 211 (.mov (tZ 12)), oZ 212 (.mov (tZ 1)), oZ 213 (.mov (tZ 3)), oZ 214 (.lenSl (tZ 213)), oZ 215 (.bin .add .num (tZ 212) (tZ 214)), oZ 216 (.slSl 1 (tZ 211) (some (tZ 215)) none none), oZ 217 (.mov (tZ 12)), oZ 218 (.mov (tZ 1)), oZ 219 (.mov (tZ 14)), oZ 220 (.bin .add .num (tZ 218) (tZ 219)), oZ 221 (.slSl 1 (tZ 217) (some (tZ 220)) none none), oZ 222 (.copy 1 (tZ 216) (tZ 221))])
 (.seq (.region false [oZ 223 (.mov (tZ 12)), oZ 8 (.mov (tZ 223))])
 .ret))))))))))))))))⟩
theorem cf102 : cFn Tryz.prog Tryz.f102 = some af102 := by kernel_rfl
theorem gd102 : Go.AE.Good Tryz.prog (102, af102) := ⟨⟨_, Tryz.func102, cf102⟩, by kernel_rfl, by kernel_rfl, by kernel_rfl⟩
def af103 : AFn := ⟨20, [(2, none)], (.seq (.region false [⟨(some 1), .box (.tmp 0), none, []⟩, ⟨(some 2), .mov (.const (.int .i64 0)), none, []⟩])
 (.seq (.region false [⟨(some 3), .mov (.const (.int .i64 0)), none, []⟩])
 (.seq (.seq (.region false [⟨(some 6), .fieldA 1 (.tmp 1), none, []⟩, ⟨(some 7), .load none (.tmp 6), none, []⟩, ⟨(some 8), .lenSl (.tmp 7), none, []⟩, ⟨(some 9), .mov (.const (.int .i64 0)), none, []⟩])
 (.block 0 (.loop (.seq (.region false [⟨(some 10), .bin .lss .num (.tmp 9) (.tmp 8), none, []⟩])
 (.seq (.cond (.tmp 10) .skip
 (.exit 0))
 (.seq (.block 1 (.seq (.region false [⟨(some 11), .idxA 6 (.tmp 7) (.tmp 9), none, []⟩, ⟨(some 12), .load (some 6) (.tmp 11), none, []⟩, ⟨(some 5), .alloc [(.int .i64 0), (.int .i64 0), (.int .i64 0), (.int .i64 0), (.int .i64 0), (.bool false)], none, []⟩, ⟨none, .store 6 (.tmp 5) (.tmp 12), none, []⟩])
 (.seq (.region false [⟨(some 13), .fieldA 0 (.tmp 5), none, []⟩, ⟨(some 14), .load none (.tmp 13), none, []⟩, ⟨(some 15), .bin .eql .num (.tmp 14) (.const (.int .i64 2)), none, []⟩])
 (.cond (.tmp 15) (.region false [⟨(some 16), .mov (.tmp 3), none, []⟩, ⟨(some 17), .bin .add .num (.tmp 16) (.const (.int .i64 1)), none, []⟩, ⟨(some 3), .mov (.tmp 17), none, []⟩])
 .skip))))
 (.region false [⟨(some 18), .bin .add .num (.tmp 9) (.const (.int .i64 1)), none, []⟩, ⟨(some 9), .mov (.tmp 18), none, []⟩])))))))
 (.seq (.region false [⟨(some 19), .mov (.tmp 3), none, []⟩, ⟨(some 2), .mov (.tmp 19), none, []⟩])
 .ret))))⟩
theorem cf103 : cFn Tryz.prog Tryz.f103 = some af103 := by kernel_rfl
theorem gd103 : Go.AE.Good Tryz.prog (103, af103) := ⟨⟨_, Tryz.func103, cf103⟩, by kernel_rfl, by kernel_rfl, by kernel_rfl⟩
def af104 : AFn := ⟨32, [(2, none)], (.seq (.region false [⟨(some 2), .mov (.const (.bool false)), none, []⟩])
 (.seq (.seq (.region false [⟨(some 5), .mov (.tmp 0), none, []⟩, ⟨(some 6), .nilChk (.tmp 5), none, []⟩, ⟨(some 7), .fieldA 0 (.tmp 6), none, []⟩, ⟨(some 8), .fieldA 1 (.tmp 7), none, []⟩, ⟨(some 9), .load none (.tmp 8), none, []⟩, ⟨(some 10), .lenSl (.tmp 9), none, []⟩, ⟨(some 11), .bin .eql .num (.tmp 10) (.const (.int .i64 0)), none, []⟩])
 (.cond (.tmp 11) (.seq (.region false [⟨(some 2), .mov (.const (.bool true)), none, []⟩])
 .ret)
 .skip))
 (.seq (.seq (.region false [⟨(some 12), .mov (.tmp 0), none, []⟩, ⟨(some 13), .mkFunc (.func 131) [(.tmp 12)] [], none, []⟩, ⟨(some 14), .mov (.tmp 0), none, []⟩, ⟨(some 15), .mkFunc (.func 132) [(.tmp 14)] [], none, []⟩, ⟨(some 16), .mov (.tmp 0), none, []⟩, ⟨(some 17), .mkFunc (.func 133) [(.tmp 16)] [], none, []⟩, ⟨(some 18), .mov (.tmp 0), none, []⟩, ⟨(some 19), .mkFunc (.func 134) [(.tmp 18)] [], none, []⟩, ⟨(some 20), .mov (.tmp 0), none, []⟩, ⟨(some 21), .mkFunc (.func 135) [(.tmp 20)] [], none, []⟩, ⟨(some 22), .mkSl 1 5 [.nilFunc] [(0, (.tmp 13)), (1, (.tmp 15)), (2, (.tmp 17)), (3, (.tmp 19)), (4, (.tmp 21))], none, []⟩, ⟨(some 23), .lenSl (.tmp 22), none, []⟩, ⟨(some 24), .mov (.const (.int .i64 0)), none, []⟩])
 (.block 0 (.loop (.seq (.region false [⟨(some 25), .bin .lss .num (.tmp 24) (.tmp 23), none, []⟩])
 (.seq (.cond (.tmp 25) .skip
 (.exit 0))
 (.seq (.block 1 (.seq (.region false [⟨(some 26), .idxA 1 (.tmp 22) (.tmp 24), none, []⟩, ⟨(some 27), .load none (.tmp 26), none, []⟩, ⟨(some 4), .mov (.tmp 27), none, []⟩])
 (.seq (.region false [⟨(some 28), .mov (.tmp 4), none, []⟩, ⟨(some 29), .call (.tmp 28) [], none, []⟩, ⟨(some 30), .un .not (.tmp 29), none, []⟩])
 (.cond (.tmp 30) (.seq (.region false [⟨(some 2), .mov (.const (.bool false)), none, []⟩])
 .ret)
 .skip))))
 (.region false [⟨(some 31), .bin .add .num (.tmp 24) (.const (.int .i64 1)), none, []⟩, ⟨(some 24), .mov (.tmp 31), none, []⟩])))))))
 (.seq (.region false [⟨(some 2), .mov (.const (.bool true)), none, []⟩])
 .ret))))⟩
theorem cf104 : cFn Tryz.prog Tryz.f104 = some af104 := by kernel_rfl
theorem gd104 : Go.AE.Good Tryz.prog (104, af104) := ⟨⟨_, Tryz.func104, cf104⟩, by kernel_rfl, by kernel_rfl, by kernel_rfl⟩
def af105 : AFn := ⟨156, [(4, none)], (.seq (.region false [⟨(some 4), .mov (.const (.int .i64 0)), none, []⟩])
 (.seq (.region true [⟨(some 15), .mov (.tmp 0), none, []⟩, ⟨(some 16), .nilChk (.tmp 15), none, []⟩, ⟨(some 17), .fieldA 0 (.tmp 16), none, []⟩, ⟨(some 18), .fieldA 1 (.tmp 17), none, []⟩, ⟨(some 19), .load none (.tmp 18), none, []⟩, ⟨(some 20), .lenSl (.tmp 19), none, []⟩, ⟨(some 21), .mov (.tmp 0), none, []⟩, ⟨(some 22), .nilChk (.tmp 21), none, []⟩, ⟨(some 23), .fieldA 3 (.tmp 22), none, []⟩, ⟨(some 24), .load none (.tmp 23), none, []⟩, ⟨(some 25), .lenSl (.tmp 24), none, []⟩, ⟨(some 5), .mov (.tmp 20), none, []⟩, ⟨(some 6), .mov (.tmp 25), none, []⟩])
 (.seq (.seq (.region false [⟨(some 26), .mov (.tmp 1), none, []⟩, ⟨(some 27), .mov (.tmp 5), none, []⟩, ⟨(some 28), .bin .mul .num (.const (.int .i64 2)) (.tmp 27), none, []⟩, ⟨(some 29), .bin .geq .num (.tmp 26) (.tmp 28), none, []⟩])
 (.cond (.tmp 29) (.seq (.region false [⟨(some 30), .mov (.tmp 1), none, []⟩, ⟨(some 31), .mov (.tmp 5), none, []⟩, ⟨(some 32), .bin .mul .num (.const (.int .i64 2)) (.tmp 31), none, []⟩, ⟨(some 33), .bin .sub .num (.tmp 30) (.tmp 32), none, []⟩, ⟨(some 34), .bin .quo .num (.tmp 33) (.const (.int .i64 2)), none, []⟩, ⟨(some 7), .mov (.tmp 34), none, []⟩])
 (.seq (.region false [⟨(some 35), .mov (.tmp 1), none, []⟩, ⟨(some 36), .bin .rem .num (.tmp 35) (.const (.int .i64 2)), none, []⟩, ⟨(some 37), .bin .eql .num (.tmp 36) (.const (.int .i64 0)), none, []⟩, ⟨(some 8), .mov (.tmp 37), none, []⟩])
 (.seq (.region false [⟨(some 38), .mov (.tmp 0), none, []⟩, ⟨(some 39), .nilChk (.tmp 38), none, []⟩, ⟨(some 40), .fieldA 3 (.tmp 39), none, []⟩, ⟨(some 41), .load none (.tmp 40), none, []⟩, ⟨(some 42), .mov (.tmp 7), none, []⟩, ⟨(some 43), .idxA 1 (.tmp 41) (.tmp 42), none, []⟩, ⟨(some 44), .load none (.tmp 43), none, []⟩, ⟨(some 9), .mov (.tmp 44), none, []⟩])
 (.seq (.seq (.region false [⟨(some 45), .mov (.tmp 8), none, []⟩])
 (.cond (.tmp 45) (.region true [⟨(some 46), .mov (.tmp 0), none, []⟩, ⟨(some 47), .nilChk (.tmp 46), none, []⟩, ⟨(some 48), .fieldA 3 (.tmp 47), none, []⟩, ⟨(some 49), .load none (.tmp 48), none, []⟩, ⟨(some 50), .mov (.tmp 7), none, []⟩, ⟨(some 51), .bin .add .num (.tmp 50) (.const (.int .i64 1)), none, []⟩, ⟨(some 52), .mov (.tmp 6), none, []⟩, ⟨(some 53), .bin .rem .num (.tmp 51) (.tmp 52), none, []⟩, ⟨(some 54), .idxA 1 (.tmp 49) (.tmp 53), none, []⟩, ⟨(some 55), .load none (.tmp 54), none, []⟩, ⟨(some 9), .mov (.tmp 55), none, []⟩])
 .skip))
 (.seq (.seq (.region false [⟨(some 56), .mov (.tmp 8), none, []⟩, ⟨(some 57), .mov (.tmp 0), none, []⟩, ⟨(some 58), .nilChk (.tmp 57), none, []⟩, ⟨(some 59), .fieldA 2 (.tmp 58), none, []⟩, ⟨(some 60), .load none (.tmp 59), none, []⟩, ⟨(some 61), .mov (.tmp 9), none, []⟩, ⟨(some 62), .idxA 1 (.tmp 60) (.tmp 61), none, []⟩, ⟨(some 63), .load none (.tmp 62), none, []⟩, ⟨(some 64), .bin .eql .bool (.tmp 56) (.tmp 63), none, []⟩])
 (.cond (.tmp 64) (.seq (.region false [⟨(some 65), .mov (.tmp 0), none, []⟩, ⟨(some 66), .mov (.tmp 9), none, []⟩, ⟨(some 67), .call (.fn 136) [(.tmp 65), (.tmp 66)], none, []⟩, ⟨(some 4), .mov (.tmp 67), none, []⟩])
 .ret)
 .skip))
 (.seq (.region false [⟨(some 68), .mov (.tmp 0), none, []⟩, ⟨(some 69), .mov (.tmp 9), none, []⟩, ⟨(some 70), .call (.fn 137) [(.tmp 68), (.tmp 69)], none, []⟩, ⟨(some 4), .mov (.tmp 70), none, []⟩])
 .ret))))))
 .skip))
 (.seq (.region false [⟨(some 71), .mov (.tmp 1), none, []⟩, ⟨(some 72), .bin .rem .num (.tmp 71) (.const (.int .i64 2)), none, []⟩, ⟨(some 73), .bin .eql .num (.tmp 72) (.const (.int .i64 0)), none, []⟩, ⟨(some 10), .mov (.tmp 73), none, []⟩])
 (.seq (.region false [⟨(some 74), .mov (.tmp 1), none, []⟩, ⟨(some 75), .bin .quo .num (.tmp 74) (.const (.int .i64 2)), none, []⟩, ⟨(some 11), .mov (.tmp 75), none, []⟩])
 (.seq (.seq (.region false [⟨(some 76), .mov (.tmp 10), none, []⟩])
 (.cond (.tmp 76) (.region false [⟨(some 77), .mov (.tmp 11), none, []⟩, ⟨(some 78), .bin .add .num (.tmp 77) (.const (.int .i64 1)), none, []⟩, ⟨(some 79), .mov (.tmp 5), none, []⟩, ⟨(some 80), .bin .rem .num (.tmp 78) (.tmp 79), none, []⟩, ⟨(some 11), .mov (.tmp 80), none, []⟩])
 .skip))
 (.seq (.region false [⟨(some 81), .mov (.tmp 0), none, []⟩, ⟨(some 82), .nilChk (.tmp 81), none, []⟩, ⟨(some 83), .fieldA 0 (.tmp 82), none, []⟩, ⟨(some 84), .fieldA 1 (.tmp 83), none, []⟩, ⟨(some 85), .load none (.tmp 84), none, []⟩, ⟨(some 86), .mov (.tmp 11), none, []⟩, ⟨(some 87), .idxA 6 (.tmp 85) (.tmp 86), none, []⟩, ⟨(some 88), .load (some 6) (.tmp 87), none, []⟩, ⟨(some 12), .alloc [(.int .i64 0), (.int .i64 0), (.int .i64 0), (.int .i64 0), (.int .i64 0), (.bool false)], none, []⟩, ⟨none, .store 6 (.tmp 12) (.tmp 88), none, []⟩])
 (.seq (.seq (.region false [⟨(some 89), .fieldA 0 (.tmp 12), none, []⟩, ⟨(some 90), .load none (.tmp 89), none, []⟩, ⟨(some 91), .bin .eql .num (.tmp 90) (.const (.int .i64 1)), none, []⟩])
 (.cond (.tmp 91) (.seq (.seq (.region false [⟨(some 92), .mov (.tmp 10), none, []⟩, ⟨(some 93), .mov (.tmp 0), none, []⟩, ⟨(some 94), .nilChk (.tmp 93), none, []⟩, ⟨(some 95), .fieldA 2 (.tmp 94), none, []⟩, ⟨(some 96), .load none (.tmp 95), none, []⟩, ⟨(some 97), .mov (.tmp 11), none, []⟩, ⟨(some 98), .idxA 1 (.tmp 96) (.tmp 97), none, []⟩, ⟨(some 99), .load none (.tmp 98), none, []⟩, ⟨(some 100), .bin .eql .bool (.tmp 92) (.tmp 99), none, []⟩])
 (.cond (.tmp 100) (.seq (.region false [⟨(some 101), .mov (.tmp 5), none, []⟩, ⟨(some 102), .bin .mul .num (.const (.int .i64 2)) (.tmp 101), none, []⟩, ⟨(some 103), .mov (.tmp 0), none, []⟩, ⟨(some 104), .nilChk (.tmp 103), none, []⟩, ⟨(some 105), .fieldA 4 (.tmp 104), none, []⟩, ⟨(some 106), .load none (.tmp 105), none, []⟩, ⟨(some 107), .mov (.tmp 11), none, []⟩, ⟨(some 108), .idxA 1 (.tmp 106) (.tmp 107), none, []⟩, ⟨(some 109), .load none (.tmp 108), none, []⟩, ⟨(some 110), .bin .mul .num (.const (.int .i64 2)) (.tmp 109), none, []⟩, ⟨(some 111), .bin .add .num (.tmp 102) (.tmp 110), none, []⟩, ⟨(some 4), .mov (.tmp 111), none, []⟩])
 .ret)
 .skip))
 (.seq (.region false [⟨(some 112), .mov (.tmp 5), none, []⟩, ⟨(some 113), .bin .mul .num (.const (.int .i64 2)) (.tmp 112), none, []⟩, ⟨(some 114), .mov (.tmp 0), none, []⟩, ⟨(some 115), .nilChk (.tmp 114), none, []⟩, ⟨(some 116), .fieldA 4 (.tmp 115), none, []⟩, ⟨(some 117), .load none (.tmp 116), none, []⟩, ⟨(some 118), .mov (.tmp 11), none, []⟩, ⟨(some 119), .idxA 1 (.tmp 117) (.tmp 118), none, []⟩, ⟨(some 120), .load none (.tmp 119), none, []⟩, ⟨(some 121), .bin .sub .num (.tmp 120) (.const (.int .i64 1)), none, []⟩, ⟨(some 122), .mov (.tmp 6), none, []⟩, ⟨(some 123), .bin .add .num (.tmp 121) (.tmp 122), none, []⟩, ⟨(some 124), .mov (.tmp 6), none, []⟩, ⟨(some 125), .bin .rem .num (.tmp 123) (.tmp 124), none, []⟩, ⟨(some 126), .bin .mul .num (.const (.int .i64 2)) (.tmp 125), none, []⟩, ⟨(some 127), .bin .add .num (.tmp 113) (.tmp 126), none, []⟩, ⟨(some 128), .bin .add .num (.tmp 127) (.const (.int .i64 1)), none, []⟩, ⟨(some 4), .mov (.tmp 128), none, []⟩])
 .ret))
 .skip))
 (.seq (.region true [⟨(some 129), .mov (.tmp 0), none, []⟩, ⟨(some 130), .nilChk (.tmp 129), none, []⟩, ⟨(some 131), .fieldA 5 (.tmp 130), none, []⟩, ⟨(some 132), .load none (.tmp 131), none, []⟩, ⟨(some 133), .fieldA 3 (.tmp 12), none, []⟩, ⟨(some 134), .load none (.tmp 133), none, []⟩, ⟨(some 135), .lookup .int (.agg [(.int .i64 0), (.int .i64 0)]) false (.tmp 132) (.tmp 134), none, []⟩, ⟨(some 13), .alloc [(.int .i64 0), (.int .i64 0)], none, [3, 5, 6]⟩, ⟨none, .store 2 (.tmp 13) (.tmp 135), none, []⟩])
 (.seq (.region false [⟨(some 136), .idxAA 2 1 (.tmp 13) (.const (.int .i64 1)), none, []⟩, ⟨(some 137), .load none (.tmp 136), none, []⟩, ⟨(some 14), .mov (.tmp 137), none, []⟩])
 (.seq (.seq (.region false [⟨(some 138), .fieldA 5 (.tmp 12), none, []⟩, ⟨(some 139), .load none (.tmp 138), none, []⟩])
 (.cond (.tmp 139) (.region false [⟨(some 140), .idxAA 2 1 (.tmp 13) (.const (.int .i64 0)), none, []⟩, ⟨(some 141), .load none (.tmp 140), none, []⟩, ⟨(some 14), .mov (.tmp 141), none, []⟩])
 .skip))
 (.seq (.seq (.region false [⟨(some 142), .mov (.tmp 10), none, []⟩, ⟨(some 143), .fieldA 5 (.tmp 12), none, []⟩, ⟨(some 144), .load none (.tmp 143), none, []⟩, ⟨(some 145), .fieldA 4 (.tmp 12), none, []⟩, ⟨(some 146), .load none (.tmp 145), none, []⟩, ⟨(some 147), .bin .eql .num (.tmp 146) (.const (.int .i64 1)), none, []⟩, ⟨(some 148), .bin .eql .bool (.tmp 144) (.tmp 147), none, []⟩, ⟨(some 149), .bin .eql .bool (.tmp 142) (.tmp 148), none, []⟩])
 (.cond (.tmp 149) (.seq (.region false [⟨(some 150), .mov (.tmp 0), none, []⟩, ⟨(some 151), .mov (.tmp 14), none, []⟩, ⟨(some 152), .call (.fn 137) [(.tmp 150), (.tmp 151)], none, []⟩, ⟨(some 4), .mov (.tmp 152), none, []⟩])
 .ret)
 .skip))
 (.seq (.region false [⟨(some 153), .mov (.tmp 0), none, []⟩, ⟨(some 154), .mov (.tmp 14), none, []⟩, ⟨(some 155), .call (.fn 136) [(.tmp 153), (.tmp 154)], none, []⟩, ⟨(some 4), .mov (.tmp 155), none, []⟩])
 .ret)))))))))))))⟩
theorem cf105 : cFn Tryz.prog Tryz.f105 = some af105 := by kernel_rfl
theorem gd105 : Go.AE.Good Tryz.prog (105, af105) := ⟨⟨_, Tryz.func105, cf105⟩, by kernel_rfl, by kernel_rfl, by kernel_rfl⟩
def af109 : AFn := ⟨57, [(2, (some (some 2)))], (.seq (.region false [oZ 2 (.alloc [(.int .i64 0), .nilSl])])
 (.seq (.region false [oZ 3 (.mov (.const .nilSl))])
 (.seq (.seq (.region true [oZ 10 (.mov (tZ 0)), oZ 11 (.nilChk (tZ 10)), oZ 12 (.fieldA 0 (tZ 11)), oZ 13 (.fieldA 1 (tZ 12)), oZ 14 (.load none (tZ 13)), oZ 15 (.mov (tZ 0)), ⟨(some 16), .call (.fn 139) [(tZ 15)], none, [4]⟩, oZ 17 (.mkSl 1 2 [.nilSl] [(0, (tZ 14)), (1, (tZ 16))]), oZ 18 (.lenSl (tZ 17)), oZ 19 (.mov (kZ 0))])
 (.block 0 (.loop (.seq (.region false [oZ 20 (.bin .lss .num (tZ 19) (tZ 18))])
 (.seq (.cond (tZ 20) .skip
 (.exit 0))
 (.seq (.block 1 (.seq (.region false [oZ 21 (.idxA 1 (tZ 17) (tZ 19)), oZ 22 (.load none (tZ 21)), oZ 5 (.mov (tZ 22))])
 (.seq (.region false [oZ 6 (.mov (bZ true))])
 (.seq (.region false [oZ 23 (.mov (tZ 5)), oZ 24 (.lenSl (tZ 23)), oZ 25 (.mov (kZ 0))])
 (.block 2 (.loop (.seq (.region false [oZ 26 (.bin .lss .num (tZ 25) (tZ 24))])
 (.seq (.cond (tZ 26) .skip
 (.exit 2))
 (.seq (.block 3 (.seq (.region false [oZ 27 (.mov (tZ 25)), oZ 28 (.idxA 6 (tZ 23) (tZ 25)), oZ 29 (.load (some 6) (tZ 28)), oZ 8 (.alloc [(.int .i64 0), (.int .i64 0), (.int .i64 0), (.int .i64 0), (.int .i64 0), (.bool false)]), oZ 7 (.mov (tZ 27)), pZ (.store 6 (tZ 8) (tZ 29))])
 (.seq (.seq (.region false [oZ 30 (.fieldA 0 (tZ 8)), oZ 31 (.load none (tZ 30)), oZ 32 (.bin .neq .num (tZ 31) (kZ 1))])
 (.cond (tZ 32) (.exit 3)
 .skip))
 (.seq (.seq (.region false [oZ 33 (.mov (tZ 6))])
 (.cond (tZ 33) (.seq (.region false [oZ 34 (.mov (tZ 5)), oZ 35 (.mov (tZ 7)), oZ 36 (.call (.fn 56) [(tZ 34), (tZ 35)]), oZ 37 (.call (.fn 140) [(tZ 36)]), oZ 9 (.mov (tZ 37))])
 (.seq (.region false [oZ 38 (.mov (tZ 3)), oZ 39 (.bin .eql .slice (tZ 38) (.const .nilSl)), oZ 40 (.mov (tZ 39)), gZ 41 40 false (.mov (tZ 9)), gZ 42 40 false (.mov (tZ 3)), gZ 43 40 false (.call (.fn 141) [(tZ 41), (tZ 42)]), oZ 44 (.pick (tZ 40) (bZ true) (tZ 43))])
 (.cond (tZ 44) (.region false [oZ 45 (.mov (tZ 9)), oZ 3 (.mov (tZ 45))])
 .skip)))
 .skip))
 (.region false [oZ 46 (.mov (tZ 6)), oZ 47 (.un .not (tZ 46)), oZ 6 (.mov (tZ 47))])))))
 (.region false [oZ 48 (.bin .add .num (tZ 25) (kZ 1)), oZ 25 (.mov (tZ 48))]))))))))))
 (.region false [oZ 49 (.bin .add .num (tZ 19) (kZ 1)), oZ 19 (.mov (tZ 49))])))))))
 (.seq (.region false [oZ 50 (.mov (tZ 0)), oZ 51 (.nilChk (tZ 50)), oZ 52 (.fieldA 0 (tZ 51)), oZ 53 (.fieldA 0 (tZ 52)), oZ 54 (.load none (tZ 53)), oZ 55 (.mov (tZ 3)), oZ 56 (.build [(.int .i64 0), .nilSl] [(0, 1, (tZ 54)), (1, 1, (tZ 55))]), pZ (.store 2 (tZ 2) (tZ 56))])
 .ret))))⟩
theorem cf109 : cFn Tryz.prog Tryz.f109 = some af109 := by kernel_rfl
theorem gd109 : Go.AE.Good Tryz.prog (109, af109) := ⟨⟨_, Tryz.func109, cf109⟩, by kernel_rfl, by kernel_rfl, by kernel_rfl⟩
def af110 : AFn := ⟨54, [(4, none)], (.seq (.region false [oZ 4 (.mov (.const (.str [])))])
 (.seq (.seq (.region false [oZ 10 (.mov (tZ 1)), oZ 11 (.bin .eql .num (tZ 10) (kZ 10))])
 (.cond (tZ 11) (.seq (.seq (.region false [oZ 12 (.mov (tZ 0)), oZ 13 (.bin .leq .num (kZ 0) (tZ 12)), oZ 14 (.mov (tZ 13)), gZ 15 14 true (.mov (tZ 0)), gZ 16 14 true (.bin .lss .num (tZ 15) (kZ 100)), oZ 17 (.pick (tZ 14) (tZ 16) (bZ false))])
 (.cond (tZ 17) (.seq (.region false [oZ 18 (.mov (tZ 0)), oZ 19 (.call (.fn 142) [(tZ 18)]), oZ 4 (.mov (tZ 19))])
 .ret)
 .skip))
 (.seq (.region false [oZ 5 (.alloc [(.int .u8 0), (.int .u8 0), (.int .u8 0), (.int .u8 0), (.int .u8 0), (.int .u8 0), (.int .u8 0), (.int .u8 0), (.int .u8 0), (.int .u8 0), (.int .u8 0), (.int .u8 0), (.int .u8 0), (.int .u8 0), (.int .u8 0), (.int .u8 0), (.int .u8 0), (.int .u8 0), (.int .u8 0), (.int .u8 0), (.int .u8 0), (.int .u8 0), (.int .u8 0), (.int .u8 0)])])
 (.seq (.region false [oZ 20 (.mov (tZ 0)), oZ 21 (.convInt .u64 (tZ 20)), oZ 6 (.mov (tZ 21))])
 (.seq (.seq (.region false [oZ 22 (.mov (tZ 0)), oZ 23 (.bin .lss .num (tZ 22) (kZ 0))])
 (.cond (tZ 23) (.region false [oZ 24 (.mov (tZ 6)), oZ 25 (.un .neg (tZ 24)), oZ 6 (.mov (tZ 25))])
 .skip))
 (.seq (.region false [oZ 26 (.mov (tZ 6)), oZ 27 (.call (.fn 143) [(tZ 26)]), oZ 7 (.mov (tZ 27))])
 (.seq (.region false [oZ 28 (.mov (tZ 7)), oZ 29 (.bin .add .num (kZ 1) (tZ 28)), oZ 30 (.slArr 24 1 (tZ 5) (some (kZ 1)) (some (tZ 29))), oZ 31 (.mov (tZ 6)), oZ 32 (.call (.fn 144) [(tZ 30), (tZ 31)])])
 (.seq (.seq (.region false [oZ 33 (.mov (tZ 0)), oZ 34 (.bin .lss .num (tZ 33) (kZ 0))])
 (.cond (tZ 34) (.seq (.region false [oZ 35 (.idxAA 24 1 (tZ 5) (kZ 0)), pZ (.store 1 (tZ 35) (.const (.int .u8 45)))])
 (.seq (.region false [oZ 36 (.mov (tZ 7)), oZ 37 (.bin .add .num (kZ 1) (tZ 36)), oZ 38 (.slArr 24 1 (tZ 5) none (some (tZ 37))), oZ 39 (.toStr (tZ 38)), oZ 4 (.mov (tZ 39))])
 .ret))
 .skip))
 (.seq (.region false [oZ 40 (.mov (tZ 7)), oZ 41 (.bin .add .num (kZ 1) (tZ 40)), oZ 42 (.slArr 24 1 (tZ 5) (some (kZ 1)) (some (tZ 41))), oZ 43 (.toStr (tZ 42)), oZ 4 (.mov (tZ 43))])
 .ret))))))))
 .skip))
 (.seq (.region false [oZ 45 (.mov (tZ 0)), oZ 46 (.convInt .u64 (tZ 45)), oZ 47 (.mov (tZ 1)), oZ 48 (.mov (tZ 0)), oZ 49 (.bin .lss .num (tZ 48) (kZ 0)), oZ 50 (.call (.fn 145) [(.const .nilSl), (tZ 46), (tZ 47), (tZ 49), (bZ false)]), oZ 44 (.mov (tZ 50)), oZ 51 (.ext (tZ 44) 0), oZ 52 (.ext (tZ 44) 1), oZ 8 (.mov (tZ 51)), oZ 9 (.mov (tZ 52))])
 (.seq (.region false [oZ 53 (.mov (tZ 9)), oZ 4 (.mov (tZ 53))])
 .ret))))⟩
theorem cf110 : cFn Tryz.prog Tryz.f110 = some af110 := by kernel_rfl
theorem gd110 : Go.AE.Good Tryz.prog (110, af110) := ⟨⟨_, Tryz.func110, cf110⟩, by kernel_rfl, by kernel_rfl, by kernel_rfl⟩
def af111 : AFn := ⟨30, [(4, none), (5, none)], (.seq (.region false [oZ 4 (.mov (.const (.int .u64 0))), oZ 5 (.mov (.const (.int .u64 0)))])
 (.seq (.cond (bZ false) (.seq (.region false [oZ 11 (.mov (tZ 0)), oZ 12 (.convInt .u32 (tZ 11)), oZ 13 (.mov (tZ 1)), oZ 14 (.convInt .u32 (tZ 13)), oZ 15 (.call (.fn 146) [(tZ 12), (tZ 14)]), oZ 10 (.mov (tZ 15)), oZ 16 (.ext (tZ 10) 0), oZ 17 (.ext (tZ 10) 1), oZ 6 (.mov (tZ 16)), oZ 7 (.mov (tZ 17))])
 (.seq (.region false [oZ 18 (.mov (tZ 6)), oZ 19 (.convInt .u64 (tZ 18)), oZ 20 (.mov (tZ 7)), oZ 21 (.convInt .u64 (tZ 20)), oZ 4 (.mov (tZ 19)), oZ 5 (.mov (tZ 21))])
 .ret))
 .skip)
 (.seq (.region false [oZ 23 (.mov (tZ 0)), oZ 24 (.mov (tZ 1)), oZ 25 (.call (.fn 147) [(tZ 23), (tZ 24)]), oZ 22 (.mov (tZ 25)), oZ 26 (.ext (tZ 22) 0), oZ 27 (.ext (tZ 22) 1), oZ 8 (.mov (tZ 26)), oZ 9 (.mov (tZ 27))])
 (.seq (.region false [oZ 28 (.mov (tZ 8)), oZ 29 (.mov (tZ 9)), oZ 4 (.mov (tZ 28)), oZ 5 (.mov (tZ 29))])
 .ret))))⟩
theorem cf111 : cFn Tryz.prog Tryz.f111 = some af111 := by kernel_rfl
theorem gd111 : Go.AE.Good Tryz.prog (111, af111) := ⟨⟨_, Tryz.func111, cf111⟩, by kernel_rfl, by kernel_rfl, by kernel_rfl⟩
def af114 : AFn := ⟨9, [(2, (some (some 2)))], (.seq (.region false [oZ 1 (.box (tZ 0)), oZ 2 (.alloc [(.int .i64 0), .nilSl])])
 (.seq (.region true [oZ 3 (.fieldA 0 (tZ 1)), oZ 4 (.load none (tZ 3)), oZ 5 (.fieldA 1 (tZ 1)), oZ 6 (.load none (tZ 5)), ⟨(some 7), .append 6 48 [(.int .i64 0), (.int .i64 0), (.int .i64 0), (.int .i64 0), (.int .i64 0), (.bool false)] (.const .nilSl) (tZ 6), none, [1]⟩, oZ 8 (.build [(.int .i64 0), .nilSl] [(0, 1, (tZ 4)), (1, 1, (tZ 7))]), pZ (.store 2 (tZ 2) (tZ 8))])
 .ret))⟩
theorem cf114 : cFn Tryz.prog Tryz.f114 = some af114 := by kernel_rfl
theorem gd114 : Go.AE.Good Tryz.prog (114, af114) := ⟨⟨_, Tryz.func114, cf114⟩, by kernel_rfl, by kernel_rfl, by kernel_rfl⟩
def af115 : AFn := ⟨41, [(4, (some (some 2)))], (.seq (.region false [oZ 2 (.box (tZ 0)), oZ 4 (.alloc [(.int .i64 0), .nilSl])])
 (.seq (.seq (.region false [oZ 5 (.mov (kZ 0))])
 (.block 0 (.loop (.seq (.seq (.region false [oZ 6 (.mov (tZ 5)), oZ 7 (.fieldA 1 (tZ 2)), oZ 8 (.load none (tZ 7)), oZ 9 (.lenSl (tZ 8)), oZ 10 (.bin .lss .num (tZ 6) (tZ 9))])
 (.cond (tZ 10) .skip
 (.exit 0)))
 (.seq (.block 1 (.seq (.region false [oZ 13 (.fieldA 1 (tZ 2)), oZ 14 (.load none (tZ 13)), oZ 15 (.mov (tZ 5)), oZ 16 (.idxA 6 (tZ 14) (tZ 15)), oZ 17 (.fieldA 0 (tZ 16)), oZ 18 (.load none (tZ 17)), oZ 19 (.bin .eql .num (tZ 18) (kZ 1)), oZ 20 (.mov (tZ 19)), gZ 21 20 true (.mov (tZ 1)), gZ 22 20 true (.mov (tZ 5)), gZ 23 20 true (.idxA 1 (tZ 21) (tZ 22)), gZ 24 20 true (.load none (tZ 23)), oZ 25 (.pick (tZ 20) (tZ 24) (bZ false))])
 (.cond (tZ 25) (.seq (.region true [oZ 26 (.fieldA 0 (tZ 2)), oZ 27 (.load none (tZ 26)), oZ 28 (.fieldA 1 (tZ 2)), oZ 29 (.load none (tZ 28)), oZ 30 (.mov (tZ 5)), oZ 31 (.slSl 6 (tZ 29) (some (tZ 30)) none none), ⟨(some 32), .append 6 48 [(.int .i64 0), (.int .i64 0), (.int .i64 0), (.int .i64 0), (.int .i64 0), (.bool false)] (.const .nilSl) (tZ 31), none, [1]⟩, oZ 33 (.fieldA 1 (tZ 2)), ⟨(some 34), .load none (tZ 33), none, [6]⟩, oZ 35 (.mov (tZ 5)), ⟨(some 36), .slSl 6 (tZ 34) none (some (tZ 35)) none, none, [6]⟩, ⟨(some 37), .append 6 48 [(.int .i64 0), (.int .i64 0), (.int .i64 0), (.int .i64 0), (.int .i64 0), (.bool false)] (tZ 32) (tZ 36), none, [1]⟩, oZ 38 (.build [(.int .i64 0), .nilSl] [(0, 1, (tZ 27)), (1, 1, (tZ 37))]), pZ (.store 2 (tZ 4) (tZ 38))])
 .ret)
 .skip)))
 (.region false [oZ 11 (.mov (tZ 5)), oZ 12 (.bin .add .num (tZ 11) (kZ 1)), oZ 5 (.mov (tZ 12))]))))))
 (.seq (.region false [oZ 39 (.load (some 2) (tZ 2)), oZ 40 (.call (.fn 114) [(tZ 39)]), pZ (.store 2 (tZ 4) (tZ 40))])
 .ret)))⟩
theorem cf115 : cFn Tryz.prog Tryz.f115 = some af115 := by kernel_rfl
theorem gd115 : Go.AE.Good Tryz.prog (115, af115) := ⟨⟨_, Tryz.func115, cf115⟩, by kernel_rfl, by kernel_rfl, by kernel_rfl⟩
def af116 : AFn := ⟨30, [(4, none)], (.seq (.region false [oZ 4 (.mov (bZ false))])
 (.seq (.seq (.region false [oZ 5 (.mov (kZ 0))])
 (.block 0 (.loop (.seq (.seq (.region false [oZ 6 (.mov (tZ 5)), oZ 7 (.mov (tZ 0)), oZ 8 (.lenSl (tZ 7)), oZ 9 (.bin .lss .num (tZ 6) (tZ 8))])
 (.cond (tZ 9) .skip
 (.exit 0)))
 (.seq (.block 1 (.seq (.region true [oZ 12 (.mov (tZ 0)), oZ 13 (.mov (tZ 5)), oZ 14 (.idxA 1 (tZ 12) (tZ 13)), oZ 15 (.load none (tZ 14)), oZ 16 (.mov (tZ 1)), oZ 17 (.mov (tZ 5)), oZ 18 (.idxA 1 (tZ 16) (tZ 17)), oZ 19 (.load none (tZ 18)), oZ 20 (.bin .neq .num (tZ 15) (tZ 19))])
 (.cond (tZ 20) (.seq (.region true [oZ 21 (.mov (tZ 0)), oZ 22 (.mov (tZ 5)), oZ 23 (.idxA 1 (tZ 21) (tZ 22)), oZ 24 (.load none (tZ 23)), oZ 25 (.mov (tZ 1)), oZ 26 (.mov (tZ 5)), oZ 27 (.idxA 1 (tZ 25) (tZ 26)), oZ 28 (.load none (tZ 27)), oZ 29 (.bin .lss .num (tZ 24) (tZ 28)), oZ 4 (.mov (tZ 29))])
 .ret)
 .skip)))
 (.region false [oZ 10 (.mov (tZ 5)), oZ 11 (.bin .add .num (tZ 10) (kZ 1)), oZ 5 (.mov (tZ 11))]))))))
 (.seq (.region false [oZ 4 (.mov (bZ false))])
 .ret)))⟩
theorem cf116 : cFn Tryz.prog Tryz.f116 = some af116 := by kernel_rfl
theorem gd116 : Go.AE.Good Tryz.prog (116, af116) := ⟨⟨_, Tryz.func116, cf116⟩, by kernel_rfl, by kernel_rfl, by kernel_rfl⟩
def af117 : AFn := ⟨18, [(2, none)], (.seq (.region false [oZ 1 (.box (tZ 0)), oZ 2 (.mov (.const .nilSl))])
 (.seq (.region false [oZ 3 (.mov (kZ 0))])
 (.seq (.seq (.region false [oZ 4 (.fieldA 5 (tZ 1)), oZ 5 (.load none (tZ 4))])
 (.cond (tZ 5) (.region false [oZ 3 (.mov (kZ 1))])
 .skip))
 (.seq (.region false [oZ 6 (.fieldA 0 (tZ 1)), oZ 7 (.load none (tZ 6)), oZ 8 (.fieldA 1 (tZ 1)), oZ 9 (.load none (tZ 8)), oZ 10 (.fieldA 2 (tZ 1)), oZ 11 (.load none (tZ 10)), oZ 12 (.fieldA 3 (tZ 1)), oZ 13 (.load none (tZ 12)), oZ 14 (.mov (tZ 3)), oZ 15 (.fieldA 4 (tZ 1)), oZ 16 (.load none (tZ 15)), oZ 17 (.mkSl 1 6 [(.int .i64 0)] [(0, (tZ 7)), (1, (tZ 9)), (2, (tZ 11)), (3, (tZ 13)), (4, (tZ 14)), (5, (tZ 16))]), oZ 2 (.mov (tZ 17))])
 .ret))))⟩
theorem cf117 : cFn Tryz.prog Tryz.f117 = some af117 := by kernel_rfl
theorem gd117 : Go.AE.Good Tryz.prog (117, af117) := ⟨⟨_, Tryz.func117, cf117⟩, by kernel_rfl, by kernel_rfl, by kernel_rfl⟩
def af118 : AFn := ⟨21, [(2, none)], (.seq (.region false [oZ 1 (.box (tZ 0)), oZ 2 (.mov (bZ false))])
 (.seq (.region false [oZ 3 (.fieldA 0 (tZ 1)), oZ 4 (.load none (tZ 3)), oZ 5 (.bin .geq .num (tZ 4) (kZ 1)), oZ 6 (.mov (tZ 5)), gZ 7 6 true (.fieldA 0 (tZ 1)), gZ 8 6 true (.load none (tZ 7)), gZ 9 6 true (.bin .leq .num (tZ 8) (kZ 9)), oZ 10 (.pick (tZ 6) (tZ 9) (bZ false)), oZ 11 (.mov (tZ 10)), gZ 12 11 true (.fieldA 2 (tZ 1)), gZ 13 11 true (.load none (tZ 12)), gZ 14 11 true (.bin .geq .num (tZ 13) (kZ 0)), oZ 15 (.pick (tZ 11) (tZ 14) (bZ false)), oZ 16 (.mov (tZ 15)), gZ 17 16 true (.fieldA 2 (tZ 1)), gZ 18 16 true (.load none (tZ 17)), gZ 19 16 true (.bin .leq .num (tZ 18) (kZ 6)), oZ 20 (.pick (tZ 16) (tZ 19) (bZ false)), oZ 2 (.mov (tZ 20))])
 .ret))⟩
theorem cf118 : cFn Tryz.prog Tryz.f118 = some af118 := by kernel_rfl
theorem gd118 : Go.AE.Good Tryz.prog (118, af118) := ⟨⟨_, Tryz.func118, cf118⟩, by kernel_rfl, by kernel_rfl, by kernel_rfl⟩
def af119 : AFn := ⟨9, [(4, none)], (.seq (.region false [oZ 3 (.box (tZ 1)), oZ 4 (.mov (bZ false))])
 (.seq (.region false [oZ 5 (.mov (tZ 0)), oZ 6 (.load (some 3) (tZ 3)), oZ 7 (.call (.fn 150) [(tZ 5), (tZ 6)]), oZ 8 (.bin .geq .num (tZ 7) (kZ 0)), oZ 4 (.mov (tZ 8))])
 .ret))⟩
theorem cf119 : cFn Tryz.prog Tryz.f119 = some af119 := by kernel_rfl
theorem gd119 : Go.AE.Good Tryz.prog (119, af119) := ⟨⟨_, Tryz.func119, cf119⟩, by kernel_rfl, by kernel_rfl, by kernel_rfl⟩
def af120 : AFn := ⟨53, [(2, none)], (.seq (.region false [oZ 1 (.box (tZ 0)), oZ 2 (.mov (bZ false))])
 (.seq (.region false [oZ 3 (.mov (bZ false))])
 (.seq (.seq (.region false [oZ 7 (.fieldA 1 (tZ 1)), oZ 8 (.load none (tZ 7)), oZ 9 (.lenSl (tZ 8)), oZ 10 (.mov (kZ 0))])
 (.block 0 (.loop (.seq (.region false [oZ 11 (.bin .lss .num (tZ 10) (tZ 9))])
 (.seq (.cond (tZ 11) .skip
 (.exit 0))
 (.seq (.block 1 (.seq (.region false [oZ 12 (.mov (tZ 10)), oZ 13 (.idxA 6 (tZ 8) (tZ 10)), oZ 14 (.load (some 6) (tZ 13)), oZ 5 (.alloc [(.int .i64 0), (.int .i64 0), (.int .i64 0), (.int .i64 0), (.int .i64 0), (.bool false)]), oZ 4 (.mov (tZ 12)), pZ (.store 6 (tZ 5) (tZ 14))])
 (.seq (.seq (.region false [oZ 15 (.load (some 6) (tZ 5)), oZ 16 (.call (.fn 151) [(tZ 15)]), oZ 17 (.un .not (tZ 16))])
 (.cond (tZ 17) (.exit 1)
 .skip))
 (.seq (.region false [oZ 18 (.mov (tZ 3)), oZ 19 (.un .not (tZ 18)), oZ 3 (.mov (tZ 19))])
 (.seq (.region true [oZ 20 (.fieldA 1 (tZ 1)), oZ 21 (.load none (tZ 20)), oZ 22 (.mov (tZ 4)), oZ 23 (.bin .add .num (tZ 22) (kZ 1)), oZ 24 (.fieldA 1 (tZ 1)), oZ 25 (.load none (tZ 24)), oZ 26 (.lenSl (tZ 25)), oZ 27 (.bin .rem .num (tZ 23) (tZ 26)), oZ 28 (.idxA 6 (tZ 21) (tZ 27)), oZ 29 (.load (some 6) (tZ 28)), ⟨(some 6), .alloc [(.int .i64 0), (.int .i64 0), (.int .i64 0), (.int .i64 0), (.int .i64 0), (.bool false)], none, [1, 5, 8, 9]⟩, pZ (.store 6 (tZ 6) (tZ 29))])
 (.seq (.region false [oZ 30 (.mov (tZ 3)), oZ 31 (.mov (tZ 30)), gZ 32 31 true (.load (some 6) (tZ 6)), gZ 33 31 true (.call (.fn 151) [(tZ 32)]), gZ 34 31 true (.un .not (tZ 33)), gZ 35 31 true (.mov (tZ 34)), gZ 36 35 false (.fieldA 1 (tZ 6)), gZ 37 35 false (.load none (tZ 36)), gZ 38 35 false (.fieldA 1 (tZ 5)), gZ 39 35 false (.load none (tZ 38)), gZ 40 35 false (.bin .sub .num (tZ 37) (tZ 39)), gZ 41 35 false (.bin .neq .num (tZ 40) (kZ 1)), gZ 42 35 false (.mov (tZ 41)), gZ 43 42 true (.fieldA 1 (tZ 5)), gZ 44 42 true (.load none (tZ 43)), gZ 45 42 true (.fieldA 1 (tZ 6)), gZ 46 42 true (.load none (tZ 45)), gZ 47 42 true (.bin .sub .num (tZ 44) (tZ 46)), gZ 48 42 true (.bin .neq .num (tZ 47) (kZ 1)), gZ 49 35 false (.pick (tZ 42) (tZ 48) (bZ false)), gZ 50 31 true (.pick (tZ 35) (bZ true) (tZ 49)), oZ 51 (.pick (tZ 31) (tZ 50) (bZ false))])
 (.cond (tZ 51) (.seq (.region false [oZ 2 (.mov (bZ false))])
 .ret)
 .skip)))))))
 (.region false [oZ 52 (.bin .add .num (tZ 10) (kZ 1)), oZ 10 (.mov (tZ 52))])))))))
 (.seq (.region false [oZ 2 (.mov (bZ true))])
 .ret))))⟩
theorem cf120 : cFn Tryz.prog Tryz.f120 = some af120 := by kernel_rfl
theorem gd120 : Go.AE.Good Tryz.prog (120, af120) := ⟨⟨_, Tryz.func120, cf120⟩, by kernel_rfl, by kernel_rfl, by kernel_rfl⟩
def af121 : AFn := ⟨19, [(4, none)], (.seq (.region false [oZ 4 (.mov (kZ 0))])
 (.seq (.seq (.region false [oZ 6 (.mov (tZ 0)), oZ 7 (.lenSl (tZ 6)), oZ 8 (.mov (kZ 0))])
 (.block 0 (.loop (.seq (.region false [oZ 9 (.bin .lss .num (tZ 8) (tZ 7))])
 (.seq (.cond (tZ 9) .skip
 (.exit 0))
 (.seq (.block 1 (.seq (.region false [oZ 10 (.mov (tZ 8)), oZ 5 (.mov (tZ 10))])
 (.seq (.region false [oZ 11 (.mov (tZ 1)), oZ 12 (.mov (tZ 0)), oZ 13 (.mov (tZ 5)), oZ 14 (.idxA 3 (tZ 12) (tZ 13)), oZ 15 (.load (some 3) (tZ 14)), oZ 16 (.call (tZ 11) [(tZ 15)])])
 (.cond (tZ 16) (.seq (.region false [oZ 17 (.mov (tZ 5)), oZ 4 (.mov (tZ 17))])
 .ret)
 .skip))))
 (.region false [oZ 18 (.bin .add .num (tZ 8) (kZ 1)), oZ 8 (.mov (tZ 18))])))))))
 (.seq (.region false [oZ 4 (.mov (kZ (-1)))])
 .ret)))⟩
theorem cf121 : cFn Tryz.prog Tryz.f121 = some af121 := by kernel_rfl
theorem gd121 : Go.AE.Good Tryz.prog (121, af121) := ⟨⟨_, Tryz.func121, cf121⟩, by kernel_rfl, by kernel_rfl, by kernel_rfl⟩
def af124 : AFn := ⟨29, [(4, none), (5, none)], (.seq (.region false [oZ 2 (.box (tZ 0)), oZ 3 (.box (tZ 1)), oZ 4 (.mov (.const .nilSl)), oZ 5 (.mov (kZ 0))])
 (.seq (.seq (.region false [oZ 9 (.load (some 3) (tZ 2)), oZ 10 (.load (some 2) (tZ 3)), oZ 11 (.call (.fn 153) [(tZ 9), (tZ 10)]), oZ 6 (.mov (tZ 11))])
 (.seq (.region false [oZ 12 (.mov (tZ 6)), oZ 13 (.bin .neq .num (tZ 12) (kZ 0))])
 (.cond (tZ 13) (.seq (.region false [oZ 14 (.mov (tZ 6)), oZ 4 (.mov (.const .nilSl)), oZ 5 (.mov (tZ 14))])
 .ret)
 .skip)))
 (.seq (.region false [oZ 7 (.mov (.const .nilSl))])
 (.seq (.seq (.region false [oZ 8 (.mov (kZ 1))])
 (.block 0 (.loop (.seq (.seq (.region false [oZ 15 (.mov (tZ 8)), oZ 16 (.fieldA 0 (tZ 3)), oZ 17 (.load none (tZ 16)), oZ 18 (.bin .leq .num (tZ 15) (tZ 17))])
 (.cond (tZ 18) .skip
 (.exit 0)))
 (.seq (.block 1 (.region false [oZ 21 (.mov (tZ 7)), oZ 22 (.load (some 2) (tZ 3)), oZ 23 (.mov (tZ 8)), oZ 24 (.call (.fn 154) [(tZ 22), (tZ 23)]), oZ 25 (.lenSl (tZ 24)), oZ 26 (.mkSl 1 1 [(.int .i64 0)] [(0, (tZ 25))]), oZ 27 (.append 1 8 [(.int .i64 0)] (tZ 21) (tZ 26)), oZ 7 (.mov (tZ 27))]))
 (.region false [oZ 19 (.mov (tZ 8)), oZ 20 (.bin .add .num (tZ 19) (kZ 1)), oZ 8 (.mov (tZ 20))]))))))
 (.seq (.region false [oZ 28 (.mov (tZ 7)), oZ 4 (.mov (tZ 28)), oZ 5 (.mov (kZ 0))])
 .ret)))))⟩
theorem cf124 : cFn Tryz.prog Tryz.f124 = some af124 := by kernel_rfl
theorem gd124 : Go.AE.Good Tryz.prog (124, af124) := ⟨⟨_, Tryz.func124, cf124⟩, by kernel_rfl, by kernel_rfl, by kernel_rfl⟩
def af125 : AFn := ⟨148, [], (.seq (.region false [oZ 10 (.mov (bZ true))])
 (.seq (.region false [oZ 11 (.mov (bZ true))])
 (.block 0 (.loop (.block 1 (.seq (.region false [oZ 21 (.mov (tZ 2)), oZ 22 (.mov (tZ 1)), oZ 23 (.bin .sub .num (tZ 21) (tZ 22)), oZ 12 (.mov (tZ 23))])
 (.seq (.seq (.region false [oZ 24 (.mov (tZ 12)), oZ 25 (.bin .leq .num (tZ 24) (kZ 12))])
 (.cond (tZ 25) (.seq (.region false [oZ 26 (.mov (tZ 0)), oZ 27 (.mov (tZ 1)), oZ 28 (.mov (tZ 2)), oZ 29 (.mov (tZ 4)), oZ 30 (.call (.fn 155) [(tZ 26), (tZ 27), (tZ 28), (tZ 29)])])
 .ret)
 .skip))
 (.seq (.seq (.region false [oZ 31 (.mov (tZ 3)), oZ 32 (.bin .eql .num (tZ 31) (kZ 0))])
 (.cond (tZ 32) (.seq (.region false [oZ 33 (.mov (tZ 0)), oZ 34 (.mov (tZ 1)), oZ 35 (.mov (tZ 2)), oZ 36 (.mov (tZ 4)), oZ 37 (.call (.fn 156) [(tZ 33), (tZ 34), (tZ 35), (tZ 36)])])
 .ret)
 .skip))
 (.seq (.seq (.region false [oZ 38 (.mov (tZ 10)), oZ 39 (.un .not (tZ 38))])
 (.cond (tZ 39) (.seq (.region false [oZ 40 (.mov (tZ 0)), oZ 41 (.mov (tZ 1)), oZ 42 (.mov (tZ 2)), oZ 43 (.mov (tZ 4)), oZ 44 (.call (.fn 157) [(tZ 40), (tZ 41), (tZ 42), (tZ 43)])])
 (.region false [oZ 45 (.mov (tZ 3)), oZ 46 (.bin .sub .num (tZ 45) (kZ 1)), oZ 3 (.mov (tZ 46))]))
 .skip))
 (.seq (.region false [oZ 48 (.mov (tZ 0)), oZ 49 (.mov (tZ 1)), oZ 50 (.mov (tZ 2)), oZ 51 (.mov (tZ 4)), oZ 52 (.call (.fn 158) [(tZ 48), (tZ 49), (tZ 50), (tZ 51)]), oZ 47 (.mov (tZ 52)), oZ 53 (.ext (tZ 47) 0), oZ 54 (.ext (tZ 47) 1), oZ 13 (.mov (tZ 53)), oZ 14 (.mov (tZ 54))])
 (.seq (.seq (.region false [oZ 55 (.mov (tZ 14)), oZ 56 (.bin .eql .num (tZ 55) (kZ 2))])
 (.cond (tZ 56) (.seq (.region false [oZ 57 (.mov (tZ 0)), oZ 58 (.mov (tZ 1)), oZ 59 (.mov (tZ 2)), oZ 60 (.mov (tZ 4)), oZ 61 (.call (.fn 159) [(tZ 57), (tZ 58), (tZ 59), (tZ 60)])])
 (.seq (.region false [oZ 62 (.mov (tZ 2)), oZ 63 (.bin .sub .num (tZ 62) (kZ 1)), oZ 64 (.mov (tZ 13)), oZ 65 (.mov (tZ 1)), oZ 66 (.bin .sub .num (tZ 64) (tZ 65)), oZ 67 (.bin .sub .num (tZ 63) (tZ 66)), oZ 13 (.mov (tZ 67))])
 (.region false [oZ 14 (.mov (kZ 1))])))
 .skip))
 (.seq (.seq (.region false [oZ 68 (.mov (tZ 10)), oZ 69 (.mov (tZ 68)), gZ 70 69 true (.mov (tZ 11)), oZ 71 (.pick (tZ 69) (tZ 70) (bZ false)), oZ 72 (.mov (tZ 71)), gZ 73 72 true (.mov (tZ 14)), gZ 74 72 true (.bin .eql .num (tZ 73) (kZ 1)), oZ 75 (.pick (tZ 72) (tZ 74) (bZ false))])
 (.cond (tZ 75) (.seq (.region false [oZ 76 (.mov (tZ 0)), oZ 77 (.mov (tZ 1)), oZ 78 (.mov (tZ 2)), oZ 79 (.mov (tZ 4)), oZ 80 (.call (.fn 160) [(tZ 76), (tZ 77), (tZ 78), (tZ 79)])])
 (.cond (tZ 80) .ret
 .skip))
 .skip))
 (.seq (.seq (.region true [oZ 81 (.mov (tZ 1)), oZ 82 (.bin .gtr .num (tZ 81) (kZ 0)), oZ 83 (.mov (tZ 82)), gZ 84 83 true (.mov (tZ 4)), gZ 85 83 true (.mov (tZ 0)), gZ 86 83 true (.mov (tZ 1)), gZ 87 83 true (.bin .sub .num (tZ 86) (kZ 1)), gZ 88 83 true (.idxA 2 (tZ 85) (tZ 87)), gZ 89 83 true (.load (some 2) (tZ 88)), gZ 90 83 true (.mov (tZ 0)), gZ 91 83 true (.mov (tZ 13)), gZ 92 83 true (.idxA 2 (tZ 90) (tZ 91)), gZ 93 83 true (.load (some 2) (tZ 92)), gZ 94 83 true (.call (tZ 84) [(tZ 89), (tZ 93)]), gZ 95 83 true (.bin .lss .num (tZ 94) (kZ 0)), gZ 96 83 true (.un .not (tZ 95)), oZ 97 (.pick (tZ 83) (tZ 96) (bZ false))])
 (.cond (tZ 97) (.seq (.region false [oZ 98 (.mov (tZ 0)), oZ 99 (.mov (tZ 1)), oZ 100 (.mov (tZ 2)), oZ 101 (.mov (tZ 13)), oZ 102 (.mov (tZ 4)), oZ 103 (.call (.fn 161) [(tZ 98), (tZ 99), (tZ 100), (tZ 101), (tZ 102)]), oZ 15 (.mov (tZ 103))])
 (.seq (.region false [oZ 104 (.mov (tZ 15)), oZ 1 (.mov (tZ 104))])
 (.exit 1)))
 .skip))
 (.seq (.region false [oZ 106 (.mov (tZ 0)), oZ 107 (.mov (tZ 1)), oZ 108 (.mov (tZ 2)), oZ 109 (.mov (tZ 13)), oZ 110 (.mov (tZ 4)), oZ 111 (.call (.fn 162) [(tZ 106), (tZ 107), (tZ 108), (tZ 109), (tZ 110)]), oZ 105 (.mov (tZ 111)), oZ 112 (.ext (tZ 105) 0), oZ 113 (.ext (tZ 105) 1), oZ 16 (.mov (tZ 112)), oZ 17 (.mov (tZ 113))])
 (.seq (.region false [oZ 114 (.mov (tZ 17)), oZ 11 (.mov (tZ 114))])
 (.seq (.region false [oZ 115 (.mov (tZ 16)), oZ 116 (.mov (tZ 1)), oZ 117 (.bin .sub .num (tZ 115) (tZ 116)), oZ 118 (.mov (tZ 2)), oZ 119 (.mov (tZ 16)), oZ 120 (.bin .sub .num (tZ 118) (tZ 119)), oZ 18 (.mov (tZ 117)), oZ 19 (.mov (tZ 120))])
 (.seq (.region false [oZ 121 (.mov (tZ 12)), oZ 122 (.bin .quo .num (tZ 121) (kZ 8)), oZ 20 (.mov (tZ 122))])
 (.seq (.region false [oZ 123 (.mov (tZ 18)), oZ 124 (.mov (tZ 19)), oZ 125 (.bin .lss .num (tZ 123) (tZ 124))])
 (.cond (tZ 125) (.seq (.region false [oZ 126 (.mov (tZ 18)), oZ 127 (.mov (tZ 20)), oZ 128 (.bin .geq .num (tZ 126) (tZ 127)), oZ 10 (.mov (tZ 128))])
 (.seq (.region false [oZ 129 (.mov (tZ 0)), oZ 130 (.mov (tZ 1)), oZ 131 (.mov (tZ 16)), oZ 132 (.mov (tZ 3)), oZ 133 (.mov (tZ 4)), oZ 134 (.call (.fn 125) [(tZ 129), (tZ 130), (tZ 131), (tZ 132), (tZ 133)])])
 (.region false [oZ 135 (.mov (tZ 16)), oZ 136 (.bin .add .num (tZ 135) (kZ 1)), oZ 1 (.mov (tZ 136))])))
 (.seq (.region false [oZ 137 (.mov (tZ 19)), oZ 138 (.mov (tZ 20)), oZ 139 (.bin .geq .num (tZ 137) (tZ 138)), oZ 10 (.mov (tZ 139))])
 (.seq (.region false [oZ 140 (.mov (tZ 0)), oZ 141 (.mov (tZ 16)), oZ 142 (.bin .add .num (tZ 141) (kZ 1)), oZ 143 (.mov (tZ 2)), oZ 144 (.mov (tZ 3)), oZ 145 (.mov (tZ 4)), oZ 146 (.call (.fn 125) [(tZ 140), (tZ 142), (tZ 143), (tZ 144), (tZ 145)])])
 (.region false [oZ 147 (.mov (tZ 16)), oZ 2 (.mov (tZ 147))]))))))))))))))))))))))⟩
theorem cf125 : cFn Tryz.prog Tryz.f125 = some af125 := by kernel_rfl
theorem gd125 : Go.AE.Good Tryz.prog (125, af125) := ⟨⟨_, Tryz.func125, cf125⟩, by kernel_rfl, by kernel_rfl, by kernel_rfl⟩
def af126 : AFn := ⟨8, [(2, none)], (.seq (.region false [oZ 2 (.mov (kZ 0))])
 (.seq (.cond (bZ false) (.seq (.region false [oZ 3 (.mov (tZ 0)), oZ 4 (.convInt .u32 (tZ 3)), oZ 5 (.call (.fn 163) [(tZ 4)]), oZ 2 (.mov (tZ 5))])
 .ret)
 .skip)
 (.seq (.region false [oZ 6 (.mov (tZ 0)), oZ 7 (.call (.fn 164) [(tZ 6)]), oZ 2 (.mov (tZ 7))])
 .ret)))⟩
theorem cf126 : cFn Tryz.prog Tryz.f126 = some af126 := by kernel_rfl
theorem gd126 : Go.AE.Good Tryz.prog (126, af126) := ⟨⟨_, Tryz.func126, cf126⟩, by kernel_rfl, by kernel_rfl, by kernel_rfl⟩
def af131 : AFn := ⟨11, [(2, none)], (.seq (.region false [⟨(some 1), .box (.tmp 0), none, []⟩, ⟨(some 2), .mov (.const (.bool false)), none, []⟩])
 (.seq (.region false [⟨(some 3), .load none (.tmp 1), none, []⟩, ⟨(some 4), .nilChk (.tmp 3), none, []⟩, ⟨(some 5), .fieldA 0 (.tmp 4), none, []⟩, ⟨(some 6), .fieldA 1 (.tmp 5), none, []⟩, ⟨(some 7), .load none (.tmp 6), none, []⟩, ⟨(some 8), .mkFunc (.func 167) [] [(.tmp 1)], none, []⟩, ⟨(some 9), .call (.fn 166) [(.tmp 7), (.tmp 8)], none, []⟩, ⟨(some 10), .un .not (.tmp 9), none, []⟩, ⟨(some 2), .mov (.tmp 10), none, []⟩])
 .ret))⟩
theorem cf131 : cFn Tryz.prog Tryz.f131 = some af131 := by kernel_rfl
theorem gd131 : Go.AE.Good Tryz.prog (131, af131) := ⟨⟨_, Tryz.func131, cf131⟩, by kernel_rfl, by kernel_rfl, by kernel_rfl⟩
def af132 : AFn := ⟨21, [(2, none)], (.seq (.region false [⟨(some 2), .mov (.const (.bool false)), none, []⟩])
 (.seq (.region false [⟨(some 3), .mov (.tmp 0), none, []⟩, ⟨(some 4), .nilChk (.tmp 3), none, []⟩, ⟨(some 5), .fieldA 0 (.tmp 4), none, []⟩, ⟨(some 6), .fieldA 1 (.tmp 5), none, []⟩, ⟨(some 7), .load none (.tmp 6), none, []⟩, ⟨(some 8), .idxA 6 (.tmp 7) (.const (.int .i64 0)), none, []⟩, ⟨(some 9), .fieldA 0 (.tmp 8), none, []⟩, ⟨(some 10), .load none (.tmp 9), none, []⟩, ⟨(some 11), .bin .eql .num (.tmp 10) (.const (.int .i64 1)), none, []⟩, ⟨(some 12), .mov (.tmp 11), none, []⟩, ⟨(some 13), .mov (.tmp 0), (some (12, true)), []⟩, ⟨(some 14), .nilChk (.tmp 13), (some (12, true)), []⟩, ⟨(some 15), .fieldA 0 (.tmp 14), (some (12, true)), []⟩, ⟨(some 16), .load (some 2) (.tmp 15), (some (12, true)), []⟩, ⟨(some 17), .call (.fn 168) [(.tmp 16)], (some (12, true)), []⟩, ⟨(some 18), .bin .rem .num (.tmp 17) (.const (.int .i64 2)), (some (12, true)), []⟩, ⟨(some 19), .bin .eql .num (.tmp 18) (.const (.int .i64 0)), (some (12, true)), []⟩, ⟨(some 20), .pick (.tmp 12) (.tmp 19) (.const (.bool false)), none, []⟩, ⟨(some 2), .mov (.tmp 20), none, []⟩])
 .ret))⟩
theorem cf132 : cFn Tryz.prog Tryz.f132 = some af132 := by kernel_rfl
theorem gd132 : Go.AE.Good Tryz.prog (132, af132) := ⟨⟨_, Tryz.func132, cf132⟩, by kernel_rfl, by kernel_rfl, by kernel_rfl⟩
def af133 : AFn := ⟨171, [(2, none)], (.seq (.region false [⟨(some 2), .mov (.const (.bool false)), none, []⟩])
 (.seq (.region false [⟨(some 14), .mov (.tmp 0), none, []⟩, ⟨(some 15), .mov (.tmp 0), none, []⟩, ⟨(some 16), .nilChk (.tmp 15), none, []⟩, ⟨(some 17), .fieldA 0 (.tmp 16), none, []⟩, ⟨(some 18), .fieldA 0 (.tmp 17), none, []⟩, ⟨(some 19), .load none (.tmp 18), none, []⟩, ⟨(some 20), .bin .add .num (.tmp 19) (.const (.int .i64 1)), none, []⟩, ⟨(some 21), .makeSl 1 8 [(.int .i64 0)] (.tmp 20) (.tmp 20), none, []⟩, ⟨(some 22), .nilChk (.tmp 14), none, []⟩, ⟨(some 23), .fieldA 6 (.tmp 22), none, []⟩, ⟨none, .store 1 (.tmp 23) (.tmp 21), none, []⟩])
 (.seq (.region false [⟨(some 24), .mov (.tmp 0), none, []⟩, ⟨(some 25), .mov (.tmp 0), none, []⟩, ⟨(some 26), .nilChk (.tmp 25), none, []⟩, ⟨(some 27), .fieldA 0 (.tmp 26), none, []⟩, ⟨(some 28), .fieldA 1 (.tmp 27), none, []⟩, ⟨(some 29), .load none (.tmp 28), none, []⟩, ⟨(some 30), .lenSl (.tmp 29), none, []⟩, ⟨(some 31), .makeSl 1 1 [(.bool false)] (.tmp 30) (.tmp 30), none, []⟩, ⟨(some 32), .nilChk (.tmp 24), none, []⟩, ⟨(some 33), .fieldA 2 (.tmp 32), none, []⟩, ⟨none, .store 1 (.tmp 33) (.tmp 31), none, []⟩])
 (.seq (.region false [⟨(some 34), .mov (.tmp 0), none, []⟩, ⟨(some 35), .mov (.tmp 0), none, []⟩, ⟨(some 36), .nilChk (.tmp 35), none, []⟩, ⟨(some 37), .fieldA 0 (.tmp 36), none, []⟩, ⟨(some 38), .fieldA 1 (.tmp 37), none, []⟩, ⟨(some 39), .load none (.tmp 38), none, []⟩, ⟨(some 40), .lenSl (.tmp 39), none, []⟩, ⟨(some 41), .makeSl 1 8 [(.int .i64 0)] (.tmp 40) (.tmp 40), none, []⟩, ⟨(some 42), .nilChk (.tmp 34), none, []⟩, ⟨(some 43), .fieldA 4 (.tmp 42), none, []⟩, ⟨none, .store 1 (.tmp 43) (.tmp 41), none, []⟩])
 (.seq (.region false [⟨(some 3), .mov (.const (.bool true)), none, []⟩])
 (.seq (.seq (.region false [⟨(some 44), .mov (.tmp 0), none, []⟩, ⟨(some 45), .nilChk (.tmp 44), none, []⟩, ⟨(some 46), .fieldA 0 (.tmp 45), none, []⟩, ⟨(some 47), .fieldA 1 (.tmp 46), none, []⟩, ⟨(some 48), .load none (.tmp 47), none, []⟩, ⟨(some 49), .lenSl (.tmp 48), none, []⟩, ⟨(some 50), .mov (.const (.int .i64 0)), none, []⟩])
 (.block 0 (.loop (.seq (.region false [⟨(some 51), .bin .lss .num (.tmp 50) (.tmp 49), none, []⟩])
 (.seq (.cond (.tmp 51) .skip
 (.exit 0))
 (.seq (.block 1 (.seq (.region false [⟨(some 52), .mov (.tmp 50), none, []⟩, ⟨(some 53), .idxA 6 (.tmp 48) (.tmp 50), none, []⟩, ⟨(some 54), .load (some 6) (.tmp 53), none, []⟩, ⟨(some 5), .alloc [(.int .i64 0), (.int .i64 0), (.int .i64 0), (.int .i64 0), (.int .i64 0), (.bool false)], none, []⟩, ⟨(some 4), .mov (.tmp 52), none, []⟩, ⟨none, .store 6 (.tmp 5) (.tmp 54), none, []⟩])
 (.seq (.region false [⟨(some 55), .fieldA 0 (.tmp 5), none, []⟩, ⟨(some 56), .load none (.tmp 55), none, []⟩, ⟨(some 57), .bin .eql .num (.tmp 56) (.const (.int .i64 1)), none, []⟩])
 (.cond (.tmp 57) (.seq (.region true [⟨(some 58), .mov (.tmp 0), none, []⟩, ⟨(some 59), .nilChk (.tmp 58), none, []⟩, ⟨(some 60), .fieldA 6 (.tmp 59), none, []⟩, ⟨(some 61), .load none (.tmp 60), none, []⟩, ⟨(some 62), .fieldA 1 (.tmp 5), none, []⟩, ⟨(some 63), .load none (.tmp 62), none, []⟩, ⟨(some 64), .idxA 1 (.tmp 61) (.tmp 63), none, []⟩, ⟨(some 65), .load none (.tmp 64), none, []⟩, ⟨(some 66), .bin .add .num (.tmp 65) (.const (.int .i64 1)), none, []⟩, ⟨(some 67), .idxA 1 (.tmp 61) (.tmp 63), none, []⟩, ⟨none, .store 1 (.tmp 67) (.tmp 66), none, []⟩])
 (.seq (.region false [⟨(some 68), .mov (.tmp 0), none, []⟩, ⟨(some 69), .nilChk (.tmp 68), none, []⟩, ⟨(some 70), .fieldA 2 (.tmp 69), none, []⟩, ⟨(some 71), .load none (.tmp 70), none, []⟩, ⟨(some 72), .mov (.tmp 4), none, []⟩, ⟨(some 73), .mov (.tmp 3), none, []⟩, ⟨(some 74), .idxA 1 (.tmp 71) (.tmp 72), none, []⟩, ⟨none, .store 1 (.tmp 74) (.tmp 73), none, []⟩])
 (.region false [⟨(some 75), .mov (.tmp 3), none, []⟩, ⟨(some 76), .un .not (.tmp 75), none, []⟩, ⟨(some 3), .mov (.tmp 76), none, []⟩])))
 .skip))))
 (.region false [⟨(some 77), .bin .add .num (.tmp 50) (.const (.int .i64 1)), none, []⟩, ⟨(some 50), .mov (.tmp 77), none, []⟩])))))))
 (.seq (.region false [⟨(some 78), .mov (.tmp 0), none, []⟩, ⟨(some 79), .nilChk (.tmp 78), none, []⟩, ⟨(some 80), .fieldA 0 (.tmp 79), none, []⟩, ⟨(some 81), .fieldA 0 (.tmp 80), none, []⟩, ⟨(some 82), .load none (.tmp 81), none, []⟩, ⟨(some 83), .bin .add .num (.tmp 82) (.const (.int .i64 1)), none, []⟩, ⟨(some 84), .makeSl 1 8 [(.int .i64 0)] (.tmp 83) (.tmp 83), none, []⟩, ⟨(some 6), .mov (.tmp 84), none, []⟩])
 (.seq (.region false [⟨(some 7), .mov (.const (.int .i64 0)), none, []⟩])
 (.seq (.seq (.region false [⟨(some 85), .mov (.tmp 0), none, []⟩, ⟨(some 86), .nilChk (.tmp 85), none, []⟩, ⟨(some 87), .fieldA 6 (.tmp 86), none, []⟩, ⟨(some 88), .load none (.tmp 87), none, []⟩, ⟨(some 89), .lenSl (.tmp 88), none, []⟩, ⟨(some 90), .mov (.const (.int .i64 0)), none, []⟩])
 (.block 2 (.loop (.seq (.region false [⟨(some 91), .bin .lss .num (.tmp 90) (.tmp 89), none, []⟩])
 (.seq (.cond (.tmp 91) .skip
 (.exit 2))
 (.seq (.block 3 (.seq (.region false [⟨(some 92), .mov (.tmp 90), none, []⟩, ⟨(some 93), .idxA 1 (.tmp 88) (.tmp 90), none, []⟩, ⟨(some 94), .load none (.tmp 93), none, []⟩, ⟨(some 8), .mov (.tmp 92), none, []⟩, ⟨(some 9), .mov (.tmp 94), none, []⟩])
 (.seq (.region false [⟨(some 95), .mov (.tmp 6), none, []⟩, ⟨(some 96), .mov (.tmp 8), none, []⟩, ⟨(some 97), .mov (.tmp 7), none, []⟩, ⟨(some 98), .idxA 1 (.tmp 95) (.tmp 96), none, []⟩, ⟨none, .store 1 (.tmp 98) (.tmp 97), none, []⟩])
 (.region false [⟨(some 99), .mov (.tmp 7), none, []⟩, ⟨(some 100), .mov (.tmp 9), none, []⟩, ⟨(some 101), .bin .add .num (.tmp 99) (.tmp 100), none, []⟩, ⟨(some 7), .mov (.tmp 101), none, []⟩]))))
 (.region false [⟨(some 102), .bin .add .num (.tmp 90) (.const (.int .i64 1)), none, []⟩, ⟨(some 90), .mov (.tmp 102), none, []⟩])))))))
 (.seq (.region false [⟨(some 103), .mov (.tmp 0), none, []⟩, ⟨(some 104), .mov (.tmp 7), none, []⟩, ⟨(some 105), .makeSl 1 8 [(.int .i64 0)] (.tmp 104) (.tmp 104), none, []⟩, ⟨(some 106), .nilChk (.tmp 103), none, []⟩, ⟨(some 107), .fieldA 3 (.tmp 106), none, []⟩, ⟨none, .store 1 (.tmp 107) (.tmp 105), none, []⟩])
 (.seq (.region false [⟨(some 108), .mov (.tmp 7), none, []⟩, ⟨(some 109), .makeSl 1 1 [(.bool false)] (.tmp 108) (.tmp 108), none, []⟩, ⟨(some 10), .mov (.tmp 109), none, []⟩])
 (.seq (.seq (.region false [⟨(some 110), .mov (.tmp 0), none, []⟩, ⟨(some 111), .nilChk (.tmp 110), none, []⟩, ⟨(some 112), .fieldA 0 (.tmp 111), none, []⟩, ⟨(some 113), .fieldA 1 (.tmp 112), none, []⟩, ⟨(some 114), .load none (.tmp 113), none, []⟩, ⟨(some 115), .lenSl (.tmp 114), none, []⟩, ⟨(some 116), .mov (.const (.int .i64 0)), none, []⟩])
 (.block 4 (.loop (.seq (.region false [⟨(some 117), .bin .lss .num (.tmp 116) (.tmp 115), none, []⟩])
 (.seq (.cond (.tmp 117) .skip
 (.exit 4))
 (.seq (.block 5 (.seq (.region false [⟨(some 118), .mov (.tmp 116), none, []⟩, ⟨(some 119), .idxA 6 (.tmp 114) (.tmp 116), none, []⟩, ⟨(some 120), .load (some 6) (.tmp 119), none, []⟩, ⟨(some 12), .alloc [(.int .i64 0), (.int .i64 0), (.int .i64 0), (.int .i64 0), (.int .i64 0), (.bool false)], none, []⟩, ⟨(some 11), .mov (.tmp 118), none, []⟩, ⟨none, .store 6 (.tmp 12) (.tmp 120), none, []⟩])
 (.seq (.seq (.region false [⟨(some 121), .fieldA 0 (.tmp 12), none, []⟩, ⟨(some 122), .load none (.tmp 121), none, []⟩, ⟨(some 123), .bin .neq .num (.tmp 122) (.const (.int .i64 1)), none, []⟩])
 (.cond (.tmp 123) (.exit 5)
 .skip))
 (.seq (.seq (.region true [⟨(some 124), .fieldA 2 (.tmp 12), none, []⟩, ⟨(some 125), .load none (.tmp 124), none, []⟩, ⟨(some 126), .bin .lss .num (.tmp 125) (.const (.int .i64 1)), none, []⟩, ⟨(some 127), .mov (.tmp 126), none, []⟩, ⟨(some 128), .fieldA 2 (.tmp 12), (some (127, false)), []⟩, ⟨(some 129), .load none (.tmp 128), (some (127, false)), []⟩, ⟨(some 130), .mov (.tmp 0), (some (127, false)), []⟩, ⟨(some 131), .nilChk (.tmp 130), (some (127, false)), []⟩, ⟨(some 132), .fieldA 6 (.tmp 131), (some (127, false)), []⟩, ⟨(some 133), .load none (.tmp 132), (some (127, false)), []⟩, ⟨(some 134), .fieldA 1 (.tmp 12), (some (127, false)), []⟩, ⟨(some 135), .load none (.tmp 134), (some (127, false)), []⟩, ⟨(some 136), .idxA 1 (.tmp 133) (.tmp 135), (some (127, false)), []⟩, ⟨(some 137), .load none (.tmp 136), (some (127, false)), []⟩, ⟨(some 138), .bin .gtr .num (.tmp 129) (.tmp 137), (some (127, false)), []⟩, ⟨(some 139), .pick (.tmp 127) (.const (.bool true)) (.tmp 138), none, []⟩])
 (.cond (.tmp 139) (.seq (.region false [⟨(some 2), .mov (.const (.bool false)), none, []⟩])
 .ret)
 .skip))
 (.seq (.region true [⟨(some 140), .mov (.tmp 6), none, []⟩, ⟨(some 141), .fieldA 1 (.tmp 12), none, []⟩, ⟨(some 142), .load none (.tmp 141), none, []⟩, ⟨(some 143), .idxA 1 (.tmp 140) (.tmp 142), none, []⟩, ⟨(some 144), .load none (.tmp 143), none, []⟩, ⟨(some 145), .fieldA 2 (.tmp 12), none, []⟩, ⟨(some 146), .load none (.tmp 145), none, []⟩, ⟨(some 147), .bin .add .num (.tmp 144) (.tmp 146), none, []⟩, ⟨(some 148), .bin .sub .num (.tmp 147) (.const (.int .i64 1)), none, []⟩, ⟨(some 13), .mov (.tmp 148), none, []⟩])
 (.seq (.seq (.region false [⟨(some 149), .mov (.tmp 10), none, []⟩, ⟨(some 150), .mov (.tmp 13), none, []⟩, ⟨(some 151), .idxA 1 (.tmp 149) (.tmp 150), none, []⟩, ⟨(some 152), .load none (.tmp 151), none, []⟩])
 (.cond (.tmp 152) (.seq (.region false [⟨(some 2), .mov (.const (.bool false)), none, []⟩])
 .ret)
 .skip))
 (.region true [⟨(some 153), .mov (.tmp 10), none, []⟩, ⟨(some 154), .mov (.tmp 13), none, []⟩, ⟨(some 155), .mov (.tmp 0), none, []⟩, ⟨(some 156), .nilChk (.tmp 155), none, []⟩, ⟨(some 157), .fieldA 3 (.tmp 156), none, []⟩, ⟨(some 158), .load none (.tmp 157), none, []⟩, ⟨(some 159), .mov (.tmp 13), none, []⟩, ⟨(some 160), .mov (.tmp 0), none, []⟩, ⟨(some 161), .nilChk (.tmp 160), none, []⟩, ⟨(some 162), .fieldA 4 (.tmp 161), none, []⟩, ⟨(some 163), .load none (.tmp 162), none, []⟩, ⟨(some 164), .mov (.tmp 11), none, []⟩, ⟨(some 165), .mov (.tmp 11), none, []⟩, ⟨(some 166), .mov (.tmp 13), none, []⟩, ⟨(some 167), .idxA 1 (.tmp 153) (.tmp 154), none, []⟩, ⟨none, .store 1 (.tmp 167) (.const (.bool true)), none, []⟩, ⟨(some 168), .idxA 1 (.tmp 158) (.tmp 159), none, []⟩, ⟨none, .store 1 (.tmp 168) (.tmp 165), none, []⟩, ⟨(some 169), .idxA 1 (.tmp 163) (.tmp 164), none, []⟩, ⟨none, .store 1 (.tmp 169) (.tmp 166), none, []⟩])))))))
 (.region false [⟨(some 170), .bin .add .num (.tmp 116) (.const (.int .i64 1)), none, []⟩, ⟨(some 116), .mov (.tmp 170), none, []⟩])))))))
 (.seq (.region false [⟨(some 2), .mov (.const (.bool true)), none, []⟩])
 .ret)))))))))))))⟩
theorem cf133 : cFn Tryz.prog Tryz.f133 = some af133 := by kernel_rfl
theorem gd133 : Go.AE.Good Tryz.prog (133, af133) := ⟨⟨_, Tryz.func133, cf133⟩, by kernel_rfl, by kernel_rfl, by kernel_rfl⟩
def af134 : AFn := ⟨103, [(2, none)], (.seq (.region false [⟨(some 2), .mov (.const (.bool false)), none, []⟩])
 (.seq (.region false [⟨(some 9), .mov (.tmp 0), none, []⟩, ⟨(some 10), .nilChk (.tmp 9), none, []⟩, ⟨(some 11), .fieldA 0 (.tmp 10), none, []⟩, ⟨(some 12), .load (some 2) (.tmp 11), none, []⟩, ⟨(some 13), .call (.fn 103) [(.tmp 12)], none, []⟩, ⟨(some 3), .mov (.tmp 13), none, []⟩])
 (.seq (.seq (.region false [⟨(some 14), .mov (.tmp 3), none, []⟩, ⟨(some 15), .bin .rem .num (.tmp 14) (.const (.int .i64 2)), none, []⟩, ⟨(some 16), .bin .neq .num (.tmp 15) (.const (.int .i64 0)), none, []⟩])
 (.cond (.tmp 16) (.seq (.region false [⟨(some 2), .mov (.const (.bool false)), none, []⟩])
 .ret)
 .skip))
 (.seq (.region false [⟨(some 17), .mov (.tmp 0), none, []⟩, ⟨(some 18), .mkMap, none, []⟩, ⟨(some 19), .nilChk (.tmp 17), none, []⟩, ⟨(some 20), .fieldA 5 (.tmp 19), none, []⟩, ⟨none, .store 1 (.tmp 20) (.tmp 18), none, []⟩])
 (.seq (.seq (.region false [⟨(some 21), .mov (.tmp 0), none, []⟩, ⟨(some 22), .nilChk (.tmp 21), none, []⟩, ⟨(some 23), .fieldA 0 (.tmp 22), none, []⟩, ⟨(some 24), .fieldA 1 (.tmp 23), none, []⟩, ⟨(some 25), .load none (.tmp 24), none, []⟩, ⟨(some 26), .lenSl (.tmp 25), none, []⟩, ⟨(some 27), .mov (.const (.int .i64 0)), none, []⟩])
 (.block 0 (.loop (.seq (.region false [⟨(some 28), .bin .lss .num (.tmp 27) (.tmp 26), none, []⟩])
 (.seq (.cond (.tmp 28) .skip
 (.exit 0))
 (.seq (.block 1 (.seq (.region false [⟨(some 29), .mov (.tmp 27), none, []⟩, ⟨(some 30), .idxA 6 (.tmp 25) (.tmp 27), none, []⟩, ⟨(some 31), .load (some 6) (.tmp 30), none, []⟩, ⟨(some 5), .alloc [(.int .i64 0), (.int .i64 0), (.int .i64 0), (.int .i64 0), (.int .i64 0), (.bool false)], none, []⟩, ⟨(some 4), .mov (.tmp 29), none, []⟩, ⟨none, .store 6 (.tmp 5) (.tmp 31), none, []⟩])
 (.seq (.seq (.region false [⟨(some 32), .fieldA 0 (.tmp 5), none, []⟩, ⟨(some 33), .load none (.tmp 32), none, []⟩, ⟨(some 34), .bin .neq .num (.tmp 33) (.const (.int .i64 2)), none, []⟩])
 (.cond (.tmp 34) (.exit 1)
 .skip))
 (.seq (.seq (.region false [⟨(some 35), .fieldA 3 (.tmp 5), none, []⟩, ⟨(some 36), .load none (.tmp 35), none, []⟩, ⟨(some 37), .bin .lss .num (.tmp 36) (.const (.int .i64 1)), none, []⟩, ⟨(some 38), .mov (.tmp 37), none, []⟩, ⟨(some 39), .fieldA 3 (.tmp 5), (some (38, false)), []⟩, ⟨(some 40), .load none (.tmp 39), (some (38, false)), []⟩, ⟨(some 41), .mov (.tmp 3), (some (38, false)), []⟩, ⟨(some 42), .bin .quo .num (.tmp 41) (.const (.int .i64 2)), (some (38, false)), []⟩, ⟨(some 43), .bin .gtr .num (.tmp 40) (.tmp 42), (some (38, false)), []⟩, ⟨(some 44), .pick (.tmp 38) (.const (.bool true)) (.tmp 43), none, []⟩])
 (.cond (.tmp 44) (.seq (.region false [⟨(some 2), .mov (.const (.bool false)), none, []⟩])
 .ret)
 .skip))
 (.seq (.region true [⟨(some 46), .mov (.tmp 0), none, []⟩, ⟨(some 47), .nilChk (.tmp 46), none, []⟩, ⟨(some 48), .fieldA 5 (.tmp 47), none, []⟩, ⟨(some 49), .load none (.tmp 48), none, []⟩, ⟨(some 50), .fieldA 3 (.tmp 5), none, []⟩, ⟨(some 51), .load none (.tmp 50), none, []⟩, ⟨(some 52), .lookup .int (.agg [(.int .i64 0), (.int .i64 0)]) true (.tmp 49) (.tmp 51), none, []⟩, ⟨(some 45), .mov (.tmp 52), none, []⟩, ⟨(some 53), .ext (.tmp 45) 0, none, []⟩, ⟨(some 54), .ext (.tmp 45) 1, none, []⟩, ⟨(some 6), .alloc [(.int .i64 0), (.int .i64 0)], none, [3, 5, 6]⟩, ⟨none, .store 2 (.tmp 6) (.tmp 53), none, []⟩, ⟨(some 7), .mov (.tmp 54), none, []⟩])
 (.seq (.seq (.region false [⟨(some 55), .mov (.tmp 7), none, []⟩, ⟨(some 56), .un .not (.tmp 55), none, []⟩])
 (.cond (.tmp 56) (.region false [⟨(some 57), .build [(.int .i64 0), (.int .i64 0)] [(0, 1, (.const (.int .i64 (-1)))), (1, 1, (.const (.int .i64 (-1))))], none, []⟩, ⟨none, .store 2 (.tmp 6) (.tmp 57), none, []⟩])
 .skip))
 (.seq (.region false [⟨(some 8), .mov (.const (.int .i64 0)), none, []⟩])
 (.seq (.seq (.region false [⟨(some 58), .fieldA 5 (.tmp 5), none, []⟩, ⟨(some 59), .load none (.tmp 58), none, []⟩])
 (.cond (.tmp 59) (.region false [⟨(some 8), .mov (.const (.int .i64 1)), none, []⟩])
 .skip))
 (.seq (.seq (.region true [⟨(some 60), .mov (.tmp 8), none, []⟩, ⟨(some 61), .idxAA 2 1 (.tmp 6) (.tmp 60), none, []⟩, ⟨(some 62), .load none (.tmp 61), none, []⟩, ⟨(some 63), .bin .geq .num (.tmp 62) (.const (.int .i64 0)), none, []⟩, ⟨(some 64), .mov (.tmp 63), none, []⟩, ⟨(some 65), .mov (.tmp 7), (some (64, false)), []⟩, ⟨(some 66), .mov (.tmp 65), (some (64, false)), []⟩, ⟨(some 67), .mov (.tmp 0), (some (66, true)), []⟩, ⟨(some 68), .nilChk (.tmp 67), (some (66, true)), []⟩, ⟨(some 69), .fieldA 0 (.tmp 68), (some (66, true)), []⟩, ⟨(some 70), .fieldA 1 (.tmp 69), (some (66, true)), []⟩, ⟨(some 71), .load none (.tmp 70), (some (66, true)), []⟩, ⟨(some 72), .mov (.tmp 8), (some (66, true)), []⟩, ⟨(some 73), .bin .sub .num (.const (.int .i64 1)) (.tmp 72), (some (66, true)), []⟩, ⟨(some 74), .idxAA 2 1 (.tmp 6) (.tmp 73), (some (66, true)), []⟩, ⟨(some 75), .load none (.tmp 74), (some (66, true)), []⟩, ⟨(some 76), .idxA 6 (.tmp 71) (.tmp 75), (some (66, true)), []⟩, ⟨(some 77), .fieldA 4 (.tmp 76), (some (66, true)), []⟩, ⟨(some 78), .load none (.tmp 77), (some (66, true)), []⟩, ⟨(some 79), .fieldA 4 (.tmp 5), (some (66, true)), []⟩, ⟨(some 80), .load none (.tmp 79), (some (66, true)), []⟩, ⟨(some 81), .bin .neq .num (.tmp 78) (.tmp 80), (some (66, true)), []⟩, ⟨(some 82), .pick (.tmp 66) (.tmp 81) (.const (.bool false)), (some (64, false)), []⟩, ⟨(some 83), .pick (.tmp 64) (.const (.bool true)) (.tmp 82), none, []⟩])
 (.cond (.tmp 83) (.seq (.region false [⟨(some 2), .mov (.const (.bool false)), none, []⟩])
 .ret)
 .skip))
 (.seq (.region false [⟨(some 84), .mov (.tmp 8), none, []⟩, ⟨(some 85), .mov (.tmp 4), none, []⟩, ⟨(some 86), .idxAA 2 1 (.tmp 6) (.tmp 84), none, []⟩, ⟨none, .store 1 (.tmp 86) (.tmp 85), none, []⟩])
 (.region true [⟨(some 87), .mov (.tmp 0), none, []⟩, ⟨(some 88), .nilChk (.tmp 87), none, []⟩, ⟨(some 89), .fieldA 5 (.tmp 88), none, []⟩, ⟨(some 90), .load none (.tmp 89), none, []⟩, ⟨(some 91), .fieldA 3 (.tmp 5), none, []⟩, ⟨(some 92), .load none (.tmp 91), none, []⟩, ⟨(some 93), .load (some 2) (.tmp 6), none, []⟩, ⟨none, .mapUpd .int (.tmp 90) (.tmp 92) (.tmp 93), none, []⟩])))))))))))
 (.region false [⟨(some 94), .bin .add .num (.tmp 27) (.const (.int .i64 1)), none, []⟩, ⟨(some 27), .mov (.tmp 94), none, []⟩])))))))
 (.seq (.region false [⟨(some 95), .mov (.tmp 0), none, []⟩, ⟨(some 96), .nilChk (.tmp 95), none, []⟩, ⟨(some 97), .fieldA 5 (.tmp 96), none, []⟩, ⟨(some 98), .load none (.tmp 97), none, []⟩, ⟨(some 99), .lenMap (.tmp 98), none, []⟩, ⟨(some 100), .mov (.tmp 3), none, []⟩, ⟨(some 101), .bin .quo .num (.tmp 100) (.const (.int .i64 2)), none, []⟩, ⟨(some 102), .bin .eql .num (.tmp 99) (.tmp 101), none, []⟩, ⟨(some 2), .mov (.tmp 102), none, []⟩])
 .ret))))))⟩
theorem cf134 : cFn Tryz.prog Tryz.f134 = some af134 := by kernel_rfl
theorem gd134 : Go.AE.Good Tryz.prog (134, af134) := ⟨⟨_, Tryz.func134, cf134⟩, by kernel_rfl, by kernel_rfl, by kernel_rfl⟩
def af135 : AFn := ⟨61, [(2, none)], (.seq (.region false [⟨(some 2), .mov (.const (.bool false)), none, []⟩])
 (.seq (.region true [⟨(some 8), .mov (.tmp 0), none, []⟩, ⟨(some 9), .nilChk (.tmp 8), none, []⟩, ⟨(some 10), .fieldA 0 (.tmp 9), none, []⟩, ⟨(some 11), .fieldA 1 (.tmp 10), none, []⟩, ⟨(some 12), .load none (.tmp 11), none, []⟩, ⟨(some 13), .lenSl (.tmp 12), none, []⟩, ⟨(some 14), .bin .mul .num (.const (.int .i64 2)) (.tmp 13), none, []⟩, ⟨(some 15), .mov (.tmp 0), none, []⟩, ⟨(some 16), .nilChk (.tmp 15), none, []⟩, ⟨(some 17), .fieldA 3 (.tmp 16), none, []⟩, ⟨(some 18), .load none (.tmp 17), none, []⟩, ⟨(some 19), .lenSl (.tmp 18), none, []⟩, ⟨(some 20), .bin .mul .num (.const (.int .i64 2)) (.tmp 19), none, []⟩, ⟨(some 21), .bin .add .num (.tmp 14) (.tmp 20), none, []⟩, ⟨(some 3), .mov (.tmp 21), none, []⟩])
 (.seq (.region false [⟨(some 22), .mov (.tmp 3), none, []⟩, ⟨(some 23), .makeSl 1 1 [(.bool false)] (.tmp 22) (.tmp 22), none, []⟩, ⟨(some 4), .mov (.tmp 23), none, []⟩])
 (.seq (.region false [⟨(some 5), .mov (.const (.int .i64 0)), none, []⟩])
 (.seq (.seq (.region false [⟨(some 24), .mov (.tmp 3), none, []⟩, ⟨(some 25), .mov (.const (.int .i64 0)), none, []⟩])
 (.block 0 (.loop (.seq (.region false [⟨(some 26), .bin .lss .num (.tmp 25) (.tmp 24), none, []⟩])
 (.seq (.cond (.tmp 26) .skip
 (.exit 0))
 (.seq (.block 1 (.seq (.region false [⟨(some 27), .mov (.tmp 25), none, []⟩, ⟨(some 6), .mov (.tmp 27), none, []⟩])
 (.seq (.seq (.region false [⟨(some 28), .mov (.tmp 4), none, []⟩, ⟨(some 29), .mov (.tmp 6), none, []⟩, ⟨(some 30), .idxA 1 (.tmp 28) (.tmp 29), none, []⟩, ⟨(some 31), .load none (.tmp 30), none, []⟩])
 (.cond (.tmp 31) (.exit 1)
 .skip))
 (.seq (.region false [⟨(some 32), .mov (.tmp 5), none, []⟩, ⟨(some 33), .bin .add .num (.tmp 32) (.const (.int .i64 1)), none, []⟩, ⟨(some 5), .mov (.tmp 33), none, []⟩])
 (.seq (.region false [⟨(some 34), .mov (.tmp 6), none, []⟩, ⟨(some 7), .mov (.tmp 34), none, []⟩])
 (.block 2 (.loop (.seq (.seq (.region false [⟨(some 35), .mov (.tmp 4), none, []⟩, ⟨(some 36), .mov (.tmp 7), none, []⟩, ⟨(some 37), .idxA 1 (.tmp 35) (.tmp 36), none, []⟩, ⟨(some 38), .load none (.tmp 37), none, []⟩, ⟨(some 39), .un .not (.tmp 38), none, []⟩])
 (.cond (.tmp 39) .skip
 (.exit 2)))
 (.seq (.block 3 (.region false [⟨(some 43), .mov (.tmp 4), none, []⟩, ⟨(some 44), .mov (.tmp 7), none, []⟩, ⟨(some 45), .idxA 1 (.tmp 43) (.tmp 44), none, []⟩, ⟨none, .store 1 (.tmp 45) (.const (.bool true)), none, []⟩]))
 (.region false [⟨(some 40), .mov (.tmp 0), none, []⟩, ⟨(some 41), .mov (.tmp 7), none, []⟩, ⟨(some 42), .call (.fn 105) [(.tmp 40), (.tmp 41)], none, []⟩, ⟨(some 7), .mov (.tmp 42), none, []⟩]))))))))))
 (.region false [⟨(some 46), .bin .add .num (.tmp 25) (.const (.int .i64 1)), none, []⟩, ⟨(some 25), .mov (.tmp 46), none, []⟩])))))))
 (.seq (.region true [⟨(some 47), .mov (.tmp 5), none, []⟩, ⟨(some 48), .mov (.tmp 0), none, []⟩, ⟨(some 49), .nilChk (.tmp 48), none, []⟩, ⟨(some 50), .fieldA 3 (.tmp 49), none, []⟩, ⟨(some 51), .load none (.tmp 50), none, []⟩, ⟨(some 52), .lenSl (.tmp 51), none, []⟩, ⟨(some 53), .mov (.tmp 0), none, []⟩, ⟨(some 54), .nilChk (.tmp 53), none, []⟩, ⟨(some 55), .fieldA 5 (.tmp 54), none, []⟩, ⟨(some 56), .load none (.tmp 55), none, []⟩, ⟨(some 57), .lenMap (.tmp 56), none, []⟩, ⟨(some 58), .bin .add .num (.tmp 52) (.tmp 57), none, []⟩, ⟨(some 59), .bin .add .num (.tmp 58) (.const (.int .i64 2)), none, []⟩, ⟨(some 60), .bin .eql .num (.tmp 47) (.tmp 59), none, []⟩, ⟨(some 2), .mov (.tmp 60), none, []⟩])
 .ret))))))⟩
theorem cf135 : cFn Tryz.prog Tryz.f135 = some af135 := by kernel_rfl
theorem gd135 : Go.AE.Good Tryz.prog (135, af135) := ⟨⟨_, Tryz.func135, cf135⟩, by kernel_rfl, by kernel_rfl, by kernel_rfl⟩
def af136 : AFn := ⟨20, [(4, none)], (.seq (.region false [⟨(some 4), .mov (.const (.int .i64 0)), none, []⟩])
 (.seq (.region false [⟨(some 6), .mov (.tmp 0), none, []⟩, ⟨(some 7), .nilChk (.tmp 6), none, []⟩, ⟨(some 8), .fieldA 0 (.tmp 7), none, []⟩, ⟨(some 9), .fieldA 1 (.tmp 8), none, []⟩, ⟨(some 10), .load none (.tmp 9), none, []⟩, ⟨(some 11), .lenSl (.tmp 10), none, []⟩, ⟨(some 5), .mov (.tmp 11), none, []⟩])
 (.seq (.region false [⟨(some 12), .mov (.tmp 1), none, []⟩, ⟨(some 13), .bin .sub .num (.tmp 12) (.const (.int .i64 1)), none, []⟩, ⟨(some 14), .mov (.tmp 5), none, []⟩, ⟨(some 15), .bin .add .num (.tmp 13) (.tmp 14), none, []⟩, ⟨(some 16), .mov (.tmp 5), none, []⟩, ⟨(some 17), .bin .rem .num (.tmp 15) (.tmp 16), none, []⟩, ⟨(some 18), .bin .mul .num (.const (.int .i64 2)) (.tmp 17), none, []⟩, ⟨(some 19), .bin .add .num (.tmp 18) (.const (.int .i64 1)), none, []⟩, ⟨(some 4), .mov (.tmp 19), none, []⟩])
 .ret)))⟩
theorem cf136 : cFn Tryz.prog Tryz.f136 = some af136 := by kernel_rfl
theorem gd136 : Go.AE.Good Tryz.prog (136, af136) := ⟨⟨_, Tryz.func136, cf136⟩, by kernel_rfl, by kernel_rfl, by kernel_rfl⟩
def af137 : AFn := ⟨7, [(4, none)], (.seq (.region false [⟨(some 4), .mov (.const (.int .i64 0)), none, []⟩])
 (.seq (.region false [⟨(some 5), .mov (.tmp 1), none, []⟩, ⟨(some 6), .bin .mul .num (.const (.int .i64 2)) (.tmp 5), none, []⟩, ⟨(some 4), .mov (.tmp 6), none, []⟩])
 .ret))⟩
theorem cf137 : cFn Tryz.prog Tryz.f137 = some af137 := by kernel_rfl
theorem gd137 : Go.AE.Good Tryz.prog (137, af137) := ⟨⟨_, Tryz.func137, cf137⟩, by kernel_rfl, by kernel_rfl, by kernel_rfl⟩
def af139 : AFn := ⟨45, [(2, none)], (.seq (.region false [oZ 2 (.mov (.const .nilSl))])
 (.seq (.region false [oZ 6 (.mov (tZ 0)), oZ 7 (.nilChk (tZ 6)), oZ 8 (.fieldA 0 (tZ 7)), oZ 9 (.fieldA 1 (tZ 8)), oZ 10 (.load none (tZ 9)), oZ 11 (.call (.fn 31) [(tZ 10)]), oZ 3 (.mov (tZ 11))])
 (.seq (.region false [oZ 12 (.mov (tZ 3)), oZ 13 (.call (.fn 169) [(tZ 12)])])
 (.seq (.seq (.region false [oZ 14 (.mov (tZ 3)), oZ 15 (.lenSl (tZ 14)), oZ 16 (.mov (kZ 0))])
 (.block 0 (.loop (.seq (.region false [oZ 17 (.bin .lss .num (tZ 16) (tZ 15))])
 (.seq (.cond (tZ 17) .skip
 (.exit 0))
 (.seq (.block 1 (.seq (.region false [oZ 18 (.mov (tZ 16)), oZ 4 (.mov (tZ 18))])
 (.seq (.region false [oZ 19 (.mov (tZ 3)), oZ 20 (.lenSl (tZ 19)), oZ 21 (.bin .sub .num (tZ 20) (kZ 1)), oZ 22 (.mov (tZ 4)), oZ 23 (.bin .sub .num (tZ 21) (tZ 22)), oZ 5 (.mov (tZ 23))])
 (.seq (.region false [oZ 24 (.mov (tZ 3)), oZ 25 (.mov (tZ 4)), oZ 26 (.idxA 6 (tZ 24) (tZ 25)), oZ 27 (.fieldA 0 (tZ 26)), oZ 28 (.load none (tZ 27)), oZ 29 (.bin .eql .num (tZ 28) (kZ 1)), oZ 30 (.mov (tZ 29)), gZ 31 30 true (.mov (tZ 0)), gZ 32 30 true (.nilChk (tZ 31)), gZ 33 30 true (.fieldA 2 (tZ 32)), gZ 34 30 true (.load none (tZ 33)), gZ 35 30 true (.mov (tZ 5)), gZ 36 30 true (.idxA 1 (tZ 34) (tZ 35)), gZ 37 30 true (.load none (tZ 36)), gZ 38 30 true (.un .not (tZ 37)), oZ 39 (.pick (tZ 30) (tZ 38) (bZ false))])
 (.cond (tZ 39) (.seq (.region false [oZ 40 (.mov (tZ 3)), oZ 41 (.mov (tZ 4)), oZ 42 (.call (.fn 56) [(tZ 40), (tZ 41)]), oZ 2 (.mov (tZ 42))])
 .ret)
 .skip)))))
 (.region false [oZ 43 (.bin .add .num (tZ 16) (kZ 1)), oZ 16 (.mov (tZ 43))])))))))
 (.seq (.region false [oZ 44 (.mov (tZ 3)), oZ 2 (.mov (tZ 44))])
 .ret)))))⟩
theorem cf139 : cFn Tryz.prog Tryz.f139 = some af139 := by kernel_rfl
theorem gd139 : Go.AE.Good Tryz.prog (139, af139) := ⟨⟨_, Tryz.func139, cf139⟩, by kernel_rfl, by kernel_rfl, by kernel_rfl⟩
def af140 : AFn := ⟨41, [(2, none)], (.seq (.region false [oZ 2 (.mov (.const .nilSl))])
 (.seq (.region false [oZ 7 (.mkMap), oZ 3 (.mov (tZ 7))])
 (.seq (.region false [oZ 8 (.mov (tZ 0)), oZ 9 (.call (.fn 31) [(tZ 8)]), oZ 4 (.mov (tZ 9))])
 (.seq (.seq (.region false [oZ 10 (.mov (tZ 4)), oZ 11 (.lenSl (tZ 10)), oZ 12 (.mov (kZ 0))])
 (.block 0 (.loop (.seq (.region false [oZ 13 (.bin .lss .num (tZ 12) (tZ 11))])
 (.seq (.cond (tZ 13) .skip
 (.exit 0))
 (.seq (.block 1 (.seq (.region false [oZ 14 (.mov (tZ 12)), oZ 15 (.idxA 6 (tZ 10) (tZ 12)), oZ 16 (.load (some 6) (tZ 15)), oZ 6 (.alloc [(.int .i64 0), (.int .i64 0), (.int .i64 0), (.int .i64 0), (.int .i64 0), (.bool false)]), oZ 5 (.mov (tZ 14)), pZ (.store 6 (tZ 6) (tZ 16))])
 (.seq (.seq (.region false [oZ 17 (.fieldA 0 (tZ 6)), oZ 18 (.load none (tZ 17)), oZ 19 (.bin .neq .num (tZ 18) (kZ 2))])
 (.cond (tZ 19) (.exit 1)
 .skip))
 (.seq (.seq (.region false [oZ 20 (.mov (tZ 3)), oZ 21 (.fieldA 3 (tZ 6)), oZ 22 (.load none (tZ 21)), oZ 23 (.lookup .int (.int .i64 0) false (tZ 20) (tZ 22)), oZ 24 (.bin .eql .num (tZ 23) (kZ 0))])
 (.cond (tZ 24) (.region false [oZ 25 (.mov (tZ 3)), oZ 26 (.fieldA 3 (tZ 6)), oZ 27 (.load none (tZ 26)), oZ 28 (.mov (tZ 3)), oZ 29 (.lenMap (tZ 28)), oZ 30 (.bin .add .num (tZ 29) (kZ 1)), pZ (.mapUpd .int (tZ 25) (tZ 27) (tZ 30))])
 .skip))
 (.region false [oZ 31 (.mov (tZ 4)), oZ 32 (.mov (tZ 5)), oZ 33 (.mov (tZ 3)), oZ 34 (.fieldA 3 (tZ 6)), oZ 35 (.load none (tZ 34)), oZ 36 (.lookup .int (.int .i64 0) false (tZ 33) (tZ 35)), oZ 37 (.idxA 6 (tZ 31) (tZ 32)), oZ 38 (.fieldA 3 (tZ 37)), pZ (.store 1 (tZ 38) (tZ 36))])))))
 (.region false [oZ 39 (.bin .add .num (tZ 12) (kZ 1)), oZ 12 (.mov (tZ 39))])))))))
 (.seq (.region false [oZ 40 (.mov (tZ 4)), oZ 2 (.mov (tZ 40))])
 .ret)))))⟩
theorem cf140 : cFn Tryz.prog Tryz.f140 = some af140 := by kernel_rfl
theorem gd140 : Go.AE.Good Tryz.prog (140, af140) := ⟨⟨_, Tryz.func140, cf140⟩, by kernel_rfl, by kernel_rfl, by kernel_rfl⟩
def af141 : AFn := ⟨30, [(4, none)], (.seq (.region false [oZ 4 (.mov (bZ false))])
 (.seq (.seq (.region false [oZ 6 (.mov (tZ 0)), oZ 7 (.lenSl (tZ 6)), oZ 8 (.mov (kZ 0))])
 (.block 0 (.loop (.seq (.region false [oZ 9 (.bin .lss .num (tZ 8) (tZ 7))])
 (.seq (.cond (tZ 9) .skip
 (.exit 0))
 (.seq (.block 1 (.seq (.region false [oZ 10 (.mov (tZ 8)), oZ 5 (.mov (tZ 10))])
 (.seq (.seq (.region true [oZ 11 (.mov (tZ 0)), oZ 12 (.mov (tZ 5)), oZ 13 (.idxA 6 (tZ 11) (tZ 12)), oZ 14 (.load (some 6) (tZ 13)), oZ 15 (.mov (tZ 1)), oZ 16 (.mov (tZ 5)), oZ 17 (.idxA 6 (tZ 15) (tZ 16)), oZ 18 (.load (some 6) (tZ 17)), oZ 19 (.bin .eql (.flat [.int, .int, .int, .int, .int, .bool]) (tZ 14) (tZ 18))])
 (.cond (tZ 19) (.exit 1)
 .skip))
 (.seq (.region true [oZ 20 (.mov (tZ 0)), oZ 21 (.mov (tZ 5)), oZ 22 (.idxA 6 (tZ 20) (tZ 21)), oZ 23 (.load (some 6) (tZ 22)), oZ 24 (.mov (tZ 1)), oZ 25 (.mov (tZ 5)), oZ 26 (.idxA 6 (tZ 24) (tZ 25)), oZ 27 (.load (some 6) (tZ 26)), oZ 28 (.call (.fn 170) [(tZ 23), (tZ 27)]), oZ 4 (.mov (tZ 28))])
 .ret))))
 (.region false [oZ 29 (.bin .add .num (tZ 8) (kZ 1)), oZ 8 (.mov (tZ 29))])))))))
 (.seq (.region false [oZ 4 (.mov (bZ false))])
 .ret)))⟩
theorem cf141 : cFn Tryz.prog Tryz.f141 = some af141 := by kernel_rfl
theorem gd141 : Go.AE.Good Tryz.prog (141, af141) := ⟨⟨_, Tryz.func141, cf141⟩, by kernel_rfl, by kernel_rfl, by kernel_rfl⟩
def af142 : AFn := ⟨15, [(2, none)], (.seq (.region false [oZ 2 (.mov (.const (.str [])))])
 (.seq (.seq (.region false [oZ 3 (.mov (tZ 0)), oZ 4 (.bin .lss .num (tZ 3) (kZ 10))])
 (.cond (tZ 4) (.seq (.region false [oZ 5 (.mov (tZ 0)), oZ 6 (.mov (tZ 0)), oZ 7 (.bin .add .num (tZ 6) (kZ 1)), oZ 8 (.slStr (.const (.str [48, 49, 50, 51, 52, 53, 54, 55, 56, 57, 97, 98, 99, 100, 101, 102, 103, 104, 105, 106, 107, 108, 109, 110, 111, 112, 113, 114, 115, 116, 117, 118, 119, 120, 121, 122])) (some (tZ 5)) (some (tZ 7))), oZ 2 (.mov (tZ 8))])
 .ret)
 .skip))
 (.seq (.region false [oZ 9 (.mov (tZ 0)), oZ 10 (.bin .mul .num (tZ 9) (kZ 2)), oZ 11 (.mov (tZ 0)), oZ 12 (.bin .mul .num (tZ 11) (kZ 2)), oZ 13 (.bin .add .num (tZ 12) (kZ 2)), oZ 14 (.slStr (.const (.str [48, 48, 48, 49, 48, 50, 48, 51, 48, 52, 48, 53, 48, 54, 48, 55, 48, 56, 48, 57, 49, 48, 49, 49, 49, 50, 49, 51, 49, 52, 49, 53, 49, 54, 49, 55, 49, 56, 49, 57, 50, 48, 50, 49, 50, 50, 50, 51, 50, 52, 50, 53, 50, 54, 50, 55, 50, 56, 50, 57, 51, 48, 51, 49, 51, 50, 51, 51, 51, 52, 51, 53, 51, 54, 51, 55, 51, 56, 51, 57, 52, 48, 52, 49, 52, 50, 52, 51, 52, 52, 52, 53, 52, 54, 52, 55, 52, 56, 52, 57, 53, 48, 53, 49, 53, 50, 53, 51, 53, 52, 53, 53, 53, 54, 53, 55, 53, 56, 53, 57, 54, 48, 54, 49, 54, 50, 54, 51, 54, 52, 54, 53, 54, 54, 54, 55, 54, 56, 54, 57, 55, 48, 55, 49, 55, 50, 55, 51, 55, 52, 55, 53, 55, 54, 55, 55, 55, 56, 55, 57, 56, 48, 56, 49, 56, 50, 56, 51, 56, 52, 56, 53, 56, 54, 56, 55, 56, 56, 56, 57, 57, 48, 57, 49, 57, 50, 57, 51, 57, 52, 57, 53, 57, 54, 57, 55, 57, 56, 57, 57])) (some (tZ 10)) (some (tZ 13))), oZ 2 (.mov (tZ 14))])
 .ret)))⟩
theorem cf142 : cFn Tryz.prog Tryz.f142 = some af142 := by kernel_rfl
theorem gd142 : Go.AE.Good Tryz.prog (142, af142) := ⟨⟨_, Tryz.func142, cf142⟩, by kernel_rfl, by kernel_rfl, by kernel_rfl⟩
def af147 : AFn := ⟨51, [(4, none), (5, none)], (.seq (.region false [oZ 4 (.mov (.const (.int .u64 0))), oZ 5 (.mov (.const (.int .u64 0)))])
 (.seq (.region false [oZ 14 (.mov (tZ 0)), oZ 15 (.bin .and .num (tZ 14) (.const (.int .u64 4294967295))), oZ 6 (.mov (tZ 15))])
 (.seq (.region false [oZ 16 (.mov (tZ 0)), oZ 17 (.bin .shr .num (tZ 16) (.const (.int .u64 32))), oZ 7 (.mov (tZ 17))])
 (.seq (.region false [oZ 18 (.mov (tZ 1)), oZ 19 (.bin .and .num (tZ 18) (.const (.int .u64 4294967295))), oZ 8 (.mov (tZ 19))])
 (.seq (.region false [oZ 20 (.mov (tZ 1)), oZ 21 (.bin .shr .num (tZ 20) (.const (.int .u64 32))), oZ 9 (.mov (tZ 21))])
 (.seq (.region false [oZ 22 (.mov (tZ 6)), oZ 23 (.mov (tZ 8)), oZ 24 (.bin .mul .num (tZ 22) (tZ 23)), oZ 10 (.mov (tZ 24))])
 (.seq (.region false [oZ 25 (.mov (tZ 7)), oZ 26 (.mov (tZ 8)), oZ 27 (.bin .mul .num (tZ 25) (tZ 26)), oZ 28 (.mov (tZ 10)), oZ 29 (.bin .shr .num (tZ 28) (.const (.int .u64 32))), oZ 30 (.bin .add .num (tZ 27) (tZ 29)), oZ 11 (.mov (tZ 30))])
 (.seq (.region false [oZ 31 (.mov (tZ 11)), oZ 32 (.bin .and .num (tZ 31) (.const (.int .u64 4294967295))), oZ 12 (.mov (tZ 32))])
 (.seq (.region false [oZ 33 (.mov (tZ 11)), oZ 34 (.bin .shr .num (tZ 33) (.const (.int .u64 32))), oZ 13 (.mov (tZ 34))])
 (.seq (.region false [oZ 35 (.mov (tZ 12)), oZ 36 (.mov (tZ 6)), oZ 37 (.mov (tZ 9)), oZ 38 (.bin .mul .num (tZ 36) (tZ 37)), oZ 39 (.bin .add .num (tZ 35) (tZ 38)), oZ 12 (.mov (tZ 39))])
 (.seq (.region false [oZ 40 (.mov (tZ 7)), oZ 41 (.mov (tZ 9)), oZ 42 (.bin .mul .num (tZ 40) (tZ 41)), oZ 43 (.mov (tZ 13)), oZ 44 (.bin .add .num (tZ 42) (tZ 43)), oZ 45 (.mov (tZ 12)), oZ 46 (.bin .shr .num (tZ 45) (.const (.int .u64 32))), oZ 47 (.bin .add .num (tZ 44) (tZ 46)), oZ 4 (.mov (tZ 47))])
 (.seq (.region false [oZ 48 (.mov (tZ 0)), oZ 49 (.mov (tZ 1)), oZ 50 (.bin .mul .num (tZ 48) (tZ 49)), oZ 5 (.mov (tZ 50))])
 .ret))))))))))))⟩
theorem cf147 : cFn Tryz.prog Tryz.f147 = some af147 := by kernel_rfl
theorem gd147 : Go.AE.Good Tryz.prog (147, af147) := ⟨⟨_, Tryz.func147, cf147⟩, by kernel_rfl, by kernel_rfl, by kernel_rfl⟩
def af150 : AFn := ⟨19, [(4, none)], (.seq (.region false [oZ 3 (.box (tZ 1)), oZ 4 (.mov (kZ 0))])
 (.seq (.seq (.region false [oZ 6 (.mov (tZ 0)), oZ 7 (.lenSl (tZ 6)), oZ 8 (.mov (kZ 0))])
 (.block 0 (.loop (.seq (.region false [oZ 9 (.bin .lss .num (tZ 8) (tZ 7))])
 (.seq (.cond (tZ 9) .skip
 (.exit 0))
 (.seq (.block 1 (.seq (.region false [oZ 10 (.mov (tZ 8)), oZ 5 (.mov (tZ 10))])
 (.seq (.region true [oZ 11 (.load (some 3) (tZ 3)), oZ 12 (.mov (tZ 0)), oZ 13 (.mov (tZ 5)), oZ 14 (.idxA 3 (tZ 12) (tZ 13)), oZ 15 (.load (some 3) (tZ 14)), oZ 16 (.bin .eql (.flat [.int, .bool, .int]) (tZ 11) (tZ 15))])
 (.cond (tZ 16) (.seq (.region false [oZ 17 (.mov (tZ 5)), oZ 4 (.mov (tZ 17))])
 .ret)
 .skip))))
 (.region false [oZ 18 (.bin .add .num (tZ 8) (kZ 1)), oZ 8 (.mov (tZ 18))])))))))
 (.seq (.region false [oZ 4 (.mov (kZ (-1)))])
 .ret)))⟩
theorem cf150 : cFn Tryz.prog Tryz.f150 = some af150 := by kernel_rfl
theorem gd150 : Go.AE.Good Tryz.prog (150, af150) := ⟨⟨_, Tryz.func150, cf150⟩, by kernel_rfl, by kernel_rfl, by kernel_rfl⟩
def af151 : AFn := ⟨6, [(2, none)], (.seq (.region false [oZ 1 (.box (tZ 0)), oZ 2 (.mov (bZ false))])
 (.seq (.region false [oZ 3 (.fieldA 0 (tZ 1)), oZ 4 (.load none (tZ 3)), oZ 5 (.bin .eql .num (tZ 4) (kZ 1)), oZ 2 (.mov (tZ 5))])
 .ret))⟩
theorem cf151 : cFn Tryz.prog Tryz.f151 = some af151 := by kernel_rfl
theorem gd151 : Go.AE.Good Tryz.prog (151, af151) := ⟨⟨_, Tryz.func151, cf151⟩, by kernel_rfl, by kernel_rfl, by kernel_rfl⟩
def af153 : AFn := ⟨25, [(4, none)], (.seq (.region false [oZ 2 (.box (tZ 0)), oZ 3 (.box (tZ 1)), oZ 4 (.mov (kZ 0))])
 (.seq (.seq (.region false [oZ 6 (.load (some 3) (tZ 2)), oZ 7 (.call (.fn 82) [(tZ 6)]), oZ 8 (.un .not (tZ 7))])
 (.cond (tZ 8) (.seq (.region false [oZ 4 (.mov (kZ 2))])
 .ret)
 .skip))
 (.seq (.seq (.region false [oZ 9 (.load (some 2) (tZ 3)), oZ 10 (.call (.fn 30) [(tZ 9)]), oZ 5 (.mov (tZ 10))])
 (.seq (.region false [oZ 11 (.mov (tZ 5)), oZ 12 (.bin .neq .num (tZ 11) (kZ 0))])
 (.cond (tZ 12) (.seq (.region false [oZ 13 (.mov (tZ 5)), oZ 4 (.mov (tZ 13))])
 .ret)
 .skip)))
 (.seq (.seq (.region false [oZ 14 (.fieldA 0 (tZ 3)), oZ 15 (.load none (tZ 14)), oZ 16 (.fieldA 0 (tZ 2)), oZ 17 (.load none (tZ 16)), oZ 18 (.lenSl (tZ 17)), oZ 19 (.bin .neq .num (tZ 15) (tZ 18)), oZ 20 (.mov (tZ 19)), gZ 21 20 false (.load (some 2) (tZ 3)), gZ 22 20 false (.call (.fn 120) [(tZ 21)]), gZ 23 20 false (.un .not (tZ 22)), oZ 24 (.pick (tZ 20) (bZ true) (tZ 23))])
 (.cond (tZ 24) (.seq (.region false [oZ 4 (.mov (kZ 2))])
 .ret)
 .skip))
 (.seq (.region false [oZ 4 (.mov (kZ 0))])
 .ret)))))⟩
theorem cf153 : cFn Tryz.prog Tryz.f153 = some af153 := by kernel_rfl
theorem gd153 : Go.AE.Good Tryz.prog (153, af153) := ⟨⟨_, Tryz.func153, cf153⟩, by kernel_rfl, by kernel_rfl, by kernel_rfl⟩
def af154 : AFn := ⟨65, [(4, none)], (.seq (.region false [oZ 2 (.box (tZ 0)), oZ 4 (.mov (.const .nilSl))])
 (.seq (.region false [oZ 5 (.mov (.const .nilSl))])
 (.seq (.region false [oZ 6 (.mov (bZ false))])
 (.seq (.seq (.region false [oZ 10 (.fieldA 1 (tZ 2)), oZ 11 (.load none (tZ 10)), oZ 12 (.lenSl (tZ 11)), oZ 13 (.mov (kZ 0))])
 (.block 0 (.loop (.seq (.region false [oZ 14 (.bin .lss .num (tZ 13) (tZ 12))])
 (.seq (.cond (tZ 14) .skip
 (.exit 0))
 (.seq (.block 1 (.seq (.region false [oZ 15 (.mov (tZ 13)), oZ 16 (.idxA 6 (tZ 11) (tZ 13)), oZ 17 (.load (some 6) (tZ 16)), oZ 8 (.alloc [(.int .i64 0), (.int .i64 0), (.int .i64 0), (.int .i64 0), (.int .i64 0), (.bool false)]), oZ 7 (.mov (tZ 15)), pZ (.store 6 (tZ 8) (tZ 17))])
 (.seq (.seq (.region false [oZ 18 (.load (some 6) (tZ 8)), oZ 19 (.call (.fn 151) [(tZ 18)]), oZ 20 (.un .not (tZ 19))])
 (.cond (tZ 20) (.exit 1)
 .skip))
 (.seq (.region false [oZ 21 (.mov (tZ 6)), oZ 22 (.un .not (tZ 21)), oZ 6 (.mov (tZ 22))])
 (.seq (.region false [oZ 23 (.mov (tZ 7)), oZ 24 (.bin .add .num (tZ 23) (kZ 1)), oZ 25 (.fieldA 1 (tZ 2)), oZ 26 (.load none (tZ 25)), oZ 27 (.lenSl (tZ 26)), oZ 28 (.bin .rem .num (tZ 24) (tZ 27)), oZ 9 (.mov (tZ 28))])
 (.seq (.seq (.region true [oZ 29 (.mov (tZ 6)), oZ 30 (.un .not (tZ 29)), oZ 31 (.mov (tZ 30)), gZ 32 31 false (.fieldA 1 (tZ 8)), gZ 33 31 false (.load none (tZ 32)), gZ 34 31 false (.fieldA 1 (tZ 2)), gZ 35 31 false (.load none (tZ 34)), gZ 36 31 false (.mov (tZ 9)), gZ 37 31 false (.idxA 6 (tZ 35) (tZ 36)), gZ 38 31 false (.fieldA 1 (tZ 37)), gZ 39 31 false (.load none (tZ 38)), gZ 40 31 false (.minmax true [(tZ 33), (tZ 39)]), gZ 41 31 false (.mov (tZ 1)), gZ 42 31 false (.bin .neq .num (tZ 40) (tZ 41)), oZ 43 (.pick (tZ 31) (bZ true) (tZ 42))])
 (.cond (tZ 43) (.exit 1)
 .skip))
 (.seq (.region false [oZ 44 (.fieldA 1 (tZ 8)), oZ 45 (.load none (tZ 44)), oZ 46 (.mov (tZ 1)), oZ 47 (.bin .eql .num (tZ 45) (tZ 46))])
 (.cond (tZ 47) (.region false [oZ 48 (.mov (tZ 5)), oZ 49 (.mov (tZ 9)), oZ 50 (.mov (tZ 7)), oZ 51 (.build [(.int .i64 0), (.int .i64 0)] [(0, 1, (tZ 49)), (1, 1, (tZ 50))]), oZ 52 (.mkSl 2 1 [(.int .i64 0), (.int .i64 0)] [(0, (tZ 51))]), oZ 53 (.append 2 16 [(.int .i64 0), (.int .i64 0)] (tZ 48) (tZ 52)), oZ 5 (.mov (tZ 53))])
 (.region false [oZ 54 (.mov (tZ 5)), oZ 55 (.mov (tZ 7)), oZ 56 (.mov (tZ 9)), oZ 57 (.build [(.int .i64 0), (.int .i64 0)] [(0, 1, (tZ 55)), (1, 1, (tZ 56))]), oZ 58 (.mkSl 2 1 [(.int .i64 0), (.int .i64 0)] [(0, (tZ 57))]), oZ 59 (.append 2 16 [(.int .i64 0), (.int .i64 0)] (tZ 54) (tZ 58)), oZ 5 (.mov (tZ 59))])))))))))
 (.region false [oZ 60 (.bin .add .num (tZ 13) (kZ 1)), oZ 13 (.mov (tZ 60))])))))))
 (.seq (.region false [oZ 61 (.mov (tZ 5)), oZ 62 (.mkFunc (.func 177) [] [(tZ 2)]), oZ 63 (.call (.fn 176) [(tZ 61), (tZ 62)])])
 (.seq (.region false [oZ 64 (.mov (tZ 5)), oZ 4 (.mov (tZ 64))])
 .ret))))))⟩
theorem cf154 : cFn Tryz.prog Tryz.f154 = some af154 := by kernel_rfl
theorem gd154 : Go.AE.Good Tryz.prog (154, af154) := ⟨⟨_, Tryz.func154, cf154⟩, by kernel_rfl, by kernel_rfl, by kernel_rfl⟩
def af155 : AFn := ⟨53, [], (.seq (.region false [oZ 10 (.mov (tZ 1)), oZ 11 (.bin .add .num (tZ 10) (kZ 1)), oZ 8 (.mov (tZ 11))])
 (.block 0 (.loop (.seq (.seq (.region false [oZ 12 (.mov (tZ 8)), oZ 13 (.mov (tZ 2)), oZ 14 (.bin .lss .num (tZ 12) (tZ 13))])
 (.cond (tZ 14) .skip
 (.exit 0)))
 (.seq (.block 1 (.seq (.region false [oZ 17 (.mov (tZ 8)), oZ 9 (.mov (tZ 17))])
 (.block 2 (.loop (.seq (.seq (.region true [oZ 18 (.mov (tZ 9)), oZ 19 (.mov (tZ 1)), oZ 20 (.bin .gtr .num (tZ 18) (tZ 19)), oZ 21 (.mov (tZ 20)), gZ 22 21 true (.mov (tZ 3)), gZ 23 21 true (.mov (tZ 0)), gZ 24 21 true (.mov (tZ 9)), gZ 25 21 true (.idxA 2 (tZ 23) (tZ 24)), gZ 26 21 true (.load (some 2) (tZ 25)), gZ 27 21 true (.mov (tZ 0)), gZ 28 21 true (.mov (tZ 9)), gZ 29 21 true (.bin .sub .num (tZ 28) (kZ 1)), gZ 30 21 true (.idxA 2 (tZ 27) (tZ 29)), gZ 31 21 true (.load (some 2) (tZ 30)), gZ 32 21 true (.call (tZ 22) [(tZ 26), (tZ 31)]), gZ 33 21 true (.bin .lss .num (tZ 32) (kZ 0)), oZ 34 (.pick (tZ 21) (tZ 33) (bZ false))])
 (.cond (tZ 34) .skip
 (.exit 2)))
 (.seq (.block 3 (.region true [oZ 37 (.mov (tZ 0)), oZ 38 (.mov (tZ 9)), oZ 39 (.mov (tZ 0)), oZ 40 (.mov (tZ 9)), oZ 41 (.bin .sub .num (tZ 40) (kZ 1)), oZ 42 (.mov (tZ 0)), oZ 43 (.mov (tZ 9)), oZ 44 (.bin .sub .num (tZ 43) (kZ 1)), oZ 45 (.idxA 2 (tZ 42) (tZ 44)), oZ 46 (.load (some 2) (tZ 45)), oZ 47 (.mov (tZ 0)), oZ 48 (.mov (tZ 9)), oZ 49 (.idxA 2 (tZ 47) (tZ 48)), oZ 50 (.load (some 2) (tZ 49)), oZ 51 (.idxA 2 (tZ 37) (tZ 38)), pZ (.store 2 (tZ 51) (tZ 46)), oZ 52 (.idxA 2 (tZ 39) (tZ 41)), pZ (.store 2 (tZ 52) (tZ 50))]))
 (.region false [oZ 35 (.mov (tZ 9)), oZ 36 (.bin .sub .num (tZ 35) (kZ 1)), oZ 9 (.mov (tZ 36))])))))))
 (.region false [oZ 15 (.mov (tZ 8)), oZ 16 (.bin .add .num (tZ 15) (kZ 1)), oZ 8 (.mov (tZ 16))]))))))⟩
theorem cf155 : cFn Tryz.prog Tryz.f155 = some af155 := by kernel_rfl
theorem gd155 : Go.AE.Good Tryz.prog (155, af155) := ⟨⟨_, Tryz.func155, cf155⟩, by kernel_rfl, by kernel_rfl, by kernel_rfl⟩
def af164 : AFn := ⟨25, [(2, none)], (.seq (.region false [oZ 2 (.mov (kZ 0))])
 (.seq (.seq (.region false [oZ 3 (.mov (tZ 0)), oZ 4 (.bin .geq .num (tZ 3) (.const (.int .u64 4294967296)))])
 (.cond (tZ 4) (.seq (.region false [oZ 5 (.mov (tZ 0)), oZ 6 (.bin .shr .num (tZ 5) (.const (.int .u64 32))), oZ 0 (.mov (tZ 6))])
 (.region false [oZ 2 (.mov (kZ 32))]))
 .skip))
 (.seq (.seq (.region false [oZ 7 (.mov (tZ 0)), oZ 8 (.bin .geq .num (tZ 7) (.const (.int .u64 65536)))])
 (.cond (tZ 8) (.seq (.region false [oZ 9 (.mov (tZ 0)), oZ 10 (.bin .shr .num (tZ 9) (.const (.int .u64 16))), oZ 0 (.mov (tZ 10))])
 (.region false [oZ 11 (.mov (tZ 2)), oZ 12 (.bin .add .num (tZ 11) (kZ 16)), oZ 2 (.mov (tZ 12))]))
 .skip))
 (.seq (.seq (.region false [oZ 13 (.mov (tZ 0)), oZ 14 (.bin .geq .num (tZ 13) (.const (.int .u64 256)))])
 (.cond (tZ 14) (.seq (.region false [oZ 15 (.mov (tZ 0)), oZ 16 (.bin .shr .num (tZ 15) (.const (.int .u64 8))), oZ 0 (.mov (tZ 16))])
 (.region false [oZ 17 (.mov (tZ 2)), oZ 18 (.bin .add .num (tZ 17) (kZ 8)), oZ 2 (.mov (tZ 18))]))
 .skip))
 (.seq (.region false [oZ 19 (.mov (tZ 2)), oZ 20 (.mov (tZ 0)), oZ 21 (.convInt .u8 (tZ 20)), oZ 22 (.idxStr (.const (.str [0, 1, 2, 2, 3, 3, 3, 3, 4, 4, 4, 4, 4, 4, 4, 4, 5, 5, 5, 5, 5, 5, 5, 5, 5, 5, 5, 5, 5, 5, 5, 5, 6, 6, 6, 6, 6, 6, 6, 6, 6, 6, 6, 6, 6, 6, 6, 6, 6, 6, 6, 6, 6, 6, 6, 6, 6, 6, 6, 6, 6, 6, 6, 6, 7, 7, 7, 7, 7, 7, 7, 7, 7, 7, 7, 7, 7, 7, 7, 7, 7, 7, 7, 7, 7, 7, 7, 7, 7, 7, 7, 7, 7, 7, 7, 7, 7, 7, 7, 7, 7, 7, 7, 7, 7, 7, 7, 7, 7, 7, 7, 7, 7, 7, 7, 7, 7, 7, 7, 7, 7, 7, 7, 7, 7, 7, 7, 7, 8, 8, 8, 8, 8, 8, 8, 8, 8, 8, 8, 8, 8, 8, 8, 8, 8, 8, 8, 8, 8, 8, 8, 8, 8, 8, 8, 8, 8, 8, 8, 8, 8, 8, 8, 8, 8, 8, 8, 8, 8, 8, 8, 8, 8, 8, 8, 8, 8, 8, 8, 8, 8, 8, 8, 8, 8, 8, 8, 8, 8, 8, 8, 8, 8, 8, 8, 8, 8, 8, 8, 8, 8, 8, 8, 8, 8, 8, 8, 8, 8, 8, 8, 8, 8, 8, 8, 8, 8, 8, 8, 8, 8, 8, 8, 8, 8, 8, 8, 8, 8, 8, 8, 8, 8, 8, 8, 8, 8, 8, 8, 8, 8, 8, 8, 8, 8, 8, 8, 8, 8, 8, 8, 8, 8, 8, 8, 8])) (tZ 21)), oZ 23 (.convInt .i64 (tZ 22)), oZ 24 (.bin .add .num (tZ 19) (tZ 23)), oZ 2 (.mov (tZ 24))])
 .ret)))))⟩
theorem cf164 : cFn Tryz.prog Tryz.f164 = some af164 := by kernel_rfl
theorem gd164 : Go.AE.Good Tryz.prog (164, af164) := ⟨⟨_, Tryz.func164, cf164⟩, by kernel_rfl, by kernel_rfl, by kernel_rfl⟩
def af166 : AFn := ⟨9, [(4, none)], (.seq (.region false [⟨(some 4), .mov (.const (.bool false)), none, []⟩])
 (.seq (.region false [⟨(some 5), .mov (.tmp 0), none, []⟩, ⟨(some 6), .mov (.tmp 1), none, []⟩, ⟨(some 7), .call (.fn 183) [(.tmp 5), (.tmp 6)], none, []⟩, ⟨(some 8), .bin .geq .num (.tmp 7) (.const (.int .i64 0)), none, []⟩, ⟨(some 4), .mov (.tmp 8), none, []⟩])
 .ret))⟩
theorem cf166 : cFn Tryz.prog Tryz.f166 = some af166 := by kernel_rfl
theorem gd166 : Go.AE.Good Tryz.prog (166, af166) := ⟨⟨_, Tryz.func166, cf166⟩, by kernel_rfl, by kernel_rfl, by kernel_rfl⟩
def af167 : AFn := ⟨55, [(3, none)], (.seq (.region false [⟨(some 2), .box (.tmp 0), none, []⟩, ⟨(some 3), .mov (.const (.bool false)), none, []⟩])
 (.seq (.seq (.region false [⟨(some 4), .fieldA 0 (.tmp 2), none, []⟩, ⟨(some 5), .load none (.tmp 4), none, []⟩])
 (.block 0 (.seq (.region false [⟨(some 7), .bin .eql .num (.tmp 5) (.const (.int .i64 1)), none, []⟩, ⟨(some 6), .mov (.tmp 7), none, []⟩])
 (.cond (.tmp 6) (.seq (.region true [⟨(some 8), .fieldA 1 (.tmp 2), none, []⟩, ⟨(some 9), .load none (.tmp 8), none, []⟩, ⟨(some 10), .bin .lss .num (.tmp 9) (.const (.int .i64 0)), none, []⟩, ⟨(some 11), .mov (.tmp 10), none, []⟩, ⟨(some 12), .fieldA 1 (.tmp 2), (some (11, false)), []⟩, ⟨(some 13), .load none (.tmp 12), (some (11, false)), []⟩, ⟨(some 14), .load none (.tmp 1), (some (11, false)), []⟩, ⟨(some 15), .nilChk (.tmp 14), (some (11, false)), []⟩, ⟨(some 16), .fieldA 0 (.tmp 15), (some (11, false)), []⟩, ⟨(some 17), .fieldA 0 (.tmp 16), (some (11, false)), []⟩, ⟨(some 18), .load none (.tmp 17), (some (11, false)), []⟩, ⟨(some 19), .bin .gtr .num (.tmp 13) (.tmp 18), (some (11, false)), []⟩, ⟨(some 20), .pick (.tmp 11) (.const (.bool true)) (.tmp 19), none, []⟩, ⟨(some 21), .mov (.tmp 20), none, []⟩, ⟨(some 22), .fieldA 3 (.tmp 2), (some (21, false)), []⟩, ⟨(some 23), .load none (.tmp 22), (some (21, false)), []⟩, ⟨(some 24), .bin .neq .num (.tmp 23) (.const (.int .i64 0)), (some (21, false)), []⟩, ⟨(some 25), .pick (.tmp 21) (.const (.bool true)) (.tmp 24), none, []⟩, ⟨(some 26), .mov (.tmp 25), none, []⟩, ⟨(some 27), .fieldA 4 (.tmp 2), (some (26, false)), []⟩, ⟨(some 28), .load none (.tmp 27), (some (26, false)), []⟩, ⟨(some 29), .bin .neq .num (.tmp 28) (.const (.int .i64 0)), (some (26, false)), []⟩, ⟨(some 30), .pick (.tmp 26) (.const (.bool true)) (.tmp 29), none, []⟩, ⟨(some 31), .mov (.tmp 30), none, []⟩, ⟨(some 32), .fieldA 5 (.tmp 2), (some (31, false)), []⟩, ⟨(some 33), .load none (.tmp 32), (some (31, false)), []⟩, ⟨(some 34), .pick (.tmp 31) (.const (.bool true)) (.tmp 33), none, []⟩, ⟨(some 3), .mov (.tmp 34), none, []⟩])
 .ret)
 (.seq (.region false [⟨(some 36), .bin .eql .num (.tmp 5) (.const (.int .i64 2)), none, []⟩, ⟨(some 35), .mov (.tmp 36), none, []⟩])
 (.cond (.tmp 35) (.seq (.region false [⟨(some 37), .fieldA 1 (.tmp 2), none, []⟩, ⟨(some 38), .load none (.tmp 37), none, []⟩, ⟨(some 39), .bin .neq .num (.tmp 38) (.const (.int .i64 0)), none, []⟩, ⟨(some 40), .mov (.tmp 39), none, []⟩, ⟨(some 41), .fieldA 2 (.tmp 2), (some (40, false)), []⟩, ⟨(some 42), .load none (.tmp 41), (some (40, false)), []⟩, ⟨(some 43), .bin .neq .num (.tmp 42) (.const (.int .i64 0)), (some (40, false)), []⟩, ⟨(some 44), .pick (.tmp 40) (.const (.bool true)) (.tmp 43), none, []⟩, ⟨(some 45), .mov (.tmp 44), none, []⟩, ⟨(some 46), .fieldA 4 (.tmp 2), (some (45, false)), []⟩, ⟨(some 47), .load none (.tmp 46), (some (45, false)), []⟩, ⟨(some 48), .bin .neq .num (.tmp 47) (.const (.int .i64 1)), (some (45, false)), []⟩, ⟨(some 49), .mov (.tmp 48), (some (45, false)), []⟩, ⟨(some 50), .fieldA 4 (.tmp 2), (some (49, true)), []⟩, ⟨(some 51), .load none (.tmp 50), (some (49, true)), []⟩, ⟨(some 52), .bin .neq .num (.tmp 51) (.const (.int .i64 (-1))), (some (49, true)), []⟩, ⟨(some 53), .pick (.tmp 49) (.tmp 52) (.const (.bool false)), (some (45, false)), []⟩, ⟨(some 54), .pick (.tmp 45) (.const (.bool true)) (.tmp 53), none, []⟩, ⟨(some 3), .mov (.tmp 54), none, []⟩])
 .ret)
 .skip))))))
 (.seq (.region false [⟨(some 3), .mov (.const (.bool true)), none, []⟩])
 .ret)))⟩
theorem cf167 : cFn Tryz.prog Tryz.f167 = some af167 := by kernel_rfl
theorem gd167 : Go.AE.Good Tryz.prog (167, af167) := ⟨⟨_, Tryz.func167, cf167⟩, by kernel_rfl, by kernel_rfl, by kernel_rfl⟩
def af168 : AFn := ⟨20, [(2, none)], (.seq (.region false [⟨(some 1), .box (.tmp 0), none, []⟩, ⟨(some 2), .mov (.const (.int .i64 0)), none, []⟩])
 (.seq (.region false [⟨(some 3), .mov (.const (.int .i64 0)), none, []⟩])
 (.seq (.seq (.region false [⟨(some 6), .fieldA 1 (.tmp 1), none, []⟩, ⟨(some 7), .load none (.tmp 6), none, []⟩, ⟨(some 8), .lenSl (.tmp 7), none, []⟩, ⟨(some 9), .mov (.const (.int .i64 0)), none, []⟩])
 (.block 0 (.loop (.seq (.region false [⟨(some 10), .bin .lss .num (.tmp 9) (.tmp 8), none, []⟩])
 (.seq (.cond (.tmp 10) .skip
 (.exit 0))
 (.seq (.block 1 (.seq (.region false [⟨(some 11), .idxA 6 (.tmp 7) (.tmp 9), none, []⟩, ⟨(some 12), .load (some 6) (.tmp 11), none, []⟩, ⟨(some 5), .alloc [(.int .i64 0), (.int .i64 0), (.int .i64 0), (.int .i64 0), (.int .i64 0), (.bool false)], none, []⟩, ⟨none, .store 6 (.tmp 5) (.tmp 12), none, []⟩])
 (.seq (.region false [⟨(some 13), .fieldA 0 (.tmp 5), none, []⟩, ⟨(some 14), .load none (.tmp 13), none, []⟩, ⟨(some 15), .bin .eql .num (.tmp 14) (.const (.int .i64 1)), none, []⟩])
 (.cond (.tmp 15) (.region false [⟨(some 16), .mov (.tmp 3), none, []⟩, ⟨(some 17), .bin .add .num (.tmp 16) (.const (.int .i64 1)), none, []⟩, ⟨(some 3), .mov (.tmp 17), none, []⟩])
 .skip))))
 (.region false [⟨(some 18), .bin .add .num (.tmp 9) (.const (.int .i64 1)), none, []⟩, ⟨(some 9), .mov (.tmp 18), none, []⟩])))))))
 (.seq (.region false [⟨(some 19), .mov (.tmp 3), none, []⟩, ⟨(some 2), .mov (.tmp 19), none, []⟩])
 .ret))))⟩
theorem cf168 : cFn Tryz.prog Tryz.f168 = some af168 := by kernel_rfl
theorem gd168 : Go.AE.Good Tryz.prog (168, af168) := ⟨⟨_, Tryz.func168, cf168⟩, by kernel_rfl, by kernel_rfl, by kernel_rfl⟩
def af169 : AFn := ⟨28, [], (.seq (.region false [oZ 4 (.mov (tZ 0)), oZ 5 (.lenSl (tZ 4)), oZ 6 (.bin .sub .num (tZ 5) (kZ 1)), oZ 2 (.mov (kZ 0)), oZ 3 (.mov (tZ 6))])
 (.block 0 (.loop (.seq (.seq (.region false [oZ 7 (.mov (tZ 2)), oZ 8 (.mov (tZ 3)), oZ 9 (.bin .lss .num (tZ 7) (tZ 8))])
 (.cond (tZ 9) .skip
 (.exit 0)))
 (.seq (.block 1 (.region true [oZ 14 (.mov (tZ 0)), oZ 15 (.mov (tZ 2)), oZ 16 (.mov (tZ 0)), oZ 17 (.mov (tZ 3)), oZ 18 (.mov (tZ 0)), oZ 19 (.mov (tZ 3)), oZ 20 (.idxA 6 (tZ 18) (tZ 19)), oZ 21 (.load (some 6) (tZ 20)), oZ 22 (.mov (tZ 0)), oZ 23 (.mov (tZ 2)), oZ 24 (.idxA 6 (tZ 22) (tZ 23)), oZ 25 (.load (some 6) (tZ 24)), oZ 26 (.idxA 6 (tZ 14) (tZ 15)), pZ (.store 6 (tZ 26) (tZ 21)), oZ 27 (.idxA 6 (tZ 16) (tZ 17)), pZ (.store 6 (tZ 27) (tZ 25))]))
 (.region false [oZ 10 (.mov (tZ 2)), oZ 11 (.bin .add .num (tZ 10) (kZ 1)), oZ 12 (.mov (tZ 3)), oZ 13 (.bin .sub .num (tZ 12) (kZ 1)), oZ 2 (.mov (tZ 11)), oZ 3 (.mov (tZ 13))]))))))⟩
theorem cf169 : cFn Tryz.prog Tryz.f169 = some af169 := by kernel_rfl
theorem gd169 : Go.AE.Good Tryz.prog (169, af169) := ⟨⟨_, Tryz.func169, cf169⟩, by kernel_rfl, by kernel_rfl, by kernel_rfl⟩
def af170 : AFn := ⟨62, [(4, none)], (.seq (.region false [oZ 2 (.box (tZ 0)), oZ 3 (.box (tZ 1)), oZ 4 (.mov (bZ false))])
 (.seq (.block 0 (.seq (.region false [oZ 6 (.fieldA 0 (tZ 2)), oZ 7 (.load none (tZ 6)), oZ 8 (.fieldA 0 (tZ 3)), oZ 9 (.load none (tZ 8)), oZ 10 (.bin .neq .num (tZ 7) (tZ 9)), oZ 5 (.mov (tZ 10))])
 (.cond (tZ 5) (.seq (.region false [oZ 11 (.fieldA 0 (tZ 2)), oZ 12 (.load none (tZ 11)), oZ 13 (.fieldA 0 (tZ 3)), oZ 14 (.load none (tZ 13)), oZ 15 (.bin .lss .num (tZ 12) (tZ 14)), oZ 4 (.mov (tZ 15))])
 .ret)
 (.seq (.region false [oZ 17 (.fieldA 1 (tZ 2)), oZ 18 (.load none (tZ 17)), oZ 19 (.fieldA 1 (tZ 3)), oZ 20 (.load none (tZ 19)), oZ 21 (.bin .neq .num (tZ 18) (tZ 20)), oZ 16 (.mov (tZ 21))])
 (.cond (tZ 16) (.seq (.region false [oZ 22 (.fieldA 1 (tZ 2)), oZ 23 (.load none (tZ 22)), oZ 24 (.fieldA 1 (tZ 3)), oZ 25 (.load none (tZ 24)), oZ 26 (.bin .lss .num (tZ 23) (tZ 25)), oZ 4 (.mov (tZ 26))])
 .ret)
 (.seq (.region false [oZ 28 (.fieldA 2 (tZ 2)), oZ 29 (.load none (tZ 28)), oZ 30 (.fieldA 2 (tZ 3)), oZ 31 (.load none (tZ 30)), oZ 32 (.bin .neq .num (tZ 29) (tZ 31)), oZ 27 (.mov (tZ 32))])
 (.cond (tZ 27) (.seq (.region false [oZ 33 (.fieldA 2 (tZ 2)), oZ 34 (.load none (tZ 33)), oZ 35 (.fieldA 2 (tZ 3)), oZ 36 (.load none (tZ 35)), oZ 37 (.bin .lss .num (tZ 34) (tZ 36)), oZ 4 (.mov (tZ 37))])
 .ret)
 (.seq (.region false [oZ 39 (.fieldA 3 (tZ 2)), oZ 40 (.load none (tZ 39)), oZ 41 (.fieldA 3 (tZ 3)), oZ 42 (.load none (tZ 41)), oZ 43 (.bin .neq .num (tZ 40) (tZ 42)), oZ 38 (.mov (tZ 43))])
 (.cond (tZ 38) (.seq (.region false [oZ 44 (.fieldA 3 (tZ 2)), oZ 45 (.load none (tZ 44)), oZ 46 (.fieldA 3 (tZ 3)), oZ 47 (.load none (tZ 46)), oZ 48 (.bin .lss .num (tZ 45) (tZ 47)), oZ 4 (.mov (tZ 48))])
 .ret)
 (.seq (.region false [oZ 50 (.fieldA 5 (tZ 2)), oZ 51 (.load none (tZ 50)), oZ 52 (.fieldA 5 (tZ 3)), oZ 53 (.load none (tZ 52)), oZ 54 (.bin .neq .bool (tZ 51) (tZ 53)), oZ 49 (.mov (tZ 54))])
 (.cond (tZ 49) (.seq (.region false [oZ 55 (.fieldA 5 (tZ 3)), oZ 56 (.load none (tZ 55)), oZ 4 (.mov (tZ 56))])
 .ret)
 .skip)))))))))))
 (.seq (.region false [oZ 57 (.fieldA 4 (tZ 2)), oZ 58 (.load none (tZ 57)), oZ 59 (.fieldA 4 (tZ 3)), oZ 60 (.load none (tZ 59)), oZ 61 (.bin .lss .num (tZ 58) (tZ 60)), oZ 4 (.mov (tZ 61))])
 .ret)))⟩
theorem cf170 : cFn Tryz.prog Tryz.f170 = some af170 := by kernel_rfl
theorem gd170 : Go.AE.Good Tryz.prog (170, af170) := ⟨⟨_, Tryz.func170, cf170⟩, by kernel_rfl, by kernel_rfl, by kernel_rfl⟩
def af176 : AFn := ⟨14, [], (.seq (.region false [oZ 5 (.mov (tZ 0)), oZ 6 (.lenSl (tZ 5)), oZ 4 (.mov (tZ 6))])
 (.region false [oZ 7 (.mov (tZ 0)), oZ 8 (.mov (tZ 4)), oZ 9 (.mov (tZ 4)), oZ 10 (.convInt .u64 (tZ 9)), oZ 11 (.call (.fn 126) [(tZ 10)]), oZ 12 (.mov (tZ 1)), oZ 13 (.call (.fn 186) [(tZ 7), (kZ 0), (tZ 8), (tZ 11), (tZ 12)])]))⟩
theorem cf176 : cFn Tryz.prog Tryz.f176 = some af176 := by kernel_rfl
theorem gd176 : Go.AE.Good Tryz.prog (176, af176) := ⟨⟨_, Tryz.func176, cf176⟩, by kernel_rfl, by kernel_rfl, by kernel_rfl⟩
def af183 : AFn := ⟨19, [(4, none)], (.seq (.region false [⟨(some 4), .mov (.const (.int .i64 0)), none, []⟩])
 (.seq (.seq (.region false [⟨(some 6), .mov (.tmp 0), none, []⟩, ⟨(some 7), .lenSl (.tmp 6), none, []⟩, ⟨(some 8), .mov (.const (.int .i64 0)), none, []⟩])
 (.block 0 (.loop (.seq (.region false [⟨(some 9), .bin .lss .num (.tmp 8) (.tmp 7), none, []⟩])
 (.seq (.cond (.tmp 9) .skip
 (.exit 0))
 (.seq (.block 1 (.seq (.region false [⟨(some 10), .mov (.tmp 8), none, []⟩, ⟨(some 5), .mov (.tmp 10), none, []⟩])
 (.seq (.region false [⟨(some 11), .mov (.tmp 1), none, []⟩, ⟨(some 12), .mov (.tmp 0), none, []⟩, ⟨(some 13), .mov (.tmp 5), none, []⟩, ⟨(some 14), .idxA 6 (.tmp 12) (.tmp 13), none, []⟩, ⟨(some 15), .load (some 6) (.tmp 14), none, []⟩, ⟨(some 16), .call (.tmp 11) [(.tmp 15)], none, []⟩])
 (.cond (.tmp 16) (.seq (.region false [⟨(some 17), .mov (.tmp 5), none, []⟩, ⟨(some 4), .mov (.tmp 17), none, []⟩])
 .ret)
 .skip))))
 (.region false [⟨(some 18), .bin .add .num (.tmp 8) (.const (.int .i64 1)), none, []⟩, ⟨(some 8), .mov (.tmp 18), none, []⟩])))))))
 (.seq (.region false [⟨(some 4), .mov (.const (.int .i64 (-1))), none, []⟩])
 .ret)))⟩
theorem cf183 : cFn Tryz.prog Tryz.f183 = some af183 := by kernel_rfl
theorem gd183 : Go.AE.Good Tryz.prog (183, af183) := ⟨⟨_, Tryz.func183, cf183⟩, by kernel_rfl, by kernel_rfl, by kernel_rfl⟩
def af186 : AFn := ⟨148, [], (.seq (.region false [oZ 10 (.mov (bZ true))])
 (.seq (.region false [oZ 11 (.mov (bZ true))])
 (.block 0 (.loop (.block 1 (.seq (.region false [oZ 21 (.mov (tZ 2)), oZ 22 (.mov (tZ 1)), oZ 23 (.bin .sub .num (tZ 21) (tZ 22)), oZ 12 (.mov (tZ 23))])
 (.seq (.seq (.region false [oZ 24 (.mov (tZ 12)), oZ 25 (.bin .leq .num (tZ 24) (kZ 12))])
 (.cond (tZ 25) (.seq (.region false [oZ 26 (.mov (tZ 0)), oZ 27 (.mov (tZ 1)), oZ 28 (.mov (tZ 2)), oZ 29 (.mov (tZ 4)), oZ 30 (.call (.fn 188) [(tZ 26), (tZ 27), (tZ 28), (tZ 29)])])
 .ret)
 .skip))
 (.seq (.seq (.region false [oZ 31 (.mov (tZ 3)), oZ 32 (.bin .eql .num (tZ 31) (kZ 0))])
 (.cond (tZ 32) (.seq (.region false [oZ 33 (.mov (tZ 0)), oZ 34 (.mov (tZ 1)), oZ 35 (.mov (tZ 2)), oZ 36 (.mov (tZ 4)), oZ 37 (.call (.fn 189) [(tZ 33), (tZ 34), (tZ 35), (tZ 36)])])
 .ret)
 .skip))
 (.seq (.seq (.region false [oZ 38 (.mov (tZ 10)), oZ 39 (.un .not (tZ 38))])
 (.cond (tZ 39) (.seq (.region false [oZ 40 (.mov (tZ 0)), oZ 41 (.mov (tZ 1)), oZ 42 (.mov (tZ 2)), oZ 43 (.mov (tZ 4)), oZ 44 (.call (.fn 190) [(tZ 40), (tZ 41), (tZ 42), (tZ 43)])])
 (.region false [oZ 45 (.mov (tZ 3)), oZ 46 (.bin .sub .num (tZ 45) (kZ 1)), oZ 3 (.mov (tZ 46))]))
 .skip))
 (.seq (.region false [oZ 48 (.mov (tZ 0)), oZ 49 (.mov (tZ 1)), oZ 50 (.mov (tZ 2)), oZ 51 (.mov (tZ 4)), oZ 52 (.call (.fn 191) [(tZ 48), (tZ 49), (tZ 50), (tZ 51)]), oZ 47 (.mov (tZ 52)), oZ 53 (.ext (tZ 47) 0), oZ 54 (.ext (tZ 47) 1), oZ 13 (.mov (tZ 53)), oZ 14 (.mov (tZ 54))])
 (.seq (.seq (.region false [oZ 55 (.mov (tZ 14)), oZ 56 (.bin .eql .num (tZ 55) (kZ 2))])
 (.cond (tZ 56) (.seq (.region false [oZ 57 (.mov (tZ 0)), oZ 58 (.mov (tZ 1)), oZ 59 (.mov (tZ 2)), oZ 60 (.mov (tZ 4)), oZ 61 (.call (.fn 192) [(tZ 57), (tZ 58), (tZ 59), (tZ 60)])])
 (.seq (.region false [oZ 62 (.mov (tZ 2)), oZ 63 (.bin .sub .num (tZ 62) (kZ 1)), oZ 64 (.mov (tZ 13)), oZ 65 (.mov (tZ 1)), oZ 66 (.bin .sub .num (tZ 64) (tZ 65)), oZ 67 (.bin .sub .num (tZ 63) (tZ 66)), oZ 13 (.mov (tZ 67))])
 (.region false [oZ 14 (.mov (kZ 1))])))
 .skip))
 (.seq (.seq (.region false [oZ 68 (.mov (tZ 10)), oZ 69 (.mov (tZ 68)), gZ 70 69 true (.mov (tZ 11)), oZ 71 (.pick (tZ 69) (tZ 70) (bZ false)), oZ 72 (.mov (tZ 71)), gZ 73 72 true (.mov (tZ 14)), gZ 74 72 true (.bin .eql .num (tZ 73) (kZ 1)), oZ 75 (.pick (tZ 72) (tZ 74) (bZ false))])
 (.cond (tZ 75) (.seq (.region false [oZ 76 (.mov (tZ 0)), oZ 77 (.mov (tZ 1)), oZ 78 (.mov (tZ 2)), oZ 79 (.mov (tZ 4)), oZ 80 (.call (.fn 193) [(tZ 76), (tZ 77), (tZ 78), (tZ 79)])])
 (.cond (tZ 80) .ret
 .skip))
 .skip))
 (.seq (.seq (.region true [oZ 81 (.mov (tZ 1)), oZ 82 (.bin .gtr .num (tZ 81) (kZ 0)), oZ 83 (.mov (tZ 82)), gZ 84 83 true (.mov (tZ 4)), gZ 85 83 true (.mov (tZ 0)), gZ 86 83 true (.mov (tZ 1)), gZ 87 83 true (.bin .sub .num (tZ 86) (kZ 1)), gZ 88 83 true (.idxA 2 (tZ 85) (tZ 87)), gZ 89 83 true (.load (some 2) (tZ 88)), gZ 90 83 true (.mov (tZ 0)), gZ 91 83 true (.mov (tZ 13)), gZ 92 83 true (.idxA 2 (tZ 90) (tZ 91)), gZ 93 83 true (.load (some 2) (tZ 92)), gZ 94 83 true (.call (tZ 84) [(tZ 89), (tZ 93)]), gZ 95 83 true (.bin .lss .num (tZ 94) (kZ 0)), gZ 96 83 true (.un .not (tZ 95)), oZ 97 (.pick (tZ 83) (tZ 96) (bZ false))])
 (.cond (tZ 97) (.seq (.region false [oZ 98 (.mov (tZ 0)), oZ 99 (.mov (tZ 1)), oZ 100 (.mov (tZ 2)), oZ 101 (.mov (tZ 13)), oZ 102 (.mov (tZ 4)), oZ 103 (.call (.fn 194) [(tZ 98), (tZ 99), (tZ 100), (tZ 101), (tZ 102)]), oZ 15 (.mov (tZ 103))])
 (.seq (.region false [oZ 104 (.mov (tZ 15)), oZ 1 (.mov (tZ 104))])
 (.exit 1)))
 .skip))
 (.seq (.region false [oZ 106 (.mov (tZ 0)), oZ 107 (.mov (tZ 1)), oZ 108 (.mov (tZ 2)), oZ 109 (.mov (tZ 13)), oZ 110 (.mov (tZ 4)), oZ 111 (.call (.fn 195) [(tZ 106), (tZ 107), (tZ 108), (tZ 109), (tZ 110)]), oZ 105 (.mov (tZ 111)), oZ 112 (.ext (tZ 105) 0), oZ 113 (.ext (tZ 105) 1), oZ 16 (.mov (tZ 112)), oZ 17 (.mov (tZ 113))])
 (.seq (.region false [oZ 114 (.mov (tZ 17)), oZ 11 (.mov (tZ 114))])
 (.seq (.region false [oZ 115 (.mov (tZ 16)), oZ 116 (.mov (tZ 1)), oZ 117 (.bin .sub .num (tZ 115) (tZ 116)), oZ 118 (.mov (tZ 2)), oZ 119 (.mov (tZ 16)), oZ 120 (.bin .sub .num (tZ 118) (tZ 119)), oZ 18 (.mov (tZ 117)), oZ 19 (.mov (tZ 120))])
 (.seq (.region false [oZ 121 (.mov (tZ 12)), oZ 122 (.bin .quo .num (tZ 121) (kZ 8)), oZ 20 (.mov (tZ 122))])
 (.seq (.region false [oZ 123 (.mov (tZ 18)), oZ 124 (.mov (tZ 19)), oZ 125 (.bin .lss .num (tZ 123) (tZ 124))])
 (.cond (tZ 125) (.seq (.region false [oZ 126 (.mov (tZ 18)), oZ 127 (.mov (tZ 20)), oZ 128 (.bin .geq .num (tZ 126) (tZ 127)), oZ 10 (.mov (tZ 128))])
 (.seq (.region false [oZ 129 (.mov (tZ 0)), oZ 130 (.mov (tZ 1)), oZ 131 (.mov (tZ 16)), oZ 132 (.mov (tZ 3)), oZ 133 (.mov (tZ 4)), oZ 134 (.call (.fn 186) [(tZ 129), (tZ 130), (tZ 131), (tZ 132), (tZ 133)])])
 (.region false [oZ 135 (.mov (tZ 16)), oZ 136 (.bin .add .num (tZ 135) (kZ 1)), oZ 1 (.mov (tZ 136))])))
 (.seq (.region false [oZ 137 (.mov (tZ 19)), oZ 138 (.mov (tZ 20)), oZ 139 (.bin .geq .num (tZ 137) (tZ 138)), oZ 10 (.mov (tZ 139))])
 (.seq (.region false [oZ 140 (.mov (tZ 0)), oZ 141 (.mov (tZ 16)), oZ 142 (.bin .add .num (tZ 141) (kZ 1)), oZ 143 (.mov (tZ 2)), oZ 144 (.mov (tZ 3)), oZ 145 (.mov (tZ 4)), oZ 146 (.call (.fn 186) [(tZ 140), (tZ 142), (tZ 143), (tZ 144), (tZ 145)])])
 (.region false [oZ 147 (.mov (tZ 16)), oZ 2 (.mov (tZ 147))]))))))))))))))))))))))⟩
theorem cf186 : cFn Tryz.prog Tryz.f186 = some af186 := by kernel_rfl
theorem gd186 : Go.AE.Good Tryz.prog (186, af186) := ⟨⟨_, Tryz.func186, cf186⟩, by kernel_rfl, by kernel_rfl, by kernel_rfl⟩
def af188 : AFn := ⟨53, [], (.seq (.region false [oZ 10 (.mov (tZ 1)), oZ 11 (.bin .add .num (tZ 10) (kZ 1)), oZ 8 (.mov (tZ 11))])
 (.block 0 (.loop (.seq (.seq (.region false [oZ 12 (.mov (tZ 8)), oZ 13 (.mov (tZ 2)), oZ 14 (.bin .lss .num (tZ 12) (tZ 13))])
 (.cond (tZ 14) .skip
 (.exit 0)))
 (.seq (.block 1 (.seq (.region false [oZ 17 (.mov (tZ 8)), oZ 9 (.mov (tZ 17))])
 (.block 2 (.loop (.seq (.seq (.region true [oZ 18 (.mov (tZ 9)), oZ 19 (.mov (tZ 1)), oZ 20 (.bin .gtr .num (tZ 18) (tZ 19)), oZ 21 (.mov (tZ 20)), gZ 22 21 true (.mov (tZ 3)), gZ 23 21 true (.mov (tZ 0)), gZ 24 21 true (.mov (tZ 9)), gZ 25 21 true (.idxA 2 (tZ 23) (tZ 24)), gZ 26 21 true (.load (some 2) (tZ 25)), gZ 27 21 true (.mov (tZ 0)), gZ 28 21 true (.mov (tZ 9)), gZ 29 21 true (.bin .sub .num (tZ 28) (kZ 1)), gZ 30 21 true (.idxA 2 (tZ 27) (tZ 29)), gZ 31 21 true (.load (some 2) (tZ 30)), gZ 32 21 true (.call (tZ 22) [(tZ 26), (tZ 31)]), gZ 33 21 true (.bin .lss .num (tZ 32) (kZ 0)), oZ 34 (.pick (tZ 21) (tZ 33) (bZ false))])
 (.cond (tZ 34) .skip
 (.exit 2)))
 (.seq (.block 3 (.region true [oZ 37 (.mov (tZ 0)), oZ 38 (.mov (tZ 9)), oZ 39 (.mov (tZ 0)), oZ 40 (.mov (tZ 9)), oZ 41 (.bin .sub .num (tZ 40) (kZ 1)), oZ 42 (.mov (tZ 0)), oZ 43 (.mov (tZ 9)), oZ 44 (.bin .sub .num (tZ 43) (kZ 1)), oZ 45 (.idxA 2 (tZ 42) (tZ 44)), oZ 46 (.load (some 2) (tZ 45)), oZ 47 (.mov (tZ 0)), oZ 48 (.mov (tZ 9)), oZ 49 (.idxA 2 (tZ 47) (tZ 48)), oZ 50 (.load (some 2) (tZ 49)), oZ 51 (.idxA 2 (tZ 37) (tZ 38)), pZ (.store 2 (tZ 51) (tZ 46)), oZ 52 (.idxA 2 (tZ 39) (tZ 41)), pZ (.store 2 (tZ 52) (tZ 50))]))
 (.region false [oZ 35 (.mov (tZ 9)), oZ 36 (.bin .sub .num (tZ 35) (kZ 1)), oZ 9 (.mov (tZ 36))])))))))
 (.region false [oZ 15 (.mov (tZ 8)), oZ 16 (.bin .add .num (tZ 15) (kZ 1)), oZ 8 (.mov (tZ 16))]))))))⟩
theorem cf188 : cFn Tryz.prog Tryz.f188 = some af188 := by kernel_rfl
theorem gd188 : Go.AE.Good Tryz.prog (188, af188) := ⟨⟨_, Tryz.func188, cf188⟩, by kernel_rfl, by kernel_rfl, by kernel_rfl⟩

end Go.Known
end


