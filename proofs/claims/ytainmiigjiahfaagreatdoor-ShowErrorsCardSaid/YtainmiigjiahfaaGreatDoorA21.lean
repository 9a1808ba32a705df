/-
  Part 21 of the proof: Kf0.
-/
import Derived.Test.YtainmiigjiahfaaGreatDoorA11
import Derived.Test.YtainmiigjiahfaaGreatDoorProg
set_option linter.all false
set_option linter.unusedSimpArgs false
set_option linter.unusedVariables false

/- Kf0: The code of the program's functions, resolved (printed by a program). -/
section
namespace Go.Known
open Go Go.AE Go.Proofs

def oZ (d : Nat) (x : AOp) : AOper := ⟨some d, x, none, []⟩
def pZ (x : AOp) : AOper := ⟨none, x, none, []⟩
def gZ (d g : Nat) (b : Bool) (x : AOp) : AOper := ⟨some d, x, some (g, b), []⟩
def tZ (i : Nat) : AOpd := .tmp i
def kZ (n : Int) : AOpd := .const (.int .i64 n)
def bZ (b : Bool) : AOpd := .const (.bool b)

def af5 : AFn := ⟨147, [(0, none)], (.seq (.region false [oZ 0 (.mov (bZ false))])
 (.seq (.region false [oZ 22 (.call (.fn 18) []), oZ 21 (.mov (tZ 22)), oZ 23 (.ext (tZ 21) 0), oZ 24 (.ext (tZ 21) 1), oZ 1 (.alloc [.nilSl, (.int .i64 0), (.int .i64 0)]), oZ 2 (.alloc [(.int .i64 0), .nilSl]), pZ (.store 3 (tZ 1) (tZ 23)), pZ (.store 2 (tZ 2) (tZ 24))])
 (.seq (.region false [oZ 26 (.load (some 2) (tZ 2)), oZ 27 (.call (.fn 6) [(tZ 26)]), oZ 25 (.mov (tZ 27)), oZ 28 (.ext (tZ 25) 0), oZ 29 (.ext (tZ 25) 1), oZ 3 (.alloc [(.int .i64 0), .nilSl, .nilSl, .nilSl]), pZ (.store 4 (tZ 3) (tZ 28)), oZ 4 (.mov (tZ 29))])
 (.seq (.region false [oZ 31 (.load (some 4) (tZ 3)), oZ 32 (.call (.fn 19) [(tZ 31)]), oZ 30 (.mov (tZ 32)), oZ 33 (.ext (tZ 30) 0), oZ 34 (.ext (tZ 30) 1), oZ 5 (.mov (tZ 33)), oZ 6 (.mov (tZ 34))])
 (.seq (.region false [oZ 36 (.load (some 4) (tZ 3)), oZ 37 (.call (.fn 20) [(tZ 36)]), oZ 35 (.mov (tZ 37)), oZ 38 (.ext (tZ 35) 0), oZ 39 (.ext (tZ 35) 1), oZ 7 (.alloc [(.int .i64 0), .nilSl]), pZ (.store 2 (tZ 7) (tZ 38)), oZ 8 (.mov (tZ 39))])
 (.seq (.seq (.region false [oZ 40 (.mov (tZ 4)), oZ 41 (.bin .neq .num (tZ 40) (kZ 0)), oZ 42 (.mov (tZ 41)), gZ 43 42 false (.mov (tZ 6)), gZ 44 42 false (.bin .neq .num (tZ 43) (kZ 0)), oZ 45 (.pick (tZ 42) (bZ true) (tZ 44)), oZ 46 (.mov (tZ 45)), gZ 47 46 false (.mov (tZ 8)), gZ 48 46 false (.bin .neq .num (tZ 47) (kZ 0)), oZ 49 (.pick (tZ 46) (bZ true) (tZ 48)), oZ 50 (.mov (tZ 49)), gZ 51 50 false (.mov (tZ 5)), gZ 52 50 false (.mkSl 1 5 [(.str [])] [(0, (.const (.str [94, 32, 94]))), (1, (.const (.str [124, 32, 94, 32, 94, 32, 124]))), (2, (.const (.str [124, 32, 49, 32, 124, 32, 124, 32, 50, 32, 124]))), (3, (.const (.str [118, 32, 118, 32, 124, 32, 124]))), (4, (.const (.str [118, 32, 118])))]), gZ 53 50 false (.call (.fn 21) [(tZ 51), (tZ 52)]), gZ 54 50 false (.un .not (tZ 53)), oZ 55 (.pick (tZ 50) (bZ true) (tZ 54)), oZ 56 (.mov (tZ 55)), gZ 57 56 false (.load (some 2) (tZ 7)), gZ 58 56 false (.load (some 2) (tZ 2)), gZ 59 56 false (.call (.fn 22) [(tZ 57), (tZ 58)]), gZ 60 56 false (.un .not (tZ 59)), oZ 61 (.pick (tZ 56) (bZ true) (tZ 60))])
 (.cond (tZ 61) (.seq (.region false [oZ 0 (.mov (bZ false))])
 .ret)
 .skip))
 (.seq (.region false [oZ 62 (.build [(.int .i64 0), (.int .i64 0), (.int .i64 0), (.int .i64 0), (.int .i64 0), (.bool false)] [(0, 1, (kZ 2)), (3, 1, (kZ 1)), (4, 1, (kZ 1)), (5, 1, (bZ true))]), oZ 9 (.alloc [(.int .i64 0), (.int .i64 0), (.int .i64 0), (.int .i64 0), (.int .i64 0), (.bool false)]), pZ (.store 6 (tZ 9) (tZ 62))])
 (.seq (.region false [oZ 63 (.load (some 6) (tZ 9)), oZ 10 (.alloc [(.int .i64 0), (.int .i64 0), (.int .i64 0), (.int .i64 0), (.int .i64 0), (.bool false)]), pZ (.store 6 (tZ 10) (tZ 63))])
 (.seq (.region false [oZ 64 (.fieldA 5 (tZ 10)), pZ (.store 1 (tZ 64) (bZ false))])
 (.seq (.region true [oZ 66 (.call (.fn 23) [(kZ 0), (kZ 1)]), ⟨(some 67), .load (some 6) (tZ 10), none, [0]⟩, ⟨(some 68), .load (some 6) (tZ 9), none, [0]⟩, ⟨(some 69), .call (.fn 23) [(kZ 1), (kZ 1)], none, [1, 2]⟩, oZ 70 (.mkSl 6 4 [(.int .i64 0), (.int .i64 0), (.int .i64 0), (.int .i64 0), (.int .i64 0), (.bool false)] [(0, (tZ 66)), (1, (tZ 67)), (2, (tZ 68)), (3, (tZ 69))]), oZ 71 (.build [(.int .i64 0), .nilSl] [(0, 1, (kZ 2)), (1, 1, (tZ 70))]), oZ 72 (.call (.fn 6) [(tZ 71)]), oZ 65 (.mov (tZ 72)), oZ 73 (.ext (tZ 65) 0), oZ 74 (.ext (tZ 65) 1), ⟨(some 11), .alloc [(.int .i64 0), .nilSl, .nilSl, .nilSl], none, [0, 1, 2, 3, 4, 6]⟩, pZ (.store 4 (tZ 11) (tZ 73)), oZ 12 (.mov (tZ 74))])
 (.seq (.seq (.region false [oZ 75 (.mov (tZ 12)), oZ 76 (.bin .neq .num (tZ 75) (kZ 0)), oZ 77 (.mov (tZ 76)), gZ 78 77 false (.fieldA 2 (tZ 11)), gZ 79 77 false (.load none (tZ 78)), gZ 80 77 false (.lenSl (tZ 79)), gZ 81 77 false (.bin .neq .num (tZ 80) (kZ 1)), oZ 82 (.pick (tZ 77) (bZ true) (tZ 81)), oZ 83 (.mov (tZ 82)), gZ 84 83 false (.fieldA 3 (tZ 11)), gZ 85 83 false (.load none (tZ 84)), gZ 86 83 false (.lenSl (tZ 85)), gZ 87 83 false (.bin .neq .num (tZ 86) (kZ 3)), oZ 88 (.pick (tZ 83) (bZ true) (tZ 87)), oZ 89 (.mov (tZ 88)), gZ 90 89 false (.fieldA 3 (tZ 11)), gZ 91 89 false (.load none (tZ 90)), gZ 92 89 false (.idxA 4 (tZ 91) (kZ 0)), gZ 93 89 false (.load (some 4) (tZ 92)), gZ 94 89 false (.build [(.int .i64 0), (.int .i64 0), (.int .i64 0), (.bool false)] [(0, 1, (kZ 2)), (2, 1, (kZ 1)), (3, 1, (bZ true))]), gZ 95 89 false (.bin .neq (.flat [.int, .int, .int, .bool]) (tZ 93) (tZ 94)), oZ 96 (.pick (tZ 89) (bZ true) (tZ 95)), oZ 97 (.mov (tZ 96)), gZ 98 97 false (.fieldA 3 (tZ 11)), gZ 99 97 false (.load none (tZ 98)), gZ 100 97 false (.idxA 4 (tZ 99) (kZ 1)), gZ 101 97 false (.load (some 4) (tZ 100)), gZ 102 97 false (.build [(.int .i64 0), (.int .i64 0), (.int .i64 0), (.bool false)] [(0, 1, (kZ 1)), (1, 1, (kZ 1))]), gZ 103 97 false (.bin .neq (.flat [.int, .int, .int, .bool]) (tZ 101) (tZ 102)), oZ 104 (.pick (tZ 97) (bZ true) (tZ 103))])
 (.cond (tZ 104) (.seq (.region false [oZ 0 (.mov (bZ false))])
 .ret)
 .skip))
 (.seq (.region false [oZ 106 (.load (some 3) (tZ 1)), oZ 107 (.load (some 2) (tZ 2)), oZ 108 (.build [(.int .i64 0), (.bool false), (.int .i64 0)] [(0, 1, (kZ 2)), (2, 1, (kZ 1))]), oZ 109 (.mkSl 3 1 [(.int .i64 0), (.bool false), (.int .i64 0)] [(0, (tZ 108))]), oZ 110 (.build [(.int .i64 0), (.int .i64 0)] [(0, 1, (kZ 1)), (1, 1, (kZ 1))]), oZ 111 (.call (.fn 24) [(tZ 106), (tZ 107), (tZ 109), (tZ 110)]), oZ 105 (.mov (tZ 111)), oZ 112 (.ext (tZ 105) 0), oZ 113 (.ext (tZ 105) 1), oZ 114 (.ext (tZ 105) 2), oZ 13 (.alloc [.nilSl, (.int .i64 0), (.int .i64 0)]), oZ 14 (.alloc [(.int .i64 0), .nilSl]), pZ (.store 3 (tZ 13) (tZ 112)), pZ (.store 2 (tZ 14) (tZ 113)), oZ 15 (.mov (tZ 114))])
 (.seq (.region false [oZ 116 (.load (some 3) (tZ 1)), oZ 117 (.load (some 2) (tZ 2)), oZ 118 (.call (.fn 25) [(tZ 116), (tZ 117), (kZ 1)]), oZ 115 (.mov (tZ 118)), oZ 119 (.ext (tZ 115) 0), oZ 120 (.ext (tZ 115) 1), oZ 121 (.ext (tZ 115) 2), oZ 16 (.alloc [.nilSl, (.int .i64 0), (.int .i64 0)]), oZ 17 (.alloc [(.int .i64 0), .nilSl]), pZ (.store 3 (tZ 16) (tZ 119)), pZ (.store 2 (tZ 17) (tZ 120)), oZ 18 (.mov (tZ 121))])
 (.seq (.region false [oZ 123 (.load (some 2) (tZ 2)), oZ 124 (.call (.fn 10) [(tZ 123)]), oZ 122 (.mov (tZ 124)), oZ 125 (.ext (tZ 122) 0), oZ 126 (.ext (tZ 122) 1), oZ 19 (.mov (tZ 125)), oZ 20 (.mov (tZ 126))])
 (.seq (.region false [oZ 127 (.mov (tZ 15)), oZ 128 (.bin .eql .num (tZ 127) (kZ 0)), oZ 129 (.mov (tZ 128)), gZ 130 129 true (.mov (tZ 18)), gZ 131 129 true (.bin .eql .num (tZ 130) (kZ 5)), oZ 132 (.pick (tZ 129) (tZ 131) (bZ false)), oZ 133 (.mov (tZ 132)), gZ 134 133 true (.mov (tZ 20)), gZ 135 133 true (.bin .eql .num (tZ 134) (kZ 0)), oZ 136 (.pick (tZ 133) (tZ 135) (bZ false)), oZ 137 (.mov (tZ 136)), gZ 138 137 true (.mov (tZ 19)), gZ 139 137 true (.lenSl (tZ 138)), gZ 140 137 true (.bin .eql .num (tZ 139) (kZ 4)), oZ 141 (.pick (tZ 137) (tZ 140) (bZ false)), oZ 142 (.mov (tZ 141)), gZ 143 142 true (.load (some 2) (tZ 14)), gZ 144 142 true (.call (.fn 26) [(tZ 143)]), gZ 145 142 true (.bin .eql .num (tZ 144) (.const (.str [51, 58, 32, 48, 46, 49, 32, 49, 46, 49, 32, 50, 46, 49, 32, 51, 46, 49]))), oZ 146 (.pick (tZ 142) (tZ 145) (bZ false)), oZ 0 (.mov (tZ 146))])
 .ret)))))))))))))))⟩
theorem cf5 : cFn Tryz.prog Tryz.f5 = some af5 := by kernel_rfl
theorem gd5 : Go.AE.Good Tryz.prog (5, af5) := ⟨⟨_, Tryz.func5, cf5⟩, by kernel_rfl, by kernel_rfl, by kernel_rfl⟩
def af6 : AFn := ⟨49, [(2, (some (some 4))), (3, none)], (.seq (.region false [⟨(some 1), .box (.tmp 0), none, []⟩, ⟨(some 2), .alloc [(.int .i64 0), .nilSl, .nilSl, .nilSl], none, []⟩, ⟨(some 3), .mov (.const (.int .i64 0)), none, []⟩])
 (.seq (.region false [⟨(some 10), .load (some 2) (.tmp 1), none, []⟩, ⟨(some 11), .call (.fn 27) [(.tmp 10)], none, []⟩, ⟨(some 9), .mov (.tmp 11), none, []⟩, ⟨(some 12), .ext (.tmp 9) 0, none, []⟩, ⟨(some 13), .ext (.tmp 9) 1, none, []⟩, ⟨(some 4), .alloc [(.int .i64 0), .nilSl], none, []⟩, ⟨none, .store 2 (.tmp 4) (.tmp 12), none, []⟩, ⟨(some 5), .mov (.tmp 13), none, []⟩])
 (.seq (.seq (.region false [⟨(some 14), .mov (.tmp 5), none, []⟩, ⟨(some 15), .bin .neq .num (.tmp 14) (.const (.int .i64 0)), none, []⟩])
 (.cond (.tmp 15) (.seq (.region false [⟨(some 16), .build [(.int .i64 0), .nilSl, .nilSl, .nilSl] [], none, []⟩, ⟨(some 17), .mov (.tmp 5), none, []⟩, ⟨none, .store 4 (.tmp 2) (.tmp 16), none, []⟩, ⟨(some 3), .mov (.tmp 17), none, []⟩])
 .ret)
 .skip))
 (.seq (.region true [⟨(some 18), .fieldA 0 (.tmp 1), none, []⟩, ⟨(some 19), .load none (.tmp 18), none, []⟩, ⟨(some 20), .fieldA 0 (.tmp 1), none, []⟩, ⟨(some 21), .load none (.tmp 20), none, []⟩, ⟨(some 22), .bin .add .num (.tmp 21) (.const (.int .i64 1)), none, []⟩, ⟨(some 23), .makeSl 1 8 [(.int .i64 0)] (.tmp 22) (.tmp 22), none, [1]⟩, ⟨(some 24), .load (some 2) (.tmp 1), none, [5]⟩, ⟨(some 25), .call (.fn 28) [(.tmp 24)], none, [1, 3, 5]⟩, ⟨(some 26), .load (some 2) (.tmp 4), none, [5, 7]⟩, ⟨(some 27), .call (.fn 28) [(.tmp 26)], none, [1, 3, 5]⟩, ⟨(some 28), .build [(.int .i64 0), .nilSl, .nilSl, .nilSl] [(0, 1, (.tmp 19)), (1, 1, (.tmp 23)), (2, 1, (.tmp 25)), (3, 1, (.tmp 27))], none, []⟩, ⟨(some 6), .alloc [(.int .i64 0), .nilSl, .nilSl, .nilSl], none, [1, 3, 5, 6, 7, 8, 9]⟩, ⟨none, .store 4 (.tmp 6) (.tmp 28), none, []⟩])
 (.seq (.seq (.region false [⟨(some 29), .fieldA 1 (.tmp 1), none, []⟩, ⟨(some 30), .load none (.tmp 29), none, []⟩, ⟨(some 31), .lenSl (.tmp 30), none, []⟩, ⟨(some 32), .mov (.const (.int .i64 0)), none, []⟩])
 (.block 0 (.loop (.seq (.region false [⟨(some 33), .bin .lss .num (.tmp 32) (.tmp 31), none, []⟩])
 (.seq (.cond (.tmp 33) .skip
 (.exit 0))
 (.seq (.block 1 (.seq (.region false [⟨(some 34), .idxA 6 (.tmp 30) (.tmp 32), none, []⟩, ⟨(some 35), .load (some 6) (.tmp 34), none, []⟩, ⟨(some 8), .alloc [(.int .i64 0), (.int .i64 0), (.int .i64 0), (.int .i64 0), (.int .i64 0), (.bool false)], none, []⟩, ⟨none, .store 6 (.tmp 8) (.tmp 35), none, []⟩])
 (.seq (.region false [⟨(some 36), .fieldA 0 (.tmp 8), none, []⟩, ⟨(some 37), .load none (.tmp 36), none, []⟩, ⟨(some 38), .bin .eql .num (.tmp 37) (.const (.int .i64 1)), none, []⟩])
 (.cond (.tmp 38) (.region false [⟨(some 39), .fieldA 1 (.tmp 6), none, []⟩, ⟨(some 40), .load none (.tmp 39), none, []⟩, ⟨(some 41), .fieldA 1 (.tmp 8), none, []⟩, ⟨(some 42), .load none (.tmp 41), none, []⟩, ⟨(some 43), .idxA 1 (.tmp 40) (.tmp 42), none, []⟩, ⟨(some 44), .load none (.tmp 43), none, []⟩, ⟨(some 45), .bin .add .num (.tmp 44) (.const (.int .i64 1)), none, []⟩, ⟨(some 46), .idxA 1 (.tmp 40) (.tmp 42), none, []⟩, ⟨none, .store 1 (.tmp 46) (.tmp 45), none, []⟩])
 .skip))))
 (.region false [⟨(some 47), .bin .add .num (.tmp 32) (.const (.int .i64 1)), none, []⟩, ⟨(some 32), .mov (.tmp 47), none, []⟩])))))))
 (.seq (.region false [⟨(some 48), .load (some 4) (.tmp 6), none, []⟩, ⟨none, .store 4 (.tmp 2) (.tmp 48), none, []⟩, ⟨(some 3), .mov (.const (.int .i64 0)), none, []⟩])
 .ret))))))⟩
theorem cf6 : cFn Tryz.prog Tryz.f6 = some af6 := by kernel_rfl
theorem gd6 : Go.AE.Good Tryz.prog (6, af6) := ⟨⟨_, Tryz.func6, cf6⟩, by kernel_rfl, by kernel_rfl, by kernel_rfl⟩
def af9 : AFn := ⟨43, [(4, (some (some 2))), (5, none)], (.seq (.region false [⟨(some 2), .box (.tmp 0), none, []⟩, ⟨(some 3), .box (.tmp 1), none, []⟩, ⟨(some 4), .alloc [(.int .i64 0), .nilSl], none, []⟩, ⟨(some 5), .mov (.const (.int .i64 0)), none, []⟩])
 (.seq (.seq (.region false [⟨(some 9), .load (some 2) (.tmp 2), none, []⟩, ⟨(some 10), .call (.fn 30) [(.tmp 9)], none, []⟩, ⟨(some 6), .mov (.tmp 10), none, []⟩])
 (.seq (.region false [⟨(some 11), .mov (.tmp 6), none, []⟩, ⟨(some 12), .bin .neq .num (.tmp 11) (.const (.int .i64 0)), none, []⟩])
 (.cond (.tmp 12) (.seq (.region false [⟨(some 13), .build [(.int .i64 0), .nilSl] [], none, []⟩, ⟨(some 14), .mov (.tmp 6), none, []⟩, ⟨none, .store 2 (.tmp 4) (.tmp 13), none, []⟩, ⟨(some 5), .mov (.tmp 14), none, []⟩])
 .ret)
 .skip)))
 (.seq (.region false [⟨(some 15), .fieldA 1 (.tmp 2), none, []⟩, ⟨(some 16), .load none (.tmp 15), none, []⟩, ⟨(some 17), .call (.fn 31) [(.tmp 16)], none, []⟩, ⟨(some 18), .fieldA 1 (.tmp 2), none, []⟩, ⟨none, .store 1 (.tmp 18) (.tmp 17), none, []⟩])
 (.seq (.seq (.region false [⟨(some 19), .mkSl 1 3 [.nilFunc] [(0, (.fn 32)), (1, (.fn 33)), (2, (.fn 27))], none, []⟩, ⟨(some 20), .lenSl (.tmp 19), none, []⟩, ⟨(some 21), .mov (.const (.int .i64 0)), none, []⟩])
 (.block 0 (.loop (.seq (.region false [⟨(some 22), .bin .lss .num (.tmp 21) (.tmp 20), none, []⟩])
 (.seq (.cond (.tmp 22) .skip
 (.exit 0))
 (.seq (.block 1 (.seq (.region false [⟨(some 23), .mov (.tmp 21), none, []⟩, ⟨(some 24), .idxA 1 (.tmp 19) (.tmp 21), none, []⟩, ⟨(some 25), .load none (.tmp 24), none, []⟩, ⟨(some 7), .mov (.tmp 23), none, []⟩, ⟨(some 8), .mov (.tmp 25), none, []⟩])
 (.seq (.region false [⟨(some 26), .fieldA 0 (.tmp 3), none, []⟩, ⟨(some 27), .load none (.tmp 26), none, []⟩, ⟨(some 28), .fieldA 1 (.tmp 3), none, []⟩, ⟨(some 29), .load none (.tmp 28), none, []⟩, ⟨(some 30), .fieldA 2 (.tmp 3), none, []⟩, ⟨(some 31), .load none (.tmp 30), none, []⟩, ⟨(some 32), .build [(.bool false), (.bool false), (.bool false)] [(0, 1, (.tmp 27)), (1, 1, (.tmp 29)), (2, 1, (.tmp 31))], none, []⟩, ⟨(some 33), .mov (.tmp 7), none, []⟩, ⟨(some 34), .idxArr 3 1 none (.tmp 32) (.tmp 33), none, []⟩])
 (.cond (.tmp 34) (.region false [⟨(some 36), .mov (.tmp 8), none, []⟩, ⟨(some 37), .load (some 2) (.tmp 2), none, []⟩, ⟨(some 38), .call (.tmp 36) [(.tmp 37)], none, []⟩, ⟨(some 35), .mov (.tmp 38), none, []⟩, ⟨(some 39), .ext (.tmp 35) 0, none, []⟩, ⟨(some 40), .ext (.tmp 35) 1, none, []⟩, ⟨none, .store 2 (.tmp 2) (.tmp 39), none, []⟩])
 .skip))))
 (.region false [⟨(some 41), .bin .add .num (.tmp 21) (.const (.int .i64 1)), none, []⟩, ⟨(some 21), .mov (.tmp 41), none, []⟩])))))))
 (.seq (.region false [⟨(some 42), .load (some 2) (.tmp 2), none, []⟩, ⟨none, .store 2 (.tmp 4) (.tmp 42), none, []⟩, ⟨(some 5), .mov (.const (.int .i64 0)), none, []⟩])
 .ret)))))⟩
theorem cf9 : cFn Tryz.prog Tryz.f9 = some af9 := by kernel_rfl
theorem gd9 : Go.AE.Good Tryz.prog (9, af9) := ⟨⟨_, Tryz.func9, cf9⟩, by kernel_rfl, by kernel_rfl, by kernel_rfl⟩
def af10 : AFn := ⟨49, [(2, none), (3, none)], (.seq (.region false [⟨(some 1), .box (.tmp 0), none, []⟩, ⟨(some 2), .mov (.const .nilSl), none, []⟩, ⟨(some 3), .mov (.const (.int .i64 0)), none, []⟩])
 (.seq (.seq (.region false [⟨(some 12), .load (some 2) (.tmp 1), none, []⟩, ⟨(some 13), .call (.fn 30) [(.tmp 12)], none, []⟩, ⟨(some 4), .mov (.tmp 13), none, []⟩])
 (.seq (.region false [⟨(some 14), .mov (.tmp 4), none, []⟩, ⟨(some 15), .bin .neq .num (.tmp 14) (.const (.int .i64 0)), none, []⟩])
 (.cond (.tmp 15) (.seq (.region false [⟨(some 16), .mov (.tmp 4), none, []⟩, ⟨(some 2), .mov (.const .nilSl), none, []⟩, ⟨(some 3), .mov (.tmp 16), none, []⟩])
 .ret)
 .skip)))
 (.seq (.region false [⟨(some 5), .mov (.const .nilSl), none, []⟩])
 (.seq (.seq (.region false [⟨(some 17), .mov (.const (.int .i64 0)), none, []⟩])
 (.block 0 (.loop (.seq (.region false [⟨(some 18), .bin .lss .num (.tmp 17) (.const (.int .i64 8)), none, []⟩])
 (.seq (.cond (.tmp 18) .skip
 (.exit 0))
 (.seq (.block 1 (.seq (.region false [⟨(some 19), .mov (.tmp 17), none, []⟩, ⟨(some 6), .mov (.tmp 19), none, []⟩])
 (.seq (.region false [⟨(some 20), .mov (.tmp 6), none, []⟩, ⟨(some 21), .bin .and .num (.tmp 20) (.const (.int .i64 4)), none, []⟩, ⟨(some 22), .bin .neq .num (.tmp 21) (.const (.int .i64 0)), none, []⟩, ⟨(some 23), .mov (.tmp 6), none, []⟩, ⟨(some 24), .bin .and .num (.tmp 23) (.const (.int .i64 2)), none, []⟩, ⟨(some 25), .bin .neq .num (.tmp 24) (.const (.int .i64 0)), none, []⟩, ⟨(some 26), .mov (.tmp 6), none, []⟩, ⟨(some 27), .bin .and .num (.tmp 26) (.const (.int .i64 1)), none, []⟩, ⟨(some 28), .bin .neq .num (.tmp 27) (.const (.int .i64 0)), none, []⟩, ⟨(some 29), .build [(.bool false), (.bool false), (.bool false)] [(0, 1, (.tmp 22)), (1, 1, (.tmp 25)), (2, 1, (.tmp 28))], none, []⟩, ⟨(some 7), .alloc [(.bool false), (.bool false), (.bool false)], none, []⟩, ⟨none, .store 3 (.tmp 7) (.tmp 29), none, []⟩])
 (.seq (.region false [⟨(some 31), .load (some 2) (.tmp 1), none, []⟩, ⟨(some 32), .load (some 3) (.tmp 7), none, []⟩, ⟨(some 33), .call (.fn 9) [(.tmp 31), (.tmp 32)], none, []⟩, ⟨(some 30), .mov (.tmp 33), none, []⟩, ⟨(some 34), .ext (.tmp 30) 0, none, []⟩, ⟨(some 35), .ext (.tmp 30) 1, none, []⟩, ⟨(some 8), .alloc [(.int .i64 0), .nilSl], none, []⟩, ⟨none, .store 2 (.tmp 8) (.tmp 34), none, []⟩, ⟨(some 9), .mov (.tmp 35), none, []⟩])
 (.seq (.region false [⟨(some 37), .load (some 2) (.tmp 1), none, []⟩, ⟨(some 38), .load (some 2) (.tmp 8), none, []⟩, ⟨(some 39), .call (.fn 34) [(.tmp 37), (.tmp 38)], none, []⟩, ⟨(some 36), .mov (.tmp 39), none, []⟩, ⟨(some 40), .ext (.tmp 36) 0, none, []⟩, ⟨(some 41), .ext (.tmp 36) 1, none, []⟩, ⟨(some 10), .mov (.tmp 40), none, []⟩, ⟨(some 11), .mov (.tmp 41), none, []⟩])
 (.seq (.region false [⟨(some 42), .mov (.tmp 10), none, []⟩])
 (.cond (.tmp 42) (.region false [⟨(some 43), .mov (.tmp 5), none, []⟩, ⟨(some 44), .load (some 3) (.tmp 7), none, []⟩, ⟨(some 45), .mkSl 3 1 [(.bool false), (.bool false), (.bool false)] [(0, (.tmp 44))], none, []⟩, ⟨(some 46), .append 3 3 [(.bool false), (.bool false), (.bool false)] (.tmp 43) (.tmp 45), none, []⟩, ⟨(some 5), .mov (.tmp 46), none, []⟩])
 .skip)))))))
 (.region false [⟨(some 47), .bin .add .num (.tmp 17) (.const (.int .i64 1)), none, []⟩, ⟨(some 17), .mov (.tmp 47), none, []⟩])))))))
 (.seq (.region false [⟨(some 48), .mov (.tmp 5), none, []⟩, ⟨(some 2), .mov (.tmp 48), none, []⟩, ⟨(some 3), .mov (.const (.int .i64 0)), none, []⟩])
 .ret)))))⟩
theorem cf10 : cFn Tryz.prog Tryz.f10 = some af10 := by kernel_rfl
theorem gd10 : Go.AE.Good Tryz.prog (10, af10) := ⟨⟨_, Tryz.func10, cf10⟩, by kernel_rfl, by kernel_rfl, by kernel_rfl⟩
def af12 : AFn := ⟨38, [(4, none)], (.seq (.region false [⟨(some 2), .box (.tmp 0), none, []⟩, ⟨(some 3), .box (.tmp 1), none, []⟩, ⟨(some 4), .mov (.const (.bool false)), none, []⟩])
 (.seq (.seq (.region false [⟨(some 6), .fieldA 0 (.tmp 2), none, []⟩, ⟨(some 7), .load none (.tmp 6), none, []⟩, ⟨(some 8), .fieldA 0 (.tmp 3), none, []⟩, ⟨(some 9), .load none (.tmp 8), none, []⟩, ⟨(some 10), .bin .neq .num (.tmp 7) (.tmp 9), none, []⟩, ⟨(some 11), .mov (.tmp 10), none, []⟩, ⟨(some 12), .fieldA 1 (.tmp 2), (some (11, false)), []⟩, ⟨(some 13), .load none (.tmp 12), (some (11, false)), []⟩, ⟨(some 14), .lenSl (.tmp 13), (some (11, false)), []⟩, ⟨(some 15), .fieldA 1 (.tmp 3), (some (11, false)), []⟩, ⟨(some 16), .load none (.tmp 15), (some (11, false)), []⟩, ⟨(some 17), .lenSl (.tmp 16), (some (11, false)), []⟩, ⟨(some 18), .bin .neq .num (.tmp 14) (.tmp 17), (some (11, false)), []⟩, ⟨(some 19), .pick (.tmp 11) (.const (.bool true)) (.tmp 18), none, []⟩])
 (.cond (.tmp 19) (.seq (.region false [⟨(some 4), .mov (.const (.bool false)), none, []⟩])
 .ret)
 .skip))
 (.seq (.seq (.region false [⟨(some 5), .mov (.const (.int .i64 0)), none, []⟩])
 (.block 0 (.loop (.seq (.seq (.region false [⟨(some 20), .mov (.tmp 5), none, []⟩, ⟨(some 21), .fieldA 1 (.tmp 2), none, []⟩, ⟨(some 22), .load none (.tmp 21), none, []⟩, ⟨(some 23), .lenSl (.tmp 22), none, []⟩, ⟨(some 24), .bin .lss .num (.tmp 20) (.tmp 23), none, []⟩])
 (.cond (.tmp 24) .skip
 (.exit 0)))
 (.seq (.block 1 (.seq (.region true [⟨(some 27), .fieldA 1 (.tmp 2), none, []⟩, ⟨(some 28), .load none (.tmp 27), none, []⟩, ⟨(some 29), .mov (.tmp 5), none, []⟩, ⟨(some 30), .idxA 6 (.tmp 28) (.tmp 29), none, []⟩, ⟨(some 31), .load (some 6) (.tmp 30), none, []⟩, ⟨(some 32), .fieldA 1 (.tmp 3), none, []⟩, ⟨(some 33), .load none (.tmp 32), none, []⟩, ⟨(some 34), .mov (.tmp 5), none, []⟩, ⟨(some 35), .idxA 6 (.tmp 33) (.tmp 34), none, []⟩, ⟨(some 36), .load (some 6) (.tmp 35), none, []⟩, ⟨(some 37), .bin .neq (.flat [.int, .int, .int, .int, .int, .bool]) (.tmp 31) (.tmp 36), none, []⟩])
 (.cond (.tmp 37) (.seq (.region false [⟨(some 4), .mov (.const (.bool false)), none, []⟩])
 .ret)
 .skip)))
 (.region false [⟨(some 25), .mov (.tmp 5), none, []⟩, ⟨(some 26), .bin .add .num (.tmp 25) (.const (.int .i64 1)), none, []⟩, ⟨(some 5), .mov (.tmp 26), none, []⟩]))))))
 (.seq (.region false [⟨(some 4), .mov (.const (.bool true)), none, []⟩])
 .ret))))⟩
theorem cf12 : cFn Tryz.prog Tryz.f12 = some af12 := by kernel_rfl
theorem gd12 : Go.AE.Good Tryz.prog (12, af12) := ⟨⟨_, Tryz.func12, cf12⟩, by kernel_rfl, by kernel_rfl, by kernel_rfl⟩
def af18 : AFn := ⟨14, [(0, (some (some 3))), (1, (some (some 2)))], (.seq (.region false [oZ 0 (.alloc [.nilSl, (.int .i64 0), (.int .i64 0)]), oZ 1 (.alloc [(.int .i64 0), .nilSl])])
 (.seq (.region false [oZ 3 (.build [(.int .i64 0), (.bool false), (.int .i64 0)] [(0, 1, (kZ 1)), (2, 1, (kZ 1))]), oZ 4 (.build [(.int .i64 0), (.bool false), (.int .i64 0)] [(0, 1, (kZ 1)), (1, 1, (bZ true)), (2, 1, (kZ 1))]), oZ 5 (.mkSl 3 2 [(.int .i64 0), (.bool false), (.int .i64 0)] [(0, (tZ 3)), (1, (tZ 4))]), oZ 6 (.build [.nilSl, (.int .i64 0), (.int .i64 0)] [(0, 1, (tZ 5)), (1, 1, (kZ 6)), (2, 1, (kZ 4))]), oZ 2 (.alloc [.nilSl, (.int .i64 0), (.int .i64 0)]), pZ (.store 3 (tZ 2) (tZ 6))])
 (.seq (.region true [oZ 7 (.load (some 3) (tZ 2)), ⟨(some 8), .call (.fn 23) [(kZ 0), (kZ 1)], none, [0]⟩, ⟨(some 9), .call (.fn 23) [(kZ 1), (kZ 1)], none, [0]⟩, ⟨(some 10), .call (.fn 23) [(kZ 1), (kZ 2)], none, [0]⟩, ⟨(some 11), .call (.fn 23) [(kZ 2), (kZ 1)], none, [0]⟩, ⟨(some 12), .mkSl 6 4 [(.int .i64 0), (.int .i64 0), (.int .i64 0), (.int .i64 0), (.int .i64 0), (.bool false)] [(0, (tZ 8)), (1, (tZ 9)), (2, (tZ 10)), (3, (tZ 11))], none, [0]⟩, oZ 13 (.build [(.int .i64 0), .nilSl] [(0, 1, (kZ 2)), (1, 1, (tZ 12))]), ⟨none, .store 3 (tZ 0) (tZ 7), none, [5]⟩, pZ (.store 2 (tZ 1) (tZ 13))])
 .ret)))⟩
theorem cf18 : cFn Tryz.prog Tryz.f18 = some af18 := by kernel_rfl
theorem gd18 : Go.AE.Good Tryz.prog (18, af18) := ⟨⟨_, Tryz.func18, cf18⟩, by kernel_rfl, by kernel_rfl, by kernel_rfl⟩
def af19 : AFn := ⟨61, [(2, none), (3, none)], (.seq (.region false [oZ 1 (.box (tZ 0)), oZ 2 (.mov (.const .nilSl)), oZ 3 (.mov (kZ 0))])
 (.seq (.seq (.region false [oZ 12 (.load (some 4) (tZ 1)), oZ 13 (.call (.fn 20) [(tZ 12)]), oZ 11 (.mov (tZ 13)), oZ 14 (.ext (tZ 11) 0), oZ 15 (.ext (tZ 11) 1), oZ 4 (.alloc [(.int .i64 0), .nilSl]), pZ (.store 2 (tZ 4) (tZ 14)), oZ 5 (.mov (tZ 15))])
 (.seq (.region false [oZ 16 (.mov (tZ 5)), oZ 17 (.bin .neq .num (tZ 16) (kZ 0))])
 (.cond (tZ 17) (.seq (.region false [oZ 18 (.mov (tZ 5)), oZ 2 (.mov (.const .nilSl)), oZ 3 (.mov (tZ 18))])
 .ret)
 .skip)))
 (.seq (.region false [oZ 6 (.mov (.const .nilSl))])
 (.seq (.region false [oZ 7 (.mov (kZ 0))])
 (.seq (.seq (.region false [oZ 19 (.fieldA 1 (tZ 1)), oZ 20 (.load none (tZ 19)), oZ 21 (.lenSl (tZ 20)), oZ 22 (.mov (kZ 0))])
 (.block 0 (.loop (.seq (.region false [oZ 23 (.bin .lss .num (tZ 22) (tZ 21))])
 (.seq (.cond (tZ 23) .skip
 (.exit 0))
 (.seq (.block 1 (.seq (.region false [oZ 24 (.mov (tZ 22)), oZ 25 (.idxA 1 (tZ 20) (tZ 22)), oZ 26 (.load none (tZ 25)), oZ 8 (.mov (tZ 24)), oZ 9 (.mov (tZ 26))])
 (.seq (.seq (.region false [oZ 27 (.mov (tZ 8)), oZ 28 (.bin .gtr .num (tZ 27) (kZ 0))])
 (.cond (tZ 28) (.region false [oZ 29 (.mov (tZ 6)), oZ 30 (.mov (tZ 8)), oZ 31 (.call (.fn 41) [(tZ 30)]), oZ 32 (.mkSl 1 1 [(.str [])] [(0, (tZ 31))]), oZ 33 (.append 1 16 [(.str [])] (tZ 29) (tZ 32)), oZ 6 (.mov (tZ 33))])
 .skip))
 (.seq (.region false [oZ 34 (.mov (tZ 9)), oZ 35 (.mov (kZ 0))])
 (.block 2 (.loop (.seq (.region false [oZ 36 (.bin .lss .num (tZ 35) (tZ 34))])
 (.seq (.cond (tZ 36) .skip
 (.exit 2))
 (.seq (.block 3 (.seq (.region false [oZ 37 (.mov (tZ 6)), oZ 38 (.mkSl 1 1 [(.str [])] [(0, (.const (.str [124])))]), oZ 39 (.append 1 16 [(.str [])] (tZ 37) (tZ 38)), oZ 6 (.mov (tZ 39))])
 (.region false [oZ 40 (.mov (tZ 7)), oZ 41 (.bin .add .num (tZ 40) (kZ 1)), oZ 7 (.mov (tZ 41))])))
 (.region false [oZ 42 (.bin .add .num (tZ 35) (kZ 1)), oZ 35 (.mov (tZ 42))]))))))))))
 (.region false [oZ 43 (.bin .add .num (tZ 22) (kZ 1)), oZ 22 (.mov (tZ 43))])))))))
 (.seq (.region false [oZ 44 (.fieldA 2 (tZ 1)), oZ 45 (.load none (tZ 44)), oZ 46 (.mov (tZ 7)), oZ 47 (.call (.fn 42) [(tZ 45), (tZ 46), (.const (.str [94]))]), oZ 10 (.mov (tZ 47))])
 (.seq (.region false [oZ 48 (.mov (tZ 10)), oZ 49 (.call (.fn 43) [(tZ 48)])])
 (.seq (.region false [oZ 50 (.mov (tZ 10)), oZ 51 (.mov (tZ 6)), oZ 52 (.call (.fn 44) [(tZ 51), (.const (.str [32]))]), oZ 53 (.mkSl 1 1 [(.str [])] [(0, (tZ 52))]), oZ 54 (.append 1 16 [(.str [])] (tZ 50) (tZ 53)), oZ 10 (.mov (tZ 54))])
 (.seq (.region false [oZ 55 (.mov (tZ 10)), oZ 56 (.fieldA 3 (tZ 1)), oZ 57 (.load none (tZ 56)), oZ 58 (.mov (tZ 7)), oZ 59 (.call (.fn 42) [(tZ 57), (tZ 58), (.const (.str [118]))]), oZ 60 (.append 1 16 [(.str [])] (tZ 55) (tZ 59)), oZ 2 (.mov (tZ 60)), oZ 3 (.mov (kZ 0))])
 .ret)))))))))⟩
theorem cf19 : cFn Tryz.prog Tryz.f19 = some af19 := by kernel_rfl
theorem gd19 : Go.AE.Good Tryz.prog (19, af19) := ⟨⟨_, Tryz.func19, cf19⟩, by kernel_rfl, by kernel_rfl, by kernel_rfl⟩
def af20 : AFn := ⟨202, [(2, (some (some 2))), (3, none)], (.seq (.region false [oZ 1 (.box (tZ 0)), oZ 2 (.alloc [(.int .i64 0), .nilSl]), oZ 3 (.mov (kZ 0))])
 (.seq (.seq (.region false [oZ 21 (.fieldA 0 (tZ 1)), oZ 22 (.load none (tZ 21)), oZ 23 (.bin .lss .num (tZ 22) (kZ 0)), oZ 24 (.mov (tZ 23)), gZ 25 24 false (.fieldA 0 (tZ 1)), gZ 26 24 false (.load none (tZ 25)), gZ 27 24 false (.bin .gtr .num (tZ 26) (kZ 40)), oZ 28 (.pick (tZ 24) (bZ true) (tZ 27)), oZ 29 (.mov (tZ 28)), gZ 30 29 false (.fieldA 1 (tZ 1)), gZ 31 29 false (.load none (tZ 30)), gZ 32 29 false (.lenSl (tZ 31)), gZ 33 29 false (.fieldA 0 (tZ 1)), gZ 34 29 false (.load none (tZ 33)), gZ 35 29 false (.bin .add .num (tZ 34) (kZ 1)), gZ 36 29 false (.bin .neq .num (tZ 32) (tZ 35)), oZ 37 (.pick (tZ 29) (bZ true) (tZ 36)), oZ 38 (.mov (tZ 37)), gZ 39 38 false (.fieldA 1 (tZ 1)), gZ 40 38 false (.load none (tZ 39)), gZ 41 38 false (.call (.fn 45) [(tZ 40)]), gZ 42 38 false (.bin .lss .num (tZ 41) (kZ 0)), oZ 43 (.pick (tZ 38) (bZ true) (tZ 42))])
 (.cond (tZ 43) (.seq (.region false [oZ 44 (.build [(.int .i64 0), .nilSl] []), pZ (.store 2 (tZ 2) (tZ 44)), oZ 3 (.mov (kZ 2))])
 .ret)
 .skip))
 (.seq (.region false [oZ 4 (.mov (kZ 0)), oZ 5 (.mov (kZ 0))])
 (.seq (.seq (.region false [oZ 45 (.fieldA 1 (tZ 1)), oZ 46 (.load none (tZ 45)), oZ 47 (.lenSl (tZ 46)), oZ 48 (.mov (kZ 0))])
 (.block 0 (.loop (.seq (.region false [oZ 49 (.bin .lss .num (tZ 48) (tZ 47))])
 (.seq (.cond (tZ 49) .skip
 (.exit 0))
 (.seq (.block 1 (.seq (.region false [oZ 50 (.idxA 1 (tZ 46) (tZ 48)), oZ 51 (.load none (tZ 50)), oZ 7 (.mov (tZ 51))])
 (.region false [oZ 52 (.mov (tZ 4)), oZ 53 (.mov (tZ 7)), oZ 54 (.minmax false [(tZ 53), (kZ 401)]), oZ 55 (.bin .add .num (tZ 52) (tZ 54)), oZ 56 (.minmax false [(tZ 55), (kZ 401)]), oZ 4 (.mov (tZ 56))])))
 (.region false [oZ 57 (.bin .add .num (tZ 48) (kZ 1)), oZ 48 (.mov (tZ 57))])))))))
 (.seq (.seq (.region false [oZ 58 (.fieldA 2 (tZ 1)), oZ 59 (.load none (tZ 58)), oZ 60 (.fieldA 3 (tZ 1)), oZ 61 (.load none (tZ 60)), oZ 62 (.mkSl 1 2 [.nilSl] [(0, (tZ 59)), (1, (tZ 61))]), oZ 63 (.lenSl (tZ 62)), oZ 64 (.mov (kZ 0))])
 (.block 2 (.loop (.seq (.region false [oZ 65 (.bin .lss .num (tZ 64) (tZ 63))])
 (.seq (.cond (tZ 65) .skip
 (.exit 2))
 (.seq (.block 3 (.seq (.region false [oZ 66 (.idxA 1 (tZ 62) (tZ 64)), oZ 67 (.load none (tZ 66)), oZ 9 (.mov (tZ 67))])
 (.seq (.region false [oZ 68 (.mov (tZ 9)), oZ 69 (.lenSl (tZ 68)), oZ 70 (.mov (kZ 0))])
 (.block 4 (.loop (.seq (.region false [oZ 71 (.bin .lss .num (tZ 70) (tZ 69))])
 (.seq (.cond (tZ 71) .skip
 (.exit 4))
 (.seq (.block 5 (.seq (.region false [oZ 72 (.idxA 4 (tZ 68) (tZ 70)), oZ 73 (.load (some 4) (tZ 72)), oZ 11 (.alloc [(.int .i64 0), (.int .i64 0), (.int .i64 0), (.bool false)]), pZ (.store 4 (tZ 11) (tZ 73))])
 (.seq (.region false [oZ 74 (.fieldA 0 (tZ 11)), oZ 75 (.load none (tZ 74)), oZ 76 (.bin .eql .num (tZ 75) (kZ 2))])
 (.cond (tZ 76) (.region false [oZ 77 (.mov (tZ 5)), oZ 78 (.bin .add .num (tZ 77) (kZ 1)), oZ 5 (.mov (tZ 78))])
 .skip))))
 (.region false [oZ 79 (.bin .add .num (tZ 70) (kZ 1)), oZ 70 (.mov (tZ 79))])))))))))
 (.region false [oZ 80 (.bin .add .num (tZ 64) (kZ 1)), oZ 64 (.mov (tZ 80))])))))))
 (.seq (.seq (.region false [oZ 81 (.mov (tZ 5)), oZ 82 (.bin .gtr .num (tZ 81) (kZ 100)), oZ 83 (.mov (tZ 82)), gZ 84 83 false (.mov (tZ 4)), gZ 85 83 false (.mov (tZ 5)), gZ 86 83 false (.bin .mul .num (kZ 2) (tZ 85)), gZ 87 83 false (.bin .add .num (tZ 84) (tZ 86)), gZ 88 83 false (.bin .gtr .num (tZ 87) (kZ 400)), oZ 89 (.pick (tZ 83) (bZ true) (tZ 88))])
 (.cond (tZ 89) (.seq (.region false [oZ 90 (.build [(.int .i64 0), .nilSl] []), pZ (.store 2 (tZ 2) (tZ 90)), oZ 3 (.mov (kZ 7))])
 .ret)
 .skip))
 (.seq (.region false [oZ 91 (.mov (tZ 4)), oZ 92 (.bin .mul .num (kZ 2) (tZ 91)), oZ 93 (.makeSl 1 8 [(.int .i64 0)] (tZ 92) (tZ 92)), oZ 94 (.build [.nilSl, .nilSl, .nilSl] [(1, 1, (tZ 93))]), oZ 95 (.box (tZ 94)), oZ 12 (.mov (tZ 95))])
 (.seq (.region false [oZ 13 (.mov (.const .nilSl)), oZ 14 (.mov (.const .nilSl))])
 (.seq (.seq (.region false [oZ 96 (.fieldA 1 (tZ 1)), oZ 97 (.load none (tZ 96)), oZ 98 (.lenSl (tZ 97)), oZ 99 (.mov (kZ 0))])
 (.block 6 (.loop (.seq (.region false [oZ 100 (.bin .lss .num (tZ 99) (tZ 98))])
 (.seq (.cond (tZ 100) .skip
 (.exit 6))
 (.seq (.block 7 (.seq (.region false [oZ 101 (.mov (tZ 99)), oZ 102 (.idxA 1 (tZ 97) (tZ 99)), oZ 103 (.load none (tZ 102)), oZ 15 (.mov (tZ 101)), oZ 16 (.mov (tZ 103))])
 (.seq (.region false [oZ 104 (.mov (tZ 16)), oZ 105 (.mov (kZ 0))])
 (.block 8 (.loop (.seq (.region false [oZ 106 (.bin .lss .num (tZ 105) (tZ 104))])
 (.seq (.cond (tZ 106) .skip
 (.exit 8))
 (.seq (.block 9 (.seq (.region false [oZ 107 (.mov (tZ 105)), oZ 17 (.mov (tZ 107))])
 (.seq (.region true [oZ 108 (.mov (tZ 13)), oZ 109 (.mov (tZ 12)), oZ 110 (.nilChk (tZ 109)), oZ 111 (.fieldA 0 (tZ 110)), oZ 112 (.load none (tZ 111)), oZ 113 (.lenSl (tZ 112)), oZ 114 (.bin .mul .num (kZ 2) (tZ 113)), oZ 115 (.mkSl 1 1 [(.int .i64 0)] [(0, (tZ 114))]), oZ 116 (.append 1 8 [(.int .i64 0)] (tZ 108) (tZ 115)), oZ 117 (.mov (tZ 14)), oZ 118 (.mov (tZ 12)), oZ 119 (.nilChk (tZ 118)), oZ 120 (.fieldA 0 (tZ 119)), ⟨(some 121), .load none (tZ 120), none, [7, 8]⟩, oZ 122 (.lenSl (tZ 121)), oZ 123 (.bin .mul .num (kZ 2) (tZ 122)), oZ 124 (.bin .add .num (tZ 123) (kZ 1)), ⟨(some 125), .mkSl 1 1 [(.int .i64 0)] [(0, (tZ 124))], none, [4, 7, 8]⟩, oZ 126 (.append 1 8 [(.int .i64 0)] (tZ 117) (tZ 125)), oZ 13 (.mov (tZ 116)), oZ 14 (.mov (tZ 126))])
 (.region false [oZ 127 (.mov (tZ 12)), oZ 128 (.mov (tZ 12)), oZ 129 (.nilChk (tZ 128)), oZ 130 (.fieldA 0 (tZ 129)), oZ 131 (.load none (tZ 130)), oZ 132 (.mov (tZ 15)), oZ 133 (.mov (tZ 17)), oZ 134 (.bin .add .num (tZ 133) (kZ 1)), oZ 135 (.build [(.int .i64 0), (.int .i64 0), (.int .i64 0), (.int .i64 0), (.int .i64 0), (.bool false)] [(0, 1, (kZ 1)), (1, 1, (tZ 132)), (2, 1, (tZ 134))]), oZ 136 (.mkSl 6 1 [(.int .i64 0), (.int .i64 0), (.int .i64 0), (.int .i64 0), (.int .i64 0), (.bool false)] [(0, (tZ 135))]), oZ 137 (.append 6 48 [(.int .i64 0), (.int .i64 0), (.int .i64 0), (.int .i64 0), (.int .i64 0), (.bool false)] (tZ 131) (tZ 136)), oZ 138 (.nilChk (tZ 127)), oZ 139 (.fieldA 0 (tZ 138)), pZ (.store 1 (tZ 139) (tZ 137))]))))
 (.region false [oZ 140 (.bin .add .num (tZ 105) (kZ 1)), oZ 105 (.mov (tZ 140))])))))))))
 (.region false [oZ 141 (.bin .add .num (tZ 99) (kZ 1)), oZ 99 (.mov (tZ 141))])))))))
 (.seq (.seq (.region false [oZ 142 (.mov (tZ 12)), oZ 143 (.nilChk (tZ 142)), oZ 144 (.fieldA 1 (tZ 143)), oZ 145 (.load none (tZ 144)), oZ 146 (.lenSl (tZ 145)), oZ 147 (.mov (kZ 0))])
 (.block 10 (.loop (.seq (.region false [oZ 148 (.bin .lss .num (tZ 147) (tZ 146))])
 (.seq (.cond (tZ 148) .skip
 (.exit 10))
 (.seq (.block 11 (.seq (.region false [oZ 149 (.mov (tZ 147)), oZ 18 (.mov (tZ 149))])
 (.region false [oZ 150 (.mov (tZ 12)), oZ 151 (.nilChk (tZ 150)), oZ 152 (.fieldA 1 (tZ 151)), oZ 153 (.load none (tZ 152)), oZ 154 (.mov (tZ 18)), oZ 155 (.idxA 1 (tZ 153) (tZ 154)), pZ (.store 1 (tZ 155) (kZ (-1)))])))
 (.region false [oZ 156 (.bin .add .num (tZ 147) (kZ 1)), oZ 147 (.mov (tZ 156))])))))))
 (.seq (.seq (.region false [oZ 157 (.mov (tZ 4)), oZ 158 (.bin .eql .num (tZ 157) (kZ 0)), oZ 159 (.mov (tZ 158)), gZ 160 159 true (.fieldA 2 (tZ 1)), gZ 161 159 true (.load none (tZ 160)), gZ 162 159 true (.lenSl (tZ 161)), gZ 163 159 true (.fieldA 3 (tZ 1)), gZ 164 159 true (.load none (tZ 163)), gZ 165 159 true (.lenSl (tZ 164)), gZ 166 159 true (.bin .add .num (tZ 162) (tZ 165)), gZ 167 159 true (.bin .eql .num (tZ 166) (kZ 0)), oZ 168 (.pick (tZ 159) (tZ 167) (bZ false))])
 (.cond (tZ 168) (.seq (.region false [oZ 169 (.fieldA 0 (tZ 1)), oZ 170 (.load none (tZ 169)), oZ 171 (.build [(.int .i64 0), .nilSl] [(0, 1, (tZ 170))]), pZ (.store 2 (tZ 2) (tZ 171)), oZ 3 (.mov (kZ 0))])
 .ret)
 .skip))
 (.seq (.seq (.region false [oZ 172 (.mov (tZ 4)), oZ 173 (.bin .eql .num (tZ 172) (kZ 0)), oZ 174 (.mov (tZ 173)), gZ 175 174 false (.mov (tZ 12)), gZ 176 174 false (.fieldA 2 (tZ 1)), gZ 177 174 false (.load none (tZ 176)), gZ 178 174 false (.mov (tZ 13)), gZ 179 174 false (.call (.fn 46) [(tZ 175), (tZ 177), (tZ 178), (bZ false)]), gZ 180 174 false (.un .not (tZ 179)), oZ 181 (.pick (tZ 174) (bZ true) (tZ 180)), oZ 182 (.mov (tZ 181)), gZ 183 182 false (.mov (tZ 12)), gZ 184 182 false (.fieldA 3 (tZ 1)), gZ 185 182 false (.load none (tZ 184)), gZ 186 182 false (.mov (tZ 14)), gZ 187 182 false (.call (.fn 46) [(tZ 183), (tZ 185), (tZ 186), (bZ true)]), gZ 188 182 false (.un .not (tZ 187)), oZ 189 (.pick (tZ 182) (bZ true) (tZ 188))])
 (.cond (tZ 189) (.seq (.region false [oZ 190 (.build [(.int .i64 0), .nilSl] []), pZ (.store 2 (tZ 2) (tZ 190)), oZ 3 (.mov (kZ 3))])
 .ret)
 .skip))
 (.seq (.region false [oZ 192 (.mov (tZ 12)), oZ 193 (.fieldA 0 (tZ 1)), oZ 194 (.load none (tZ 193)), oZ 195 (.call (.fn 47) [(tZ 192), (tZ 194)]), oZ 191 (.mov (tZ 195)), oZ 196 (.ext (tZ 191) 0), oZ 197 (.ext (tZ 191) 1), oZ 19 (.alloc [(.int .i64 0), .nilSl]), pZ (.store 2 (tZ 19) (tZ 196)), oZ 20 (.mov (tZ 197))])
 (.seq (.seq (.region false [oZ 198 (.mov (tZ 20)), oZ 199 (.un .not (tZ 198))])
 (.cond (tZ 199) (.seq (.region false [oZ 200 (.build [(.int .i64 0), .nilSl] []), pZ (.store 2 (tZ 2) (tZ 200)), oZ 3 (.mov (kZ 3))])
 .ret)
 .skip))
 (.seq (.region false [oZ 201 (.load (some 2) (tZ 19)), pZ (.store 2 (tZ 2) (tZ 201)), oZ 3 (.mov (kZ 0))])
 .ret)))))))))))))))⟩
theorem cf20 : cFn Tryz.prog Tryz.f20 = some af20 := by kernel_rfl
theorem gd20 : Go.AE.Good Tryz.prog (20, af20) := ⟨⟨_, Tryz.func20, cf20⟩, by kernel_rfl, by kernel_rfl, by kernel_rfl⟩
def af21 : AFn := ⟨26, [(4, none)], (.seq (.region false [oZ 4 (.mov (bZ false))])
 (.seq (.seq (.region false [oZ 6 (.mov (tZ 0)), oZ 7 (.lenSl (tZ 6)), oZ 8 (.mov (tZ 1)), oZ 9 (.lenSl (tZ 8)), oZ 10 (.bin .neq .num (tZ 7) (tZ 9))])
 (.cond (tZ 10) (.seq (.region false [oZ 4 (.mov (bZ false))])
 .ret)
 .skip))
 (.seq (.seq (.region false [oZ 5 (.mov (kZ 0))])
 (.block 0 (.loop (.seq (.seq (.region false [oZ 11 (.mov (tZ 5)), oZ 12 (.mov (tZ 0)), oZ 13 (.lenSl (tZ 12)), oZ 14 (.bin .lss .num (tZ 11) (tZ 13))])
 (.cond (tZ 14) .skip
 (.exit 0)))
 (.seq (.block 1 (.seq (.region true [oZ 17 (.mov (tZ 0)), oZ 18 (.mov (tZ 5)), oZ 19 (.idxA 1 (tZ 17) (tZ 18)), oZ 20 (.load none (tZ 19)), oZ 21 (.mov (tZ 1)), oZ 22 (.mov (tZ 5)), oZ 23 (.idxA 1 (tZ 21) (tZ 22)), oZ 24 (.load none (tZ 23)), oZ 25 (.bin .neq .num (tZ 20) (tZ 24))])
 (.cond (tZ 25) (.seq (.region false [oZ 4 (.mov (bZ false))])
 .ret)
 .skip)))
 (.region false [oZ 15 (.mov (tZ 5)), oZ 16 (.bin .add .num (tZ 15) (kZ 1)), oZ 5 (.mov (tZ 16))]))))))
 (.seq (.region false [oZ 4 (.mov (bZ true))])
 .ret))))⟩
theorem cf21 : cFn Tryz.prog Tryz.f21 = some af21 := by kernel_rfl
theorem gd21 : Go.AE.Good Tryz.prog (21, af21) := ⟨⟨_, Tryz.func21, cf21⟩, by kernel_rfl, by kernel_rfl, by kernel_rfl⟩
def af22 : AFn := ⟨10, [(4, none)], (.seq (.region false [oZ 2 (.box (tZ 0)), oZ 3 (.box (tZ 1)), oZ 4 (.mov (bZ false))])
 (.seq (.region true [oZ 5 (.load (some 2) (tZ 2)), oZ 6 (.call (.fn 48) [(tZ 5)]), ⟨(some 7), .load (some 2) (tZ 3), none, [1]⟩, oZ 8 (.call (.fn 48) [(tZ 7)]), oZ 9 (.call (.fn 12) [(tZ 6), (tZ 8)]), oZ 4 (.mov (tZ 9))])
 .ret))⟩
theorem cf22 : cFn Tryz.prog Tryz.f22 = some af22 := by kernel_rfl
theorem gd22 : Go.AE.Good Tryz.prog (22, af22) := ⟨⟨_, Tryz.func22, cf22⟩, by kernel_rfl, by kernel_rfl, by kernel_rfl⟩
def af23 : AFn := ⟨8, [(4, (some (some 6)))], (.seq (.region false [oZ 4 (.alloc [(.int .i64 0), (.int .i64 0), (.int .i64 0), (.int .i64 0), (.int .i64 0), (.bool false)])])
 (.seq (.region false [oZ 5 (.mov (tZ 0)), oZ 6 (.mov (tZ 1)), oZ 7 (.build [(.int .i64 0), (.int .i64 0), (.int .i64 0), (.int .i64 0), (.int .i64 0), (.bool false)] [(0, 1, (kZ 1)), (1, 1, (tZ 5)), (2, 1, (tZ 6))]), pZ (.store 6 (tZ 4) (tZ 7))])
 .ret))⟩
theorem cf23 : cFn Tryz.prog Tryz.f23 = some af23 := by kernel_rfl
theorem gd23 : Go.AE.Good Tryz.prog (23, af23) := ⟨⟨_, Tryz.func23, cf23⟩, by kernel_rfl, by kernel_rfl, by kernel_rfl⟩
def af24 : AFn := ⟨37, [(8, (some (some 3))), (9, (some (some 2))), (10, none)], (.seq (.region false [oZ 4 (.box (tZ 0)), oZ 5 (.box (tZ 1)), oZ 7 (.box (tZ 3)), oZ 8 (.alloc [.nilSl, (.int .i64 0), (.int .i64 0)]), oZ 9 (.alloc [(.int .i64 0), .nilSl]), oZ 10 (.mov (kZ 0))])
 (.seq (.region false [oZ 14 (.load (some 3) (tZ 4)), oZ 15 (.load (some 2) (tZ 5)), oZ 16 (.call (.fn 49) [(tZ 14), (tZ 15)]), oZ 13 (.mov (tZ 16)), oZ 17 (.ext (tZ 13) 0), oZ 18 (.ext (tZ 13) 1), oZ 11 (.mov (tZ 17)), oZ 12 (.mov (tZ 18))])
 (.seq (.seq (.region false [oZ 19 (.mov (tZ 12)), oZ 20 (.bin .eql .num (tZ 19) (kZ 0))])
 (.cond (tZ 20) (.region false [oZ 21 (.mov (tZ 11)), oZ 22 (.mov (tZ 2)), oZ 23 (.load (some 2) (tZ 7)), oZ 24 (.call (.fn 50) [(tZ 21), (tZ 22), (tZ 23)]), oZ 12 (.mov (tZ 24))])
 .skip))
 (.seq (.seq (.region false [oZ 25 (.mov (tZ 12)), oZ 26 (.bin .neq .num (tZ 25) (kZ 0))])
 (.cond (tZ 26) (.seq (.region false [oZ 27 (.build [.nilSl, (.int .i64 0), (.int .i64 0)] []), oZ 28 (.build [(.int .i64 0), .nilSl] []), oZ 29 (.mov (tZ 12)), pZ (.store 3 (tZ 8) (tZ 27)), pZ (.store 2 (tZ 9) (tZ 28)), oZ 10 (.mov (tZ 29))])
 .ret)
 .skip))
 (.seq (.region false [oZ 31 (.mov (tZ 11)), oZ 32 (.call (.fn 51) [(tZ 31)]), oZ 30 (.mov (tZ 32)), oZ 33 (.ext (tZ 30) 0), oZ 34 (.ext (tZ 30) 1), pZ (.store 3 (tZ 4) (tZ 33)), pZ (.store 2 (tZ 5) (tZ 34))])
 (.seq (.region true [oZ 35 (.load (some 3) (tZ 4)), oZ 36 (.load (some 2) (tZ 5)), ⟨none, .store 3 (tZ 8) (tZ 35), none, [1]⟩, pZ (.store 2 (tZ 9) (tZ 36)), oZ 10 (.mov (kZ 0))])
 .ret))))))⟩
theorem cf24 : cFn Tryz.prog Tryz.f24 = some af24 := by kernel_rfl
theorem gd24 : Go.AE.Good Tryz.prog (24, af24) := ⟨⟨_, Tryz.func24, cf24⟩, by kernel_rfl, by kernel_rfl, by kernel_rfl⟩
def af25 : AFn := ⟨34, [(6, (some (some 3))), (7, (some (some 2))), (8, none)], (.seq (.region false [oZ 3 (.box (tZ 0)), oZ 4 (.box (tZ 1)), oZ 6 (.alloc [.nilSl, (.int .i64 0), (.int .i64 0)]), oZ 7 (.alloc [(.int .i64 0), .nilSl]), oZ 8 (.mov (kZ 0))])
 (.seq (.region false [oZ 12 (.load (some 3) (tZ 3)), oZ 13 (.load (some 2) (tZ 4)), oZ 14 (.call (.fn 49) [(tZ 12), (tZ 13)]), oZ 11 (.mov (tZ 14)), oZ 15 (.ext (tZ 11) 0), oZ 16 (.ext (tZ 11) 1), oZ 9 (.mov (tZ 15)), oZ 10 (.mov (tZ 16))])
 (.seq (.seq (.region false [oZ 17 (.mov (tZ 10)), oZ 18 (.bin .eql .num (tZ 17) (kZ 0))])
 (.cond (tZ 18) (.region false [oZ 19 (.mov (tZ 9)), oZ 20 (.mov (tZ 2)), oZ 21 (.call (.fn 52) [(tZ 19), (tZ 20)]), oZ 10 (.mov (tZ 21))])
 .skip))
 (.seq (.seq (.region false [oZ 22 (.mov (tZ 10)), oZ 23 (.bin .neq .num (tZ 22) (kZ 0))])
 (.cond (tZ 23) (.seq (.region false [oZ 24 (.build [.nilSl, (.int .i64 0), (.int .i64 0)] []), oZ 25 (.build [(.int .i64 0), .nilSl] []), oZ 26 (.mov (tZ 10)), pZ (.store 3 (tZ 6) (tZ 24)), pZ (.store 2 (tZ 7) (tZ 25)), oZ 8 (.mov (tZ 26))])
 .ret)
 .skip))
 (.seq (.region false [oZ 28 (.mov (tZ 9)), oZ 29 (.call (.fn 51) [(tZ 28)]), oZ 27 (.mov (tZ 29)), oZ 30 (.ext (tZ 27) 0), oZ 31 (.ext (tZ 27) 1), pZ (.store 3 (tZ 3) (tZ 30)), pZ (.store 2 (tZ 4) (tZ 31))])
 (.seq (.region true [oZ 32 (.load (some 3) (tZ 3)), oZ 33 (.load (some 2) (tZ 4)), ⟨none, .store 3 (tZ 6) (tZ 32), none, [1]⟩, pZ (.store 2 (tZ 7) (tZ 33)), oZ 8 (.mov (kZ 0))])
 .ret))))))⟩
theorem cf25 : cFn Tryz.prog Tryz.f25 = some af25 := by kernel_rfl
theorem gd25 : Go.AE.Good Tryz.prog (25, af25) := ⟨⟨_, Tryz.func25, cf25⟩, by kernel_rfl, by kernel_rfl, by kernel_rfl⟩
def af26 : AFn := ⟨64, [(2, none)], (.seq (.region false [oZ 1 (.box (tZ 0)), oZ 2 (.mov (.const (.str [])))])
 (.seq (.region false [oZ 7 (.fieldA 0 (tZ 1)), oZ 8 (.load none (tZ 7)), oZ 9 (.call (.fn 53) [(tZ 8)]), oZ 10 (.bin .add .num (tZ 9) (.const (.str [58]))), oZ 3 (.mov (tZ 10))])
 (.seq (.seq (.region false [oZ 4 (.mov (kZ 0))])
 (.block 0 (.loop (.seq (.seq (.region false [oZ 11 (.mov (tZ 4)), oZ 12 (.fieldA 1 (tZ 1)), oZ 13 (.load none (tZ 12)), oZ 14 (.lenSl (tZ 13)), oZ 15 (.bin .lss .num (tZ 11) (tZ 14))])
 (.cond (tZ 15) .skip
 (.exit 0)))
 (.seq (.block 1 (.seq (.region false [oZ 18 (.fieldA 1 (tZ 1)), oZ 19 (.load none (tZ 18)), oZ 20 (.mov (tZ 4)), oZ 21 (.idxA 6 (tZ 19) (tZ 20)), oZ 22 (.load (some 6) (tZ 21)), oZ 5 (.alloc [(.int .i64 0), (.int .i64 0), (.int .i64 0), (.int .i64 0), (.int .i64 0), (.bool false)]), pZ (.store 6 (tZ 5) (tZ 22))])
 (.seq (.region false [oZ 6 (.mov (.const (.str [63])))])
 (.seq (.seq (.region false [oZ 23 (.fieldA 0 (tZ 5)), oZ 24 (.load none (tZ 23)), oZ 25 (.bin .eql .num (tZ 24) (kZ 1))])
 (.cond (tZ 25) (.region true [oZ 26 (.fieldA 1 (tZ 5)), oZ 27 (.load none (tZ 26)), oZ 28 (.call (.fn 53) [(tZ 27)]), oZ 29 (.bin .add .num (tZ 28) (.const (.str [46]))), oZ 30 (.fieldA 2 (tZ 5)), ⟨(some 31), .load none (tZ 30), none, [2]⟩, oZ 32 (.call (.fn 53) [(tZ 31)]), oZ 33 (.bin .add .num (tZ 29) (tZ 32)), oZ 6 (.mov (tZ 33))])
 .skip))
 (.seq (.seq (.region false [oZ 34 (.fieldA 0 (tZ 5)), oZ 35 (.load none (tZ 34)), oZ 36 (.bin .eql .num (tZ 35) (kZ 2))])
 (.cond (tZ 36) (.seq (.region false [oZ 37 (.fieldA 3 (tZ 5)), oZ 38 (.load none (tZ 37)), oZ 39 (.call (.fn 53) [(tZ 38)]), oZ 40 (.bin .add .num (tZ 39) (.const (.str [117]))), oZ 6 (.mov (tZ 40))])
 (.seq (.seq (.region false [oZ 41 (.fieldA 5 (tZ 5)), oZ 42 (.load none (tZ 41))])
 (.cond (tZ 42) (.region false [oZ 43 (.fieldA 3 (tZ 5)), oZ 44 (.load none (tZ 43)), oZ 45 (.call (.fn 53) [(tZ 44)]), oZ 46 (.bin .add .num (tZ 45) (.const (.str [111]))), oZ 6 (.mov (tZ 46))])
 .skip))
 (.seq (.region false [oZ 47 (.fieldA 4 (tZ 5)), oZ 48 (.load none (tZ 47))])
 (.block 2 (.seq (.region false [oZ 52 (.bin .eql .num (tZ 48) (kZ 1)), oZ 51 (.mov (tZ 52))])
 (.cond (tZ 51) (.region false [oZ 53 (.mov (tZ 6)), oZ 54 (.bin .add .num (tZ 53) (.const (.str [43]))), oZ 6 (.mov (tZ 54))])
 (.seq (.region false [oZ 56 (.bin .eql .num (tZ 48) (kZ (-1))), oZ 55 (.mov (tZ 56))])
 (.cond (tZ 55) (.region false [oZ 57 (.mov (tZ 6)), oZ 58 (.bin .add .num (tZ 57) (.const (.str [45]))), oZ 6 (.mov (tZ 58))])
 (.region false [oZ 49 (.mov (tZ 6)), oZ 50 (.bin .add .num (tZ 49) (.const (.str [63]))), oZ 6 (.mov (tZ 50))])))))))))
 .skip))
 (.region false [oZ 59 (.mov (tZ 3)), oZ 60 (.bin .add .num (tZ 59) (.const (.str [32]))), oZ 61 (.mov (tZ 6)), oZ 62 (.bin .add .num (tZ 60) (tZ 61)), oZ 3 (.mov (tZ 62))]))))))
 (.region false [oZ 16 (.mov (tZ 4)), oZ 17 (.bin .add .num (tZ 16) (kZ 1)), oZ 4 (.mov (tZ 17))]))))))
 (.seq (.region false [oZ 63 (.mov (tZ 3)), oZ 2 (.mov (tZ 63))])
 .ret))))⟩
theorem cf26 : cFn Tryz.prog Tryz.f26 = some af26 := by kernel_rfl
theorem gd26 : Go.AE.Good Tryz.prog (26, af26) := ⟨⟨_, Tryz.func26, cf26⟩, by kernel_rfl, by kernel_rfl, by kernel_rfl⟩
def af27 : AFn := ⟨8, [(2, (some (some 2))), (3, none)], (.seq (.region false [⟨(some 1), .box (.tmp 0), none, []⟩, ⟨(some 2), .alloc [(.int .i64 0), .nilSl], none, []⟩, ⟨(some 3), .mov (.const (.int .i64 0)), none, []⟩])
 (.seq (.region false [⟨(some 4), .load (some 2) (.tmp 1), none, []⟩, ⟨(some 5), .call (.fn 54) [(.tmp 4), (.fn 55)], none, []⟩, ⟨(some 6), .ext (.tmp 5) 0, none, []⟩, ⟨(some 7), .ext (.tmp 5) 1, none, []⟩, ⟨none, .store 2 (.tmp 2) (.tmp 6), none, []⟩, ⟨(some 3), .mov (.tmp 7), none, []⟩])
 .ret))⟩
theorem cf27 : cFn Tryz.prog Tryz.f27 = some af27 := by kernel_rfl
theorem gd27 : Go.AE.Good Tryz.prog (27, af27) := ⟨⟨_, Tryz.func27, cf27⟩, by kernel_rfl, by kernel_rfl, by kernel_rfl⟩
def af30 : AFn := ⟨11, [(2, none)], (.seq (.region false [⟨(some 1), .box (.tmp 0), none, []⟩, ⟨(some 2), .mov (.const (.int .i64 0)), none, []⟩])
 (.seq (.region false [⟨(some 6), .load (some 2) (.tmp 1), none, []⟩, ⟨(some 7), .call (.fn 59) [(.tmp 6)], none, []⟩, ⟨(some 5), .mov (.tmp 7), none, []⟩, ⟨(some 8), .ext (.tmp 5) 0, none, []⟩, ⟨(some 9), .ext (.tmp 5) 1, none, []⟩, ⟨(some 3), .mov (.tmp 8), none, []⟩, ⟨(some 4), .mov (.tmp 9), none, []⟩])
 (.seq (.region false [⟨(some 10), .mov (.tmp 4), none, []⟩, ⟨(some 2), .mov (.tmp 10), none, []⟩])
 .ret)))⟩
theorem cf30 : cFn Tryz.prog Tryz.f30 = some af30 := by kernel_rfl
theorem gd30 : Go.AE.Good Tryz.prog (30, af30) := ⟨⟨_, Tryz.func30, cf30⟩, by kernel_rfl, by kernel_rfl, by kernel_rfl⟩
def af31 : AFn := ⟨8, [(2, none)], (.seq (.region false [oZ 2 (.mov (.const .nilSl))])
 (.seq (.seq (.region false [oZ 3 (.mov (tZ 0)), oZ 4 (.bin .eql .slice (tZ 3) (.const .nilSl))])
 (.cond (tZ 4) (.seq (.region false [oZ 2 (.mov (.const .nilSl))])
 .ret)
 .skip))
 (.seq (.region false [oZ 5 (.mkSl 6 0 [(.int .i64 0), (.int .i64 0), (.int .i64 0), (.int .i64 0), (.int .i64 0), (.bool false)] []), oZ 6 (.mov (tZ 0)), oZ 7 (.append 6 48 [(.int .i64 0), (.int .i64 0), (.int .i64 0), (.int .i64 0), (.int .i64 0), (.bool false)] (tZ 5) (tZ 6)), oZ 2 (.mov (tZ 7))])
 .ret)))⟩
theorem cf31 : cFn Tryz.prog Tryz.f31 = some af31 := by kernel_rfl
theorem gd31 : Go.AE.Good Tryz.prog (31, af31) := ⟨⟨_, Tryz.func31, cf31⟩, by kernel_rfl, by kernel_rfl, by kernel_rfl⟩
def af32 : AFn := ⟨8, [(2, (some (some 2))), (3, none)], (.seq (.region false [oZ 1 (.box (tZ 0)), oZ 2 (.alloc [(.int .i64 0), .nilSl]), oZ 3 (.mov (kZ 0))])
 (.seq (.region false [oZ 4 (.load (some 2) (tZ 1)), oZ 5 (.call (.fn 54) [(tZ 4), (.fn 62)]), oZ 6 (.ext (tZ 5) 0), oZ 7 (.ext (tZ 5) 1), pZ (.store 2 (tZ 2) (tZ 6)), oZ 3 (.mov (tZ 7))])
 .ret))⟩
theorem cf32 : cFn Tryz.prog Tryz.f32 = some af32 := by kernel_rfl
theorem gd32 : Go.AE.Good Tryz.prog (32, af32) := ⟨⟨_, Tryz.func32, cf32⟩, by kernel_rfl, by kernel_rfl, by kernel_rfl⟩
def af33 : AFn := ⟨8, [(2, (some (some 2))), (3, none)], (.seq (.region false [oZ 1 (.box (tZ 0)), oZ 2 (.alloc [(.int .i64 0), .nilSl]), oZ 3 (.mov (kZ 0))])
 (.seq (.region false [oZ 4 (.load (some 2) (tZ 1)), oZ 5 (.call (.fn 54) [(tZ 4), (.fn 63)]), oZ 6 (.ext (tZ 5) 0), oZ 7 (.ext (tZ 5) 1), pZ (.store 2 (tZ 2) (tZ 6)), oZ 3 (.mov (tZ 7))])
 .ret))⟩
theorem cf33 : cFn Tryz.prog Tryz.f33 = some af33 := by kernel_rfl
theorem gd33 : Go.AE.Good Tryz.prog (33, af33) := ⟨⟨_, Tryz.func33, cf33⟩, by kernel_rfl, by kernel_rfl, by kernel_rfl⟩
def af34 : AFn := ⟨37, [(4, none), (5, none)], (.seq (.region false [oZ 2 (.box (tZ 0)), oZ 3 (.box (tZ 1)), oZ 4 (.mov (bZ false)), oZ 5 (.mov (kZ 0))])
 (.seq (.region false [oZ 10 (.load (some 2) (tZ 2)), oZ 11 (.call (.fn 64) [(tZ 10)]), oZ 9 (.mov (tZ 11)), oZ 12 (.ext (tZ 9) 0), oZ 13 (.ext (tZ 9) 1), oZ 6 (.alloc [(.int .i64 0), .nilSl]), pZ (.store 2 (tZ 6) (tZ 12)), oZ 7 (.mov (tZ 13))])
 (.seq (.seq (.region false [oZ 14 (.mov (tZ 7)), oZ 15 (.bin .neq .num (tZ 14) (kZ 0))])
 (.cond (tZ 15) (.seq (.region false [oZ 16 (.mov (tZ 7)), oZ 4 (.mov (bZ false)), oZ 5 (.mov (tZ 16))])
 .ret)
 .skip))
 (.seq (.region false [oZ 18 (.load (some 2) (tZ 3)), oZ 19 (.call (.fn 64) [(tZ 18)]), oZ 17 (.mov (tZ 19)), oZ 20 (.ext (tZ 17) 0), oZ 21 (.ext (tZ 17) 1), oZ 8 (.alloc [(.int .i64 0), .nilSl]), pZ (.store 2 (tZ 8) (tZ 20)), oZ 7 (.mov (tZ 21))])
 (.seq (.seq (.region false [oZ 22 (.mov (tZ 7)), oZ 23 (.bin .neq .num (tZ 22) (kZ 0))])
 (.cond (tZ 23) (.seq (.region false [oZ 24 (.mov (tZ 7)), oZ 4 (.mov (bZ false)), oZ 5 (.mov (tZ 24))])
 .ret)
 .skip))
 (.seq (.region false [oZ 25 (.fieldA 0 (tZ 6)), oZ 26 (.load none (tZ 25)), oZ 27 (.fieldA 0 (tZ 8)), oZ 28 (.load none (tZ 27)), oZ 29 (.bin .eql .num (tZ 26) (tZ 28)), oZ 30 (.mov (tZ 29)), gZ 31 30 true (.fieldA 1 (tZ 6)), gZ 32 30 true (.load none (tZ 31)), gZ 33 30 true (.fieldA 1 (tZ 8)), gZ 34 30 true (.load none (tZ 33)), gZ 35 30 true (.call (.fn 65) [(tZ 32), (tZ 34)]), oZ 36 (.pick (tZ 30) (tZ 35) (bZ false)), oZ 4 (.mov (tZ 36)), oZ 5 (.mov (kZ 0))])
 .ret))))))⟩
theorem cf34 : cFn Tryz.prog Tryz.f34 = some af34 := by kernel_rfl
theorem gd34 : Go.AE.Good Tryz.prog (34, af34) := ⟨⟨_, Tryz.func34, cf34⟩, by kernel_rfl, by kernel_rfl, by kernel_rfl⟩
def af41 : AFn := ⟨5, [(2, none)], (.seq (.region false [oZ 2 (.mov (.const (.str [])))])
 (.seq (.region false [oZ 3 (.mov (tZ 0)), oZ 4 (.call (.fn 71) [(tZ 3)]), oZ 2 (.mov (tZ 4))])
 .ret))⟩
theorem cf41 : cFn Tryz.prog Tryz.f41 = some af41 := by kernel_rfl
theorem gd41 : Go.AE.Good Tryz.prog (41, af41) := ⟨⟨_, Tryz.func41, cf41⟩, by kernel_rfl, by kernel_rfl, by kernel_rfl⟩
def af42 : AFn := ⟨61, [(6, none)], (.seq (.region false [oZ 6 (.mov (.const .nilSl))])
 (.seq (.region false [oZ 7 (.mov (.const .nilSl))])
 (.seq (.seq (.region false [oZ 14 (.mov (tZ 0)), oZ 15 (.lenSl (tZ 14)), oZ 16 (.mov (kZ 0))])
 (.block 0 (.loop (.seq (.region false [oZ 17 (.bin .lss .num (tZ 16) (tZ 15))])
 (.seq (.cond (tZ 17) .skip
 (.exit 0))
 (.seq (.block 1 (.seq (.region false [oZ 18 (.idxA 4 (tZ 14) (tZ 16)), oZ 19 (.load (some 4) (tZ 18)), oZ 9 (.alloc [(.int .i64 0), (.int .i64 0), (.int .i64 0), (.bool false)]), pZ (.store 4 (tZ 9) (tZ 19))])
 (.seq (.region false [oZ 20 (.mov (tZ 2)), oZ 10 (.mov (tZ 20)), oZ 11 (.mov (kZ 2))])
 (.seq (.seq (.region false [oZ 21 (.fieldA 0 (tZ 9)), oZ 22 (.load none (tZ 21)), oZ 23 (.bin .eql .num (tZ 22) (kZ 2))])
 (.cond (tZ 23) (.seq (.region true [oZ 24 (.fieldA 2 (tZ 9)), oZ 25 (.load none (tZ 24)), oZ 10 (.mov (.const (.str [45]))), oZ 11 (.mov (tZ 25))])
 (.seq (.region false [oZ 26 (.fieldA 3 (tZ 9)), oZ 27 (.load none (tZ 26))])
 (.cond (tZ 27) (.region false [oZ 10 (.mov (.const (.str [43])))])
 .skip)))
 .skip))
 (.seq (.region false [oZ 28 (.mkSl 1 1 [(.str [])] [(0, (.const (.str [124])))]), oZ 29 (.mov (tZ 1)), oZ 30 (.call (.fn 72) [(tZ 28), (tZ 29)]), oZ 12 (.mov (tZ 30))])
 (.seq (.seq (.region false [oZ 31 (.mov (tZ 11)), oZ 32 (.mov (kZ 0))])
 (.block 2 (.loop (.seq (.region false [oZ 33 (.bin .lss .num (tZ 32) (tZ 31))])
 (.seq (.cond (tZ 33) .skip
 (.exit 2))
 (.seq (.block 3 (.seq (.region false [oZ 34 (.mov (tZ 32)), oZ 13 (.mov (tZ 34))])
 (.region false [oZ 35 (.mov (tZ 12)), oZ 36 (.fieldA 1 (tZ 9)), oZ 37 (.load none (tZ 36)), oZ 38 (.mov (tZ 13)), oZ 39 (.bin .add .num (tZ 37) (tZ 38)), oZ 40 (.mov (tZ 10)), oZ 41 (.idxA 1 (tZ 35) (tZ 39)), pZ (.store 1 (tZ 41) (tZ 40))])))
 (.region false [oZ 42 (.bin .add .num (tZ 32) (kZ 1)), oZ 32 (.mov (tZ 42))])))))))
 (.seq (.region false [oZ 43 (.mov (tZ 7)), oZ 44 (.mov (tZ 12)), oZ 45 (.call (.fn 44) [(tZ 44), (.const (.str [32]))]), oZ 46 (.mkSl 1 1 [(.str [])] [(0, (tZ 45))]), oZ 47 (.append 1 16 [(.str [])] (tZ 43) (tZ 46)), oZ 7 (.mov (tZ 47))])
 (.seq (.region false [oZ 48 (.fieldA 0 (tZ 9)), oZ 49 (.load none (tZ 48)), oZ 50 (.bin .eql .num (tZ 49) (kZ 2))])
 (.cond (tZ 50) (.region false [oZ 51 (.mov (tZ 1)), oZ 52 (.fieldA 2 (tZ 9)), oZ 53 (.load none (tZ 52)), oZ 54 (.bin .mul .num (kZ 2) (tZ 53)), oZ 55 (.bin .sub .num (kZ 4) (tZ 54)), oZ 56 (.bin .add .num (tZ 51) (tZ 55)), oZ 1 (.mov (tZ 56))])
 (.region false [oZ 57 (.mov (tZ 1)), oZ 58 (.bin .sub .num (tZ 57) (kZ 2)), oZ 1 (.mov (tZ 58))]))))))))))
 (.region false [oZ 59 (.bin .add .num (tZ 16) (kZ 1)), oZ 16 (.mov (tZ 59))])))))))
 (.seq (.region false [oZ 60 (.mov (tZ 7)), oZ 6 (.mov (tZ 60))])
 .ret))))⟩
theorem cf42 : cFn Tryz.prog Tryz.f42 = some af42 := by kernel_rfl
theorem gd42 : Go.AE.Good Tryz.prog (42, af42) := ⟨⟨_, Tryz.func42, cf42⟩, by kernel_rfl, by kernel_rfl, by kernel_rfl⟩
def af43 : AFn := ⟨28, [], (.seq (.region false [oZ 4 (.mov (tZ 0)), oZ 5 (.lenSl (tZ 4)), oZ 6 (.bin .sub .num (tZ 5) (kZ 1)), oZ 2 (.mov (kZ 0)), oZ 3 (.mov (tZ 6))])
 (.block 0 (.loop (.seq (.seq (.region false [oZ 7 (.mov (tZ 2)), oZ 8 (.mov (tZ 3)), oZ 9 (.bin .lss .num (tZ 7) (tZ 8))])
 (.cond (tZ 9) .skip
 (.exit 0)))
 (.seq (.block 1 (.region true [oZ 14 (.mov (tZ 0)), oZ 15 (.mov (tZ 2)), oZ 16 (.mov (tZ 0)), oZ 17 (.mov (tZ 3)), oZ 18 (.mov (tZ 0)), oZ 19 (.mov (tZ 3)), oZ 20 (.idxA 1 (tZ 18) (tZ 19)), oZ 21 (.load none (tZ 20)), oZ 22 (.mov (tZ 0)), oZ 23 (.mov (tZ 2)), oZ 24 (.idxA 1 (tZ 22) (tZ 23)), oZ 25 (.load none (tZ 24)), oZ 26 (.idxA 1 (tZ 14) (tZ 15)), pZ (.store 1 (tZ 26) (tZ 21)), oZ 27 (.idxA 1 (tZ 16) (tZ 17)), pZ (.store 1 (tZ 27) (tZ 25))]))
 (.region false [oZ 10 (.mov (tZ 2)), oZ 11 (.bin .add .num (tZ 10) (kZ 1)), oZ 12 (.mov (tZ 3)), oZ 13 (.bin .sub .num (tZ 12) (kZ 1)), oZ 2 (.mov (tZ 11)), oZ 3 (.mov (tZ 13))]))))))⟩
theorem cf43 : cFn Tryz.prog Tryz.f43 = some af43 := by kernel_rfl
theorem gd43 : Go.AE.Good Tryz.prog (43, af43) := ⟨⟨_, Tryz.func43, cf43⟩, by kernel_rfl, by kernel_rfl, by kernel_rfl⟩
def af45 : AFn := ⟨25, [(2, none)], (.seq (.region false [oZ 2 (.mov (kZ 0))])
 (.seq (.seq (.region false [oZ 5 (.mov (tZ 0)), oZ 6 (.lenSl (tZ 5)), oZ 7 (.bin .lss .num (tZ 6) (kZ 1))])
 (.cond (tZ 7) (.region false [oZ 8 (.dead), pZ (.dead)])
 .skip))
 (.seq (.region false [oZ 9 (.mov (tZ 0)), oZ 10 (.idxA 1 (tZ 9) (kZ 0)), oZ 11 (.load none (tZ 10)), oZ 3 (.mov (tZ 11))])
 (.seq (.seq (.region false [oZ 4 (.mov (kZ 1))])
 (.block 0 (.loop (.seq (.seq (.region false [oZ 12 (.mov (tZ 4)), oZ 13 (.mov (tZ 0)), oZ 14 (.lenSl (tZ 13)), oZ 15 (.bin .lss .num (tZ 12) (tZ 14))])
 (.cond (tZ 15) .skip
 (.exit 0)))
 (.seq (.block 1 (.region false [oZ 18 (.mov (tZ 3)), oZ 19 (.mov (tZ 0)), oZ 20 (.mov (tZ 4)), oZ 21 (.idxA 1 (tZ 19) (tZ 20)), oZ 22 (.load none (tZ 21)), oZ 23 (.minmax false [(tZ 18), (tZ 22)]), oZ 3 (.mov (tZ 23))]))
 (.region false [oZ 16 (.mov (tZ 4)), oZ 17 (.bin .add .num (tZ 16) (kZ 1)), oZ 4 (.mov (tZ 17))]))))))
 (.seq (.region false [oZ 24 (.mov (tZ 3)), oZ 2 (.mov (tZ 24))])
 .ret)))))⟩
theorem cf45 : cFn Tryz.prog Tryz.f45 = some af45 := by kernel_rfl
theorem gd45 : Go.AE.Good Tryz.prog (45, af45) := ⟨⟨_, Tryz.func45, cf45⟩, by kernel_rfl, by kernel_rfl, by kernel_rfl⟩
def af46 : AFn := ⟨174, [(8, none)], (.seq (.region false [oZ 8 (.mov (bZ false))])
 (.seq (.seq (.region false [oZ 15 (.mov (tZ 1)), oZ 16 (.lenSl (tZ 15)), oZ 17 (.mov (kZ 0))])
 (.block 0 (.loop (.seq (.region false [oZ 18 (.bin .lss .num (tZ 17) (tZ 16))])
 (.seq (.cond (tZ 18) .skip
 (.exit 0))
 (.seq (.block 1 (.seq (.region false [oZ 19 (.idxA 4 (tZ 15) (tZ 17)), oZ 20 (.load (some 4) (tZ 19)), oZ 10 (.alloc [(.int .i64 0), (.int .i64 0), (.int .i64 0), (.bool false)]), pZ (.store 4 (tZ 10) (tZ 20))])
 (.seq (.region false [oZ 21 (.fieldA 0 (tZ 10)), oZ 22 (.load none (tZ 21))])
 (.block 2 (.seq (.region false [oZ 24 (.bin .eql .num (tZ 22) (kZ 1)), oZ 23 (.mov (tZ 24))])
 (.cond (tZ 23) (.seq (.seq (.region false [oZ 25 (.fieldA 1 (tZ 10)), oZ 26 (.load none (tZ 25)), oZ 27 (.bin .lss .num (tZ 26) (kZ 0)), oZ 28 (.mov (tZ 27)), gZ 29 28 false (.fieldA 1 (tZ 10)), gZ 30 28 false (.load none (tZ 29)), gZ 31 28 false (.mov (tZ 2)), gZ 32 28 false (.lenSl (tZ 31)), gZ 33 28 false (.bin .sub .num (tZ 32) (kZ 1)), gZ 34 28 false (.bin .geq .num (tZ 30) (tZ 33)), oZ 35 (.pick (tZ 28) (bZ true) (tZ 34)), oZ 36 (.mov (tZ 35)), gZ 37 36 false (.fieldA 2 (tZ 10)), gZ 38 36 false (.load none (tZ 37)), gZ 39 36 false (.bin .neq .num (tZ 38) (kZ 0)), oZ 40 (.pick (tZ 36) (bZ true) (tZ 39)), oZ 41 (.mov (tZ 40)), gZ 42 41 false (.fieldA 3 (tZ 10)), gZ 43 41 false (.load none (tZ 42)), oZ 44 (.pick (tZ 41) (bZ true) (tZ 43))])
 (.cond (tZ 44) (.seq (.region false [oZ 8 (.mov (bZ false))])
 .ret)
 .skip))
 (.seq (.region true [oZ 45 (.mov (tZ 0)), oZ 46 (.mov (tZ 2)), oZ 47 (.fieldA 1 (tZ 10)), oZ 48 (.load none (tZ 47)), oZ 49 (.idxA 1 (tZ 46) (tZ 48)), oZ 50 (.load none (tZ 49)), oZ 51 (.mov (tZ 2)), oZ 52 (.fieldA 1 (tZ 10)), oZ 53 (.load none (tZ 52)), oZ 54 (.bin .add .num (tZ 53) (kZ 1)), oZ 55 (.idxA 1 (tZ 51) (tZ 54)), oZ 56 (.load none (tZ 55)), oZ 57 (.call (.fn 76) [(tZ 45), (tZ 50), (tZ 56)])])
 (.region true [oZ 58 (.mov (tZ 2)), oZ 59 (.fieldA 1 (tZ 10)), oZ 60 (.load none (tZ 59)), oZ 61 (.slSl 1 (tZ 58) none (some (tZ 60)) none), oZ 62 (.call (.fn 77) [(tZ 61)]), oZ 63 (.mov (tZ 2)), oZ 64 (.fieldA 1 (tZ 10)), ⟨(some 65), .load none (tZ 64), none, [4]⟩, oZ 66 (.bin .add .num (tZ 65) (kZ 2)), ⟨(some 67), .slSl 1 (tZ 63) (some (tZ 66)) none none, none, [4]⟩, oZ 68 (.append 1 8 [(.int .i64 0)] (tZ 62) (tZ 67)), oZ 2 (.mov (tZ 68))])))
 (.seq (.region false [oZ 70 (.bin .eql .num (tZ 22) (kZ 2)), oZ 69 (.mov (tZ 70))])
 (.cond (tZ 69) (.seq (.seq (.region false [oZ 71 (.fieldA 2 (tZ 10)), oZ 72 (.load none (tZ 71)), oZ 73 (.bin .lss .num (tZ 72) (kZ 1)), oZ 74 (.mov (tZ 73)), gZ 75 74 false (.fieldA 2 (tZ 10)), gZ 76 74 false (.load none (tZ 75)), gZ 77 74 false (.bin .gtr .num (tZ 76) (kZ 4)), oZ 78 (.pick (tZ 74) (bZ true) (tZ 77)), oZ 79 (.mov (tZ 78)), gZ 80 79 false (.fieldA 1 (tZ 10)), gZ 81 79 false (.load none (tZ 80)), gZ 82 79 false (.bin .lss .num (tZ 81) (kZ 0)), oZ 83 (.pick (tZ 79) (bZ true) (tZ 82)), oZ 84 (.mov (tZ 83)), gZ 85 84 false (.fieldA 1 (tZ 10)), gZ 86 84 false (.load none (tZ 85)), gZ 87 84 false (.mov (tZ 2)), gZ 88 84 false (.lenSl (tZ 87)), gZ 89 84 false (.fieldA 2 (tZ 10)), gZ 90 84 false (.load none (tZ 89)), gZ 91 84 false (.bin .sub .num (tZ 88) (tZ 90)), gZ 92 84 false (.bin .gtr .num (tZ 86) (tZ 91)), oZ 93 (.pick (tZ 84) (bZ true) (tZ 92))])
 (.cond (tZ 93) (.seq (.region false [oZ 8 (.mov (bZ false))])
 .ret)
 .skip))
 (.seq (.region false [oZ 94 (.fieldA 3 (tZ 10)), oZ 95 (.load none (tZ 94)), oZ 96 (.mov (tZ 3)), oZ 97 (.build [(.int .i64 0), (.int .i64 0), (.int .i64 0), (.int .i64 0), (.bool false), (.bool false)] [(4, 1, (tZ 95)), (5, 1, (tZ 96))]), oZ 11 (.alloc [(.int .i64 0), (.int .i64 0), (.int .i64 0), (.int .i64 0), (.bool false), (.bool false)]), pZ (.store 6 (tZ 11) (tZ 97))])
 (.seq (.seq (.region false [oZ 98 (.mov (kZ 0))])
 (.block 3 (.loop (.seq (.region false [oZ 99 (.bin .lss .num (tZ 98) (kZ 4))])
 (.seq (.cond (tZ 99) .skip
 (.exit 3))
 (.seq (.block 4 (.seq (.region false [oZ 100 (.mov (tZ 98)), oZ 12 (.mov (tZ 100))])
 (.seq (.region false [oZ 101 (.mov (tZ 12)), oZ 102 (.mov (tZ 0)), oZ 103 (.nilChk (tZ 102)), oZ 104 (.fieldA 1 (tZ 103)), oZ 105 (.load none (tZ 104)), oZ 106 (.lenSl (tZ 105)), oZ 107 (.fieldA 0 (tZ 11)), oZ 108 (.idxAA 4 1 (tZ 107) (tZ 101)), pZ (.store 1 (tZ 108) (tZ 106))])
 (.region false [oZ 109 (.mov (tZ 0)), oZ 110 (.mov (tZ 0)), oZ 111 (.nilChk (tZ 110)), oZ 112 (.fieldA 1 (tZ 111)), oZ 113 (.load none (tZ 112)), oZ 114 (.mkSl 1 1 [(.int .i64 0)] [(0, (kZ (-1)))]), oZ 115 (.append 1 8 [(.int .i64 0)] (tZ 113) (tZ 114)), oZ 116 (.nilChk (tZ 109)), oZ 117 (.fieldA 1 (tZ 116)), pZ (.store 1 (tZ 117) (tZ 115))]))))
 (.region false [oZ 118 (.bin .add .num (tZ 98) (kZ 1)), oZ 98 (.mov (tZ 118))])))))))
 (.seq (.region true [oZ 119 (.mov (tZ 0)), oZ 120 (.mov (tZ 0)), oZ 121 (.nilChk (tZ 120)), oZ 122 (.fieldA 2 (tZ 121)), oZ 123 (.load none (tZ 122)), oZ 124 (.load (some 6) (tZ 11)), ⟨(some 125), .mkSl 6 1 [(.int .i64 0), (.int .i64 0), (.int .i64 0), (.int .i64 0), (.bool false), (.bool false)] [(0, (tZ 124))], none, [4]⟩, oZ 126 (.append 6 40 [(.int .i64 0), (.int .i64 0), (.int .i64 0), (.int .i64 0), (.bool false), (.bool false)] (tZ 123) (tZ 125)), oZ 127 (.nilChk (tZ 119)), oZ 128 (.fieldA 2 (tZ 127)), pZ (.store 1 (tZ 128) (tZ 126))])
 (.seq (.seq (.region false [oZ 129 (.fieldA 2 (tZ 10)), oZ 130 (.load none (tZ 129)), oZ 131 (.mov (kZ 0))])
 (.block 5 (.loop (.seq (.region false [oZ 132 (.bin .lss .num (tZ 131) (tZ 130))])
 (.seq (.cond (tZ 132) .skip
 (.exit 5))
 (.seq (.block 6 (.seq (.region false [oZ 133 (.mov (tZ 131)), oZ 13 (.mov (tZ 133))])
 (.region true [oZ 134 (.mov (tZ 0)), oZ 135 (.mov (tZ 2)), oZ 136 (.fieldA 1 (tZ 10)), oZ 137 (.load none (tZ 136)), oZ 138 (.mov (tZ 13)), oZ 139 (.bin .add .num (tZ 137) (tZ 138)), oZ 140 (.idxA 1 (tZ 135) (tZ 139)), oZ 141 (.load none (tZ 140)), oZ 142 (.mov (tZ 13)), oZ 143 (.bin .sub .num (kZ 4) (tZ 142)), oZ 144 (.bin .rem .num (tZ 143) (kZ 4)), oZ 145 (.fieldA 0 (tZ 11)), oZ 146 (.idxAA 4 1 (tZ 145) (tZ 144)), oZ 147 (.load none (tZ 146)), oZ 148 (.call (.fn 76) [(tZ 134), (tZ 141), (tZ 147)])])))
 (.region false [oZ 149 (.bin .add .num (tZ 131) (kZ 1)), oZ 131 (.mov (tZ 149))])))))))
 (.seq (.region false [oZ 150 (.fieldA 0 (tZ 11)), oZ 151 (.fieldA 2 (tZ 10)), oZ 152 (.load none (tZ 151)), oZ 153 (.bin .sub .num (kZ 5) (tZ 152)), oZ 154 (.slArr 4 1 (tZ 150) (some (kZ 1)) (some (tZ 153))), oZ 14 (.mov (tZ 154))])
 (.region true [oZ 155 (.mov (tZ 2)), oZ 156 (.fieldA 1 (tZ 10)), oZ 157 (.load none (tZ 156)), oZ 158 (.slSl 1 (tZ 155) none (some (tZ 157)) none), oZ 159 (.call (.fn 77) [(tZ 158)]), oZ 160 (.mov (tZ 14)), oZ 161 (.append 1 8 [(.int .i64 0)] (tZ 159) (tZ 160)), oZ 162 (.mov (tZ 2)), oZ 163 (.fieldA 1 (tZ 10)), ⟨(some 164), .load none (tZ 163), none, [4, 6]⟩, oZ 165 (.fieldA 2 (tZ 10)), ⟨(some 166), .load none (tZ 165), none, [4, 6]⟩, oZ 167 (.bin .add .num (tZ 164) (tZ 166)), ⟨(some 168), .slSl 1 (tZ 162) (some (tZ 167)) none none, none, [4, 6]⟩, oZ 169 (.append 1 8 [(.int .i64 0)] (tZ 161) (tZ 168)), oZ 2 (.mov (tZ 169))])))))))
 (.seq (.region false [oZ 8 (.mov (bZ false))])
 .ret)))))))))
 (.region false [oZ 170 (.bin .add .num (tZ 17) (kZ 1)), oZ 17 (.mov (tZ 170))])))))))
 (.seq (.region false [oZ 171 (.mov (tZ 2)), oZ 172 (.lenSl (tZ 171)), oZ 173 (.bin .eql .num (tZ 172) (kZ 0)), oZ 8 (.mov (tZ 173))])
 .ret)))⟩
theorem cf46 : cFn Tryz.prog Tryz.f46 = some af46 := by kernel_rfl
theorem gd46 : Go.AE.Good Tryz.prog (46, af46) := ⟨⟨_, Tryz.func46, cf46⟩, by kernel_rfl, by kernel_rfl, by kernel_rfl⟩
def af47 : AFn := ⟨199, [(4, (some (some 2))), (5, none)], (.seq (.region false [oZ 4 (.alloc [(.int .i64 0), .nilSl]), oZ 5 (.mov (bZ false))])
 (.seq (.region false [oZ 23 (.mov (tZ 1)), oZ 24 (.build [(.int .i64 0), .nilSl] [(0, 1, (tZ 23))]), oZ 6 (.alloc [(.int .i64 0), .nilSl]), pZ (.store 2 (tZ 6) (tZ 24))])
 (.seq (.region false [oZ 25 (.mov (tZ 0)), oZ 26 (.nilChk (tZ 25)), oZ 27 (.fieldA 0 (tZ 26)), oZ 28 (.load none (tZ 27)), oZ 29 (.lenSl (tZ 28)), oZ 7 (.mov (tZ 29))])
 (.seq (.region false [oZ 30 (.mov (tZ 0)), oZ 31 (.nilChk (tZ 30)), oZ 32 (.fieldA 2 (tZ 31)), oZ 33 (.load none (tZ 32)), oZ 34 (.lenSl (tZ 33)), oZ 35 (.makeSl 1 24 [.nilSl] (tZ 34) (tZ 34)), oZ 8 (.mov (tZ 35))])
 (.seq (.region false [oZ 36 (.mkMap), oZ 9 (.mov (tZ 36))])
 (.seq (.region false [oZ 37 (.mov (tZ 7)), oZ 38 (.mov (tZ 0)), oZ 39 (.nilChk (tZ 38)), oZ 40 (.fieldA 2 (tZ 39)), oZ 41 (.load none (tZ 40)), oZ 42 (.lenSl (tZ 41)), oZ 43 (.bin .mul .num (kZ 2) (tZ 42)), oZ 44 (.bin .add .num (tZ 37) (tZ 43)), oZ 10 (.mov (tZ 44))])
 (.seq (.region false [oZ 11 (.mov (kZ 0))])
 (.seq (.block 0 (.loop (.block 1 (.seq (.seq (.region false [oZ 45 (.mov (tZ 10)), oZ 46 (.bin .sub .num (tZ 45) (kZ 1)), oZ 10 (.mov (tZ 46))])
 (.seq (.region false [oZ 47 (.mov (tZ 10)), oZ 48 (.bin .lss .num (tZ 47) (kZ 0))])
 (.cond (tZ 48) (.seq (.region false [oZ 49 (.build [(.int .i64 0), .nilSl] []), pZ (.store 2 (tZ 4) (tZ 49)), oZ 5 (.mov (bZ false))])
 .ret)
 .skip)))
 (.seq (.seq (.region false [oZ 50 (.mov (tZ 11)), oZ 51 (.mov (tZ 7)), oZ 52 (.bin .mul .num (kZ 2) (tZ 51)), oZ 53 (.bin .lss .num (tZ 50) (tZ 52))])
 (.cond (tZ 53) (.seq (.region true [oZ 54 (.fieldA 1 (tZ 6)), oZ 55 (.load none (tZ 54)), oZ 56 (.mov (tZ 0)), oZ 57 (.nilChk (tZ 56)), oZ 58 (.fieldA 0 (tZ 57)), oZ 59 (.load none (tZ 58)), oZ 60 (.mov (tZ 11)), oZ 61 (.bin .quo .num (tZ 60) (kZ 2)), oZ 62 (.idxA 6 (tZ 59) (tZ 61)), oZ 63 (.load (some 6) (tZ 62)), ⟨(some 64), .mkSl 6 1 [(.int .i64 0), (.int .i64 0), (.int .i64 0), (.int .i64 0), (.int .i64 0), (.bool false)] [(0, (tZ 63))], none, [1]⟩, oZ 65 (.append 6 48 [(.int .i64 0), (.int .i64 0), (.int .i64 0), (.int .i64 0), (.int .i64 0), (.bool false)] (tZ 55) (tZ 64)), oZ 66 (.fieldA 1 (tZ 6)), pZ (.store 1 (tZ 66) (tZ 65))])
 (.region false [oZ 67 (.mov (tZ 11)), oZ 68 (.bin .xor .num (tZ 67) (kZ 1)), oZ 11 (.mov (tZ 68))]))
 (.seq (.region false [oZ 69 (.mov (tZ 11)), oZ 70 (.mov (tZ 7)), oZ 71 (.bin .mul .num (kZ 2) (tZ 70)), oZ 72 (.bin .sub .num (tZ 69) (tZ 71)), oZ 73 (.bin .quo .num (tZ 72) (kZ 4)), oZ 74 (.mov (tZ 11)), oZ 75 (.mov (tZ 7)), oZ 76 (.bin .mul .num (kZ 2) (tZ 75)), oZ 77 (.bin .sub .num (tZ 74) (tZ 76)), oZ 78 (.bin .rem .num (tZ 77) (kZ 4)), oZ 12 (.mov (tZ 73)), oZ 13 (.mov (tZ 78))])
 (.seq (.seq (.region false [oZ 79 (.mov (tZ 9)), oZ 80 (.mov (tZ 12)), oZ 81 (.lookup .int (.int .i64 0) false (tZ 79) (tZ 80)), oZ 82 (.bin .eql .num (tZ 81) (kZ 0))])
 (.cond (tZ 82) (.region false [oZ 83 (.mov (tZ 9)), oZ 84 (.mov (tZ 12)), oZ 85 (.mov (tZ 9)), oZ 86 (.lenMap (tZ 85)), oZ 87 (.bin .add .num (tZ 86) (kZ 1)), pZ (.mapUpd .int (tZ 83) (tZ 84) (tZ 87))])
 .skip))
 (.seq (.region true [oZ 88 (.mov (tZ 8)), oZ 89 (.mov (tZ 12)), oZ 90 (.mov (tZ 8)), oZ 91 (.mov (tZ 12)), oZ 92 (.idxA 1 (tZ 90) (tZ 91)), oZ 93 (.load none (tZ 92)), oZ 94 (.fieldA 1 (tZ 6)), oZ 95 (.load none (tZ 94)), oZ 96 (.lenSl (tZ 95)), oZ 97 (.mov (tZ 13)), oZ 98 (.build [(.int .i64 0), (.int .i64 0)] [(0, 1, (tZ 96)), (1, 1, (tZ 97))]), ⟨(some 99), .mkSl 2 1 [(.int .i64 0), (.int .i64 0)] [(0, (tZ 98))], none, [4, 5]⟩, oZ 100 (.append 2 16 [(.int .i64 0), (.int .i64 0)] (tZ 93) (tZ 99)), oZ 101 (.idxA 1 (tZ 88) (tZ 89)), pZ (.store 1 (tZ 101) (tZ 100))])
 (.seq (.region false [oZ 102 (.fieldA 1 (tZ 6)), oZ 103 (.load none (tZ 102)), oZ 104 (.mov (tZ 9)), oZ 105 (.mov (tZ 12)), oZ 106 (.lookup .int (.int .i64 0) false (tZ 104) (tZ 105)), oZ 107 (.build [(.int .i64 0), (.int .i64 0), (.int .i64 0), (.int .i64 0), (.int .i64 0), (.bool false)] [(0, 1, (kZ 2)), (3, 1, (tZ 106))]), oZ 108 (.mkSl 6 1 [(.int .i64 0), (.int .i64 0), (.int .i64 0), (.int .i64 0), (.int .i64 0), (.bool false)] [(0, (tZ 107))]), oZ 109 (.append 6 48 [(.int .i64 0), (.int .i64 0), (.int .i64 0), (.int .i64 0), (.int .i64 0), (.bool false)] (tZ 103) (tZ 108)), oZ 110 (.fieldA 1 (tZ 6)), pZ (.store 1 (tZ 110) (tZ 109))])
 (.region false [oZ 111 (.mov (tZ 11)), oZ 112 (.mov (tZ 13)), oZ 113 (.bin .add .num (tZ 112) (kZ 2)), oZ 114 (.bin .rem .num (tZ 113) (kZ 4)), oZ 115 (.mov (tZ 13)), oZ 116 (.bin .sub .num (tZ 114) (tZ 115)), oZ 117 (.bin .add .num (tZ 111) (tZ 116)), oZ 11 (.mov (tZ 117))])))))))
 (.seq (.seq (.region false [oZ 118 (.mov (tZ 0)), oZ 119 (.nilChk (tZ 118)), oZ 120 (.fieldA 1 (tZ 119)), oZ 121 (.load none (tZ 120)), oZ 122 (.mov (tZ 11)), oZ 123 (.idxA 1 (tZ 121) (tZ 122)), oZ 124 (.load none (tZ 123)), oZ 11 (.mov (tZ 124))])
 (.seq (.region false [oZ 125 (.mov (tZ 11)), oZ 126 (.bin .eql .num (tZ 125) (kZ 0))])
 (.cond (tZ 126) (.exit 0)
 .skip)))
 (.seq (.region false [oZ 127 (.mov (tZ 11)), oZ 128 (.bin .lss .num (tZ 127) (kZ 0))])
 (.cond (tZ 128) (.seq (.region false [oZ 129 (.build [(.int .i64 0), .nilSl] []), pZ (.store 2 (tZ 4) (tZ 129)), oZ 5 (.mov (bZ false))])
 .ret)
 .skip))))))))
 (.seq (.seq (.region false [oZ 130 (.mov (tZ 10)), oZ 131 (.bin .neq .num (tZ 130) (kZ 0))])
 (.cond (tZ 131) (.seq (.region false [oZ 132 (.build [(.int .i64 0), .nilSl] []), pZ (.store 2 (tZ 4) (tZ 132)), oZ 5 (.mov (bZ false))])
 .ret)
 .skip))
 (.seq (.seq (.region false [oZ 133 (.mov (tZ 8)), oZ 134 (.lenSl (tZ 133)), oZ 135 (.mov (kZ 0))])
 (.block 2 (.loop (.seq (.region false [oZ 136 (.bin .lss .num (tZ 135) (tZ 134))])
 (.seq (.cond (tZ 136) .skip
 (.exit 2))
 (.seq (.block 3 (.seq (.region false [oZ 137 (.mov (tZ 135)), oZ 138 (.idxA 1 (tZ 133) (tZ 135)), oZ 139 (.load none (tZ 138)), oZ 14 (.mov (tZ 137)), oZ 15 (.mov (tZ 139))])
 (.seq (.region false [oZ 140 (.mov (tZ 0)), oZ 141 (.nilChk (tZ 140)), oZ 142 (.fieldA 2 (tZ 141)), oZ 143 (.load none (tZ 142)), oZ 144 (.mov (tZ 14)), oZ 145 (.idxA 6 (tZ 143) (tZ 144)), oZ 146 (.load (some 6) (tZ 145)), oZ 16 (.alloc [(.int .i64 0), (.int .i64 0), (.int .i64 0), (.int .i64 0), (.bool false), (.bool false)]), pZ (.store 6 (tZ 16) (tZ 146))])
 (.seq (.region true [oZ 147 (.mov (tZ 15)), oZ 148 (.idxA 2 (tZ 147) (kZ 0)), oZ 149 (.load (some 2) (tZ 148)), oZ 150 (.mov (tZ 15)), oZ 151 (.idxA 2 (tZ 150) (kZ 1)), oZ 152 (.load (some 2) (tZ 151)), ⟨(some 17), .alloc [(.int .i64 0), (.int .i64 0)], none, [1, 2, 4, 5]⟩, ⟨(some 18), .alloc [(.int .i64 0), (.int .i64 0)], none, [1, 2, 4, 5, 6]⟩, ⟨none, .store 2 (tZ 17) (tZ 149), none, [4, 5]⟩, pZ (.store 2 (tZ 18) (tZ 152))])
 (.seq (.seq (.region false [oZ 153 (.fieldA 1 (tZ 17)), oZ 154 (.load none (tZ 153)), oZ 155 (.bin .rem .num (tZ 154) (kZ 2)), oZ 156 (.bin .eql .num (tZ 155) (kZ 0)), oZ 157 (.fieldA 4 (tZ 16)), oZ 158 (.load none (tZ 157)), oZ 159 (.bin .neq .bool (tZ 156) (tZ 158))])
 (.cond (tZ 159) (.region false [oZ 160 (.load (some 2) (tZ 18)), oZ 161 (.load (some 2) (tZ 17)), pZ (.store 2 (tZ 17) (tZ 160)), pZ (.store 2 (tZ 18) (tZ 161))])
 .skip))
 (.seq (.region false [oZ 19 (.mov (kZ (-1)))])
 (.seq (.seq (.region false [oZ 162 (.fieldA 1 (tZ 18)), oZ 163 (.load none (tZ 162)), oZ 164 (.fieldA 1 (tZ 17)), oZ 165 (.load none (tZ 164)), oZ 166 (.bin .add .num (tZ 165) (kZ 3)), oZ 167 (.bin .rem .num (tZ 166) (kZ 4)), oZ 168 (.bin .eql .num (tZ 163) (tZ 167))])
 (.cond (tZ 168) (.region false [oZ 19 (.mov (kZ 1))])
 .skip))
 (.seq (.region false [oZ 169 (.mov (tZ 15)), oZ 170 (.lenSl (tZ 169)), oZ 171 (.mov (kZ 0))])
 (.block 4 (.loop (.seq (.region false [oZ 172 (.bin .lss .num (tZ 171) (tZ 170))])
 (.seq (.cond (tZ 172) .skip
 (.exit 4))
 (.seq (.block 5 (.seq (.region false [oZ 173 (.idxA 2 (tZ 169) (tZ 171)), oZ 174 (.load (some 2) (tZ 173)), oZ 21 (.alloc [(.int .i64 0), (.int .i64 0)]), pZ (.store 2 (tZ 21) (tZ 174))])
 (.seq (.region false [oZ 175 (.fieldA 1 (tZ 6)), oZ 176 (.load none (tZ 175)), oZ 177 (.fieldA 0 (tZ 21)), oZ 178 (.load none (tZ 177)), oZ 179 (.idxA 6 (tZ 176) (tZ 178)), oZ 22 (.mov (tZ 179))])
 (.region true [oZ 180 (.mov (tZ 22)), oZ 181 (.mov (tZ 22)), oZ 182 (.mov (tZ 19)), oZ 183 (.load (some 2) (tZ 21)), oZ 184 (.load (some 2) (tZ 17)), oZ 185 (.bin .eql (.flat [.int, .int]) (tZ 183) (tZ 184)), oZ 186 (.fieldA 5 (tZ 16)), oZ 187 (.load none (tZ 186)), oZ 188 (.bin .neq .bool (tZ 185) (tZ 187)), oZ 189 (.nilChk (tZ 180)), oZ 190 (.fieldA 4 (tZ 189)), ⟨none, .store 1 (tZ 190) (tZ 182), none, [3, 4, 7]⟩, oZ 191 (.nilChk (tZ 181)), oZ 192 (.fieldA 5 (tZ 191)), pZ (.store 1 (tZ 192) (tZ 188))]))))
 (.region false [oZ 193 (.bin .add .num (tZ 171) (kZ 1)), oZ 171 (.mov (tZ 193))]))))))))))))))
 (.region false [oZ 194 (.bin .add .num (tZ 135) (kZ 1)), oZ 135 (.mov (tZ 194))])))))))
 (.seq (.region true [oZ 195 (.load (some 2) (tZ 6)), oZ 196 (.load (some 2) (tZ 6)), ⟨(some 197), .call (.fn 30) [(tZ 196)], none, [0]⟩, oZ 198 (.bin .eql .num (tZ 197) (kZ 0)), pZ (.store 2 (tZ 4) (tZ 195)), oZ 5 (.mov (tZ 198))])
 .ret)))))))))))⟩
theorem cf47 : cFn Tryz.prog Tryz.f47 = some af47 := by kernel_rfl
theorem gd47 : Go.AE.Good Tryz.prog (47, af47) := ⟨⟨_, Tryz.func47, cf47⟩, by kernel_rfl, by kernel_rfl, by kernel_rfl⟩
def af48 : AFn := ⟨51, [(2, (some (some 2)))], (.seq (.region false [oZ 1 (.box (tZ 0)), oZ 2 (.alloc [(.int .i64 0), .nilSl])])
 (.seq (.region false [oZ 9 (.load (some 2) (tZ 1)), oZ 10 (.call (.fn 78) [(tZ 9)]), oZ 3 (.alloc [(.int .i64 0), .nilSl]), pZ (.store 2 (tZ 3) (tZ 10))])
 (.seq (.region true [oZ 11 (.load (some 2) (tZ 1)), oZ 12 (.load (some 2) (tZ 1)), ⟨(some 13), .call (.fn 79) [(tZ 12)], none, [0]⟩, oZ 14 (.mkSl 2 2 [(.int .i64 0), .nilSl] [(0, (tZ 11)), (1, (tZ 13))]), oZ 4 (.mov (tZ 14))])
 (.seq (.seq (.region false [oZ 5 (.mov (kZ 0))])
 (.block 0 (.loop (.seq (.seq (.region false [oZ 15 (.mov (tZ 5)), oZ 16 (.bin .lss .num (tZ 15) (kZ 2))])
 (.cond (tZ 16) .skip
 (.exit 0)))
 (.seq (.block 1 (.seq (.region false [oZ 19 (.mov (tZ 4)), oZ 20 (.mov (tZ 5)), oZ 21 (.idxA 2 (tZ 19) (tZ 20)), oZ 22 (.load (some 2) (tZ 21)), oZ 6 (.alloc [(.int .i64 0), .nilSl]), pZ (.store 2 (tZ 6) (tZ 22))])
 (.seq (.region false [oZ 7 (.mov (kZ 0))])
 (.block 2 (.loop (.seq (.seq (.region false [oZ 23 (.mov (tZ 7)), oZ 24 (.fieldA 1 (tZ 6)), oZ 25 (.load none (tZ 24)), oZ 26 (.lenSl (tZ 25)), oZ 27 (.bin .lss .num (tZ 23) (tZ 26))])
 (.cond (tZ 27) .skip
 (.exit 2)))
 (.seq (.block 3 (.seq (.region false [oZ 30 (.fieldA 1 (tZ 6)), oZ 31 (.load none (tZ 30)), oZ 32 (.mov (tZ 7)), oZ 33 (.idxA 6 (tZ 31) (tZ 32)), oZ 34 (.fieldA 0 (tZ 33)), oZ 35 (.load none (tZ 34)), oZ 36 (.bin .eql .num (tZ 35) (kZ 1)), oZ 37 (.mov (tZ 36)), gZ 38 37 true (.load (some 2) (tZ 6)), gZ 39 37 true (.mov (tZ 7)), gZ 40 37 true (.call (.fn 68) [(tZ 38), (tZ 39)]), oZ 41 (.pick (tZ 37) (tZ 40) (bZ false))])
 (.cond (tZ 41) (.seq (.region false [oZ 42 (.load (some 2) (tZ 6)), oZ 43 (.mov (tZ 7)), oZ 44 (.call (.fn 80) [(tZ 42), (tZ 43)]), oZ 45 (.call (.fn 78) [(tZ 44)]), oZ 8 (.alloc [(.int .i64 0), .nilSl]), pZ (.store 2 (tZ 8) (tZ 45))])
 (.seq (.region false [oZ 46 (.load (some 2) (tZ 8)), oZ 47 (.load (some 2) (tZ 3)), oZ 48 (.call (.fn 81) [(tZ 46), (tZ 47)])])
 (.cond (tZ 48) (.region false [oZ 49 (.load (some 2) (tZ 8)), pZ (.store 2 (tZ 3) (tZ 49))])
 .skip)))
 .skip)))
 (.region false [oZ 28 (.mov (tZ 7)), oZ 29 (.bin .add .num (tZ 28) (kZ 1)), oZ 7 (.mov (tZ 29))]))))))))
 (.region false [oZ 17 (.mov (tZ 5)), oZ 18 (.bin .add .num (tZ 17) (kZ 1)), oZ 5 (.mov (tZ 18))]))))))
 (.seq (.region false [oZ 50 (.load (some 2) (tZ 3)), pZ (.store 2 (tZ 2) (tZ 50))])
 .ret)))))⟩
theorem cf48 : cFn Tryz.prog Tryz.f48 = some af48 := by kernel_rfl
theorem gd48 : Go.AE.Good Tryz.prog (48, af48) := ⟨⟨_, Tryz.func48, cf48⟩, by kernel_rfl, by kernel_rfl, by kernel_rfl⟩
def af49 : AFn := ⟨23, [(4, none), (5, none)], (.seq (.region false [oZ 2 (.box (tZ 0)), oZ 3 (.box (tZ 1)), oZ 4 (.mov (.const .nilPtr)), oZ 5 (.mov (kZ 0))])
 (.seq (.seq (.region false [oZ 7 (.load (some 3) (tZ 2)), oZ 8 (.call (.fn 82) [(tZ 7)]), oZ 9 (.un .not (tZ 8))])
 (.cond (tZ 9) (.seq (.region false [oZ 4 (.mov (.const .nilPtr)), oZ 5 (.mov (kZ 2))])
 .ret)
 .skip))
 (.seq (.seq (.region false [oZ 10 (.load (some 2) (tZ 3)), oZ 11 (.call (.fn 30) [(tZ 10)]), oZ 6 (.mov (tZ 11))])
 (.seq (.region false [oZ 12 (.mov (tZ 6)), oZ 13 (.bin .neq .num (tZ 12) (kZ 0))])
 (.cond (tZ 13) (.seq (.region false [oZ 14 (.mov (tZ 6)), oZ 4 (.mov (.const .nilPtr)), oZ 5 (.mov (tZ 14))])
 .ret)
 .skip)))
 (.seq (.seq (.region false [oZ 15 (.load (some 3) (tZ 2)), oZ 16 (.load (some 2) (tZ 3)), oZ 17 (.call (.fn 83) [(tZ 15), (tZ 16)]), oZ 18 (.un .not (tZ 17))])
 (.cond (tZ 18) (.seq (.region false [oZ 4 (.mov (.const .nilPtr)), oZ 5 (.mov (kZ 2))])
 .ret)
 .skip))
 (.seq (.region false [oZ 19 (.load (some 3) (tZ 2)), oZ 20 (.load (some 2) (tZ 3)), oZ 21 (.build [.nilSl, (.int .i64 0), (.int .i64 0), (.int .i64 0), .nilSl] [(0, 3, (tZ 19)), (3, 2, (tZ 20))]), oZ 22 (.box (tZ 21)), oZ 4 (.mov (tZ 22)), oZ 5 (.mov (kZ 0))])
 .ret)))))⟩
theorem cf49 : cFn Tryz.prog Tryz.f49 = some af49 := by kernel_rfl
theorem gd49 : Go.AE.Good Tryz.prog (49, af49) := ⟨⟨_, Tryz.func49, cf49⟩, by kernel_rfl, by kernel_rfl, by kernel_rfl⟩
def af50 : AFn := ⟨76, [(6, none)], (.seq (.region false [oZ 4 (.box (tZ 1)), oZ 5 (.box (tZ 2)), oZ 6 (.mov (kZ 0))])
 (.seq (.seq (.region false [oZ 14 (.load none (tZ 4)), oZ 15 (.lenSl (tZ 14)), oZ 16 (.bin .eql .num (tZ 15) (kZ 0)), oZ 17 (.mov (tZ 16)), gZ 18 17 false (.load none (tZ 4)), gZ 19 17 false (.mkFunc (.func 85) [] [(tZ 4)]), gZ 20 17 false (.call (.fn 84) [(tZ 18), (tZ 19)]), oZ 21 (.pick (tZ 17) (bZ true) (tZ 20))])
 (.cond (tZ 21) (.seq (.region false [oZ 6 (.mov (kZ 2))])
 .ret)
 .skip))
 (.seq (.region false [oZ 23 (.mov (tZ 0)), oZ 24 (.call (.fn 51) [(tZ 23)]), oZ 22 (.mov (tZ 24)), oZ 25 (.ext (tZ 22) 0), oZ 26 (.ext (tZ 22) 1), oZ 7 (.alloc [.nilSl, (.int .i64 0), (.int .i64 0)]), oZ 8 (.alloc [(.int .i64 0), .nilSl]), pZ (.store 3 (tZ 7) (tZ 25)), pZ (.store 2 (tZ 8) (tZ 26))])
 (.seq (.region false [oZ 27 (.fieldA 0 (tZ 5)), oZ 28 (.load none (tZ 27)), oZ 9 (.mov (tZ 28))])
 (.seq (.seq (.region false [oZ 29 (.load none (tZ 4)), oZ 30 (.lenSl (tZ 29)), oZ 31 (.mov (kZ 0))])
 (.block 0 (.loop (.seq (.region false [oZ 32 (.bin .lss .num (tZ 31) (tZ 30))])
 (.seq (.cond (tZ 32) .skip
 (.exit 0))
 (.seq (.block 1 (.seq (.region false [oZ 33 (.idxA 3 (tZ 29) (tZ 31)), oZ 34 (.load (some 3) (tZ 33)), oZ 11 (.alloc [(.int .i64 0), (.bool false), (.int .i64 0)]), pZ (.store 3 (tZ 11) (tZ 34))])
 (.seq (.region false [oZ 36 (.load (some 2) (tZ 8)), oZ 37 (.load (some 2) (tZ 5)), oZ 38 (.call (.fn 86) [(tZ 36), (tZ 37)]), oZ 35 (.mov (tZ 38)), oZ 39 (.ext (tZ 35) 0), oZ 40 (.ext (tZ 35) 1), oZ 12 (.alloc [(.int .i64 0), .nilSl]), pZ (.store 2 (tZ 12) (tZ 39)), oZ 13 (.mov (tZ 40))])
 (.seq (.seq (.region false [oZ 41 (.mov (tZ 13)), oZ 42 (.bin .neq .num (tZ 41) (kZ 0))])
 (.cond (tZ 42) (.seq (.region false [oZ 6 (.mov (kZ 2))])
 .ret)
 .skip))
 (.seq (.region false [oZ 43 (.fieldA 0 (tZ 7)), oZ 44 (.load none (tZ 43)), oZ 45 (.fieldA 0 (tZ 5)), oZ 46 (.load none (tZ 45)), oZ 47 (.load (some 3) (tZ 11)), oZ 48 (.mkSl 3 1 [(.int .i64 0), (.bool false), (.int .i64 0)] [(0, (tZ 47))]), oZ 49 (.call (.fn 87) [(tZ 44), (tZ 46), (tZ 48)]), oZ 50 (.fieldA 0 (tZ 7)), pZ (.store 1 (tZ 50) (tZ 49))])
 (.region true [oZ 51 (.load (some 2) (tZ 12)), oZ 52 (.fieldA 0 (tZ 5)), oZ 53 (.load none (tZ 52)), oZ 54 (.bin .add .num (tZ 53) (kZ 1)), oZ 55 (.build [(.int .i64 0), (.int .i64 0)] [(0, 1, (tZ 54))]), ⟨none, .store 2 (tZ 8) (tZ 51), none, [2]⟩, pZ (.store 2 (tZ 5) (tZ 55))]))))))
 (.region false [oZ 56 (.bin .add .num (tZ 31) (kZ 1)), oZ 31 (.mov (tZ 56))])))))))
 (.seq (.seq (.region false [oZ 57 (.mov (tZ 9)), oZ 58 (.bin .lss .num (tZ 57) (kZ 0)), oZ 59 (.mov (tZ 58)), gZ 60 59 false (.load (some 3) (tZ 7)), gZ 61 59 false (.call (.fn 82) [(tZ 60)]), gZ 62 59 false (.un .not (tZ 61)), oZ 63 (.pick (tZ 59) (bZ true) (tZ 62))])
 (.cond (tZ 63) (.seq (.region false [oZ 6 (.mov (kZ 2))])
 .ret)
 .skip))
 (.seq (.seq (.region false [oZ 64 (.load (some 3) (tZ 7)), oZ 65 (.load (some 2) (tZ 8)), oZ 66 (.call (.fn 83) [(tZ 64), (tZ 65)]), oZ 67 (.un .not (tZ 66))])
 (.cond (tZ 67) (.seq (.region false [oZ 6 (.mov (kZ 4))])
 .ret)
 .skip))
 (.seq (.region true [oZ 68 (.mov (tZ 0)), oZ 69 (.mov (tZ 0)), oZ 70 (.load (some 3) (tZ 7)), oZ 71 (.load (some 2) (tZ 8)), oZ 72 (.nilChk (tZ 68)), oZ 73 (.fieldA 0 (tZ 72)), ⟨none, .store 3 (tZ 73) (tZ 70), none, [3]⟩, oZ 74 (.nilChk (tZ 69)), oZ 75 (.fieldA 3 (tZ 74)), pZ (.store 2 (tZ 75) (tZ 71))])
 (.seq (.region false [oZ 6 (.mov (kZ 0))])
 .ret)))))))))⟩
theorem cf50 : cFn Tryz.prog Tryz.f50 = some af50 := by kernel_rfl
theorem gd50 : Go.AE.Good Tryz.prog (50, af50) := ⟨⟨_, Tryz.func50, cf50⟩, by kernel_rfl, by kernel_rfl, by kernel_rfl⟩
def af51 : AFn := ⟨24, [(2, (some (some 3))), (3, (some (some 2)))], (.seq (.region false [oZ 2 (.alloc [.nilSl, (.int .i64 0), (.int .i64 0)]), oZ 3 (.alloc [(.int .i64 0), .nilSl])])
 (.seq (.region true [oZ 6 (.mov (tZ 0)), oZ 7 (.nilChk (tZ 6)), oZ 8 (.fieldA 0 (tZ 7)), oZ 9 (.load (some 3) (tZ 8)), oZ 10 (.mov (tZ 0)), oZ 11 (.nilChk (tZ 10)), oZ 12 (.fieldA 3 (tZ 11)), oZ 13 (.load (some 2) (tZ 12)), ⟨(some 4), .alloc [.nilSl, (.int .i64 0), (.int .i64 0)], none, [3, 7]⟩, ⟨(some 5), .alloc [(.int .i64 0), .nilSl], none, [3, 7, 8]⟩, ⟨none, .store 3 (tZ 4) (tZ 9), none, [7]⟩, pZ (.store 2 (tZ 5) (tZ 13))])
 (.seq (.region true [oZ 14 (.fieldA 0 (tZ 4)), oZ 15 (.load none (tZ 14)), oZ 16 (.call (.fn 88) [(tZ 15)]), oZ 17 (.fieldA 1 (tZ 5)), ⟨(some 18), .load none (tZ 17), none, [2]⟩, oZ 19 (.call (.fn 31) [(tZ 18)]), oZ 20 (.fieldA 0 (tZ 4)), pZ (.store 1 (tZ 20) (tZ 16)), oZ 21 (.fieldA 1 (tZ 5)), pZ (.store 1 (tZ 21) (tZ 19))])
 (.seq (.region true [oZ 22 (.load (some 3) (tZ 4)), oZ 23 (.load (some 2) (tZ 5)), ⟨none, .store 3 (tZ 2) (tZ 22), none, [1]⟩, pZ (.store 2 (tZ 3) (tZ 23))])
 .ret))))⟩
theorem cf51 : cFn Tryz.prog Tryz.f51 = some af51 := by kernel_rfl
theorem gd51 : Go.AE.Good Tryz.prog (51, af51) := ⟨⟨_, Tryz.func51, cf51⟩, by kernel_rfl, by kernel_rfl, by kernel_rfl⟩
def af52 : AFn := ⟨63, [(4, none)], (.seq (.region false [oZ 3 (.box (tZ 1)), oZ 4 (.mov (kZ 0))])
 (.seq (.seq (.region false [oZ 8 (.mov (tZ 0)), oZ 9 (.nilChk (tZ 8)), oZ 10 (.fieldA 0 (tZ 9)), oZ 11 (.fieldA 0 (tZ 10)), oZ 12 (.load none (tZ 11)), oZ 13 (.mkFunc (.func 89) [] [(tZ 3)]), oZ 14 (.call (.fn 84) [(tZ 12), (tZ 13)]), oZ 15 (.un .not (tZ 14))])
 (.cond (tZ 15) (.seq (.region false [oZ 4 (.mov (kZ 8))])
 .ret)
 .skip))
 (.seq (.seq (.region false [oZ 16 (.mov (tZ 0)), oZ 17 (.load none (tZ 3)), oZ 18 (.call (.fn 90) [(tZ 16), (tZ 17)]), oZ 19 (.bin .gtr .num (tZ 18) (kZ 0))])
 (.cond (tZ 19) (.seq (.region false [oZ 4 (.mov (kZ 5))])
 .ret)
 .skip))
 (.seq (.region false [oZ 21 (.mov (tZ 0)), oZ 22 (.call (.fn 51) [(tZ 21)]), oZ 20 (.mov (tZ 22)), oZ 23 (.ext (tZ 20) 0), oZ 24 (.ext (tZ 20) 1), oZ 5 (.alloc [.nilSl, (.int .i64 0), (.int .i64 0)]), oZ 6 (.alloc [(.int .i64 0), .nilSl]), pZ (.store 3 (tZ 5) (tZ 23)), pZ (.store 2 (tZ 6) (tZ 24))])
 (.seq (.seq (.region false [oZ 25 (.fieldA 0 (tZ 5)), oZ 26 (.load none (tZ 25)), oZ 27 (.lenSl (tZ 26)), oZ 28 (.bin .sub .num (tZ 27) (kZ 1)), oZ 7 (.mov (tZ 28))])
 (.block 0 (.loop (.seq (.seq (.region false [oZ 29 (.mov (tZ 7)), oZ 30 (.bin .geq .num (tZ 29) (kZ 0))])
 (.cond (tZ 30) .skip
 (.exit 0)))
 (.seq (.block 1 (.seq (.region true [oZ 33 (.fieldA 0 (tZ 5)), oZ 34 (.load none (tZ 33)), oZ 35 (.mov (tZ 7)), oZ 36 (.idxA 3 (tZ 34) (tZ 35)), oZ 37 (.fieldA 0 (tZ 36)), oZ 38 (.load none (tZ 37)), oZ 39 (.load none (tZ 3)), oZ 40 (.bin .eql .num (tZ 38) (tZ 39))])
 (.cond (tZ 40) (.seq (.region false [oZ 42 (.load (some 2) (tZ 6)), oZ 43 (.mov (tZ 7)), oZ 44 (.bin .add .num (tZ 43) (kZ 1)), oZ 45 (.call (.fn 91) [(tZ 42), (tZ 44)]), oZ 41 (.mov (tZ 45)), oZ 46 (.ext (tZ 41) 0), oZ 47 (.ext (tZ 41) 1), pZ (.store 2 (tZ 6) (tZ 46))])
 (.region false [oZ 48 (.fieldA 0 (tZ 5)), oZ 49 (.load none (tZ 48)), oZ 50 (.mov (tZ 7)), oZ 51 (.mov (tZ 7)), oZ 52 (.bin .add .num (tZ 51) (kZ 1)), oZ 53 (.call (.fn 92) [(tZ 49), (tZ 50), (tZ 52)]), oZ 54 (.fieldA 0 (tZ 5)), pZ (.store 1 (tZ 54) (tZ 53))]))
 .skip)))
 (.region false [oZ 31 (.mov (tZ 7)), oZ 32 (.bin .sub .num (tZ 31) (kZ 1)), oZ 7 (.mov (tZ 32))]))))))
 (.seq (.region true [oZ 55 (.mov (tZ 0)), oZ 56 (.mov (tZ 0)), oZ 57 (.load (some 3) (tZ 5)), oZ 58 (.load (some 2) (tZ 6)), oZ 59 (.nilChk (tZ 55)), oZ 60 (.fieldA 0 (tZ 59)), ⟨none, .store 3 (tZ 60) (tZ 57), none, [3]⟩, oZ 61 (.nilChk (tZ 56)), oZ 62 (.fieldA 3 (tZ 61)), pZ (.store 2 (tZ 62) (tZ 58))])
 (.seq (.region false [oZ 4 (.mov (kZ 0))])
 .ret)))))))⟩
theorem cf52 : cFn Tryz.prog Tryz.f52 = some af52 := by kernel_rfl
theorem gd52 : Go.AE.Good Tryz.prog (52, af52) := ⟨⟨_, Tryz.func52, cf52⟩, by kernel_rfl, by kernel_rfl, by kernel_rfl⟩
def af53 : AFn := ⟨5, [(2, none)], (.seq (.region false [oZ 2 (.mov (.const (.str [])))])
 (.seq (.region false [oZ 3 (.mov (tZ 0)), oZ 4 (.call (.fn 93) [(tZ 3)]), oZ 2 (.mov (tZ 4))])
 .ret))⟩
theorem cf53 : cFn Tryz.prog Tryz.f53 = some af53 := by kernel_rfl
theorem gd53 : Go.AE.Good Tryz.prog (53, af53) := ⟨⟨_, Tryz.func53, cf53⟩, by kernel_rfl, by kernel_rfl, by kernel_rfl⟩
def af54 : AFn := ⟨23, [(4, (some (some 2))), (5, none)], (.seq (.region false [⟨(some 2), .box (.tmp 0), none, []⟩, ⟨(some 4), .alloc [(.int .i64 0), .nilSl], none, []⟩, ⟨(some 5), .mov (.const (.int .i64 0)), none, []⟩])
 (.seq (.region false [⟨(some 9), .load (some 2) (.tmp 2), none, []⟩, ⟨(some 10), .call (.fn 59) [(.tmp 9)], none, []⟩, ⟨(some 8), .mov (.tmp 10), none, []⟩, ⟨(some 11), .ext (.tmp 8) 0, none, []⟩, ⟨(some 12), .ext (.tmp 8) 1, none, []⟩, ⟨(some 6), .mov (.tmp 11), none, []⟩, ⟨(some 7), .mov (.tmp 12), none, []⟩])
 (.seq (.seq (.region false [⟨(some 13), .mov (.tmp 7), none, []⟩, ⟨(some 14), .bin .neq .num (.tmp 13) (.const (.int .i64 0)), none, []⟩])
 (.cond (.tmp 14) (.seq (.region false [⟨(some 15), .build [(.int .i64 0), .nilSl] [], none, []⟩, ⟨(some 16), .mov (.tmp 7), none, []⟩, ⟨none, .store 2 (.tmp 4) (.tmp 15), none, []⟩, ⟨(some 5), .mov (.tmp 16), none, []⟩])
 .ret)
 .skip))
 (.seq (.region true [⟨(some 17), .fieldA 0 (.tmp 2), none, []⟩, ⟨(some 18), .load none (.tmp 17), none, []⟩, ⟨(some 19), .mov (.tmp 1), none, []⟩, ⟨(some 20), .mov (.tmp 6), none, []⟩, ⟨(some 21), .call (.tmp 19) [(.tmp 20)], none, [1]⟩, ⟨(some 22), .build [(.int .i64 0), .nilSl] [(0, 1, (.tmp 18)), (1, 1, (.tmp 21))], none, []⟩, ⟨none, .store 2 (.tmp 4) (.tmp 22), none, []⟩, ⟨(some 5), .mov (.const (.int .i64 0)), none, []⟩])
 .ret))))⟩
theorem cf54 : cFn Tryz.prog Tryz.f54 = some af54 := by kernel_rfl
theorem gd54 : Go.AE.Good Tryz.prog (54, af54) := ⟨⟨_, Tryz.func54, cf54⟩, by kernel_rfl, by kernel_rfl, by kernel_rfl⟩
def af55 : AFn := ⟨47, [(2, none)], (.seq (.region false [oZ 2 (.mov (.const .nilSl))])
 (.seq (.region false [oZ 6 (.mov (tZ 0)), oZ 7 (.nilChk (tZ 6)), oZ 8 (.fieldA 0 (tZ 7)), oZ 9 (.fieldA 1 (tZ 8)), oZ 10 (.load none (tZ 9)), oZ 11 (.call (.fn 31) [(tZ 10)]), oZ 3 (.mov (tZ 11))])
 (.seq (.region false [oZ 4 (.mov (kZ 0))])
 (.seq (.seq (.region false [oZ 12 (.mov (tZ 3)), oZ 13 (.lenSl (tZ 12)), oZ 14 (.bin .sub .num (tZ 13) (kZ 1)), oZ 5 (.mov (tZ 14))])
 (.block 0 (.loop (.seq (.seq (.region false [oZ 15 (.mov (tZ 5)), oZ 16 (.bin .geq .num (tZ 15) (kZ 0))])
 (.cond (tZ 16) .skip
 (.exit 0)))
 (.seq (.block 1 (.seq (.region false [oZ 19 (.mov (tZ 3)), oZ 20 (.mov (tZ 5)), oZ 21 (.idxA 6 (tZ 19) (tZ 20)), oZ 22 (.fieldA 0 (tZ 21)), oZ 23 (.load none (tZ 22)), oZ 24 (.bin .eql .num (tZ 23) (kZ 2))])
 (.cond (tZ 24) (.region false [oZ 25 (.mov (tZ 3)), oZ 26 (.mov (tZ 5)), oZ 27 (.mov (tZ 3)), oZ 28 (.mov (tZ 5)), oZ 29 (.idxA 6 (tZ 27) (tZ 28)), oZ 30 (.fieldA 5 (tZ 29)), oZ 31 (.load none (tZ 30)), oZ 32 (.un .not (tZ 31)), oZ 33 (.idxA 6 (tZ 25) (tZ 26)), oZ 34 (.fieldA 5 (tZ 33)), pZ (.store 1 (tZ 34) (tZ 32))])
 (.seq (.region false [oZ 35 (.mov (tZ 0)), oZ 36 (.nilChk (tZ 35)), oZ 37 (.fieldA 2 (tZ 36)), oZ 38 (.load none (tZ 37)), oZ 39 (.mov (tZ 5)), oZ 40 (.idxA 1 (tZ 38) (tZ 39)), oZ 41 (.load none (tZ 40)), oZ 42 (.un .not (tZ 41))])
 (.cond (tZ 42) (.region false [oZ 43 (.mov (tZ 5)), oZ 4 (.mov (tZ 43))])
 .skip)))))
 (.region false [oZ 17 (.mov (tZ 5)), oZ 18 (.bin .sub .num (tZ 17) (kZ 1)), oZ 5 (.mov (tZ 18))]))))))
 (.seq (.region false [oZ 44 (.mov (tZ 3)), oZ 45 (.mov (tZ 4)), oZ 46 (.call (.fn 56) [(tZ 44), (tZ 45)]), oZ 2 (.mov (tZ 46))])
 .ret)))))⟩
theorem cf55 : cFn Tryz.prog Tryz.f55 = some af55 := by kernel_rfl
theorem gd55 : Go.AE.Good Tryz.prog (55, af55) := ⟨⟨_, Tryz.func55, cf55⟩, by kernel_rfl, by kernel_rfl, by kernel_rfl⟩
def af56 : AFn := ⟨13, [(4, none)], (.seq (.region false [oZ 4 (.mov (.const .nilSl))])
 (.seq (.region true [oZ 5 (.mov (tZ 0)), oZ 6 (.mov (tZ 1)), oZ 7 (.slSl 6 (tZ 5) (some (tZ 6)) none none), oZ 8 (.append 6 48 [(.int .i64 0), (.int .i64 0), (.int .i64 0), (.int .i64 0), (.int .i64 0), (.bool false)] (.const .nilSl) (tZ 7)), oZ 9 (.mov (tZ 0)), oZ 10 (.mov (tZ 1)), ⟨(some 11), .slSl 6 (tZ 9) none (some (tZ 10)) none, none, [3]⟩, oZ 12 (.append 6 48 [(.int .i64 0), (.int .i64 0), (.int .i64 0), (.int .i64 0), (.int .i64 0), (.bool false)] (tZ 8) (tZ 11)), oZ 4 (.mov (tZ 12))])
 .ret))⟩
theorem cf56 : cFn Tryz.prog Tryz.f56 = some af56 := by kernel_rfl
theorem gd56 : Go.AE.Good Tryz.prog (56, af56) := ⟨⟨_, Tryz.func56, cf56⟩, by kernel_rfl, by kernel_rfl, by kernel_rfl⟩
def af57 : AFn := ⟨105, [(2, none)], (.seq (.region false [oZ 1 (.box (tZ 0)), oZ 2 (.mov (.const .nilPtr))])
 (.seq (.region false [oZ 15 (.fieldA 1 (tZ 1)), oZ 16 (.load none (tZ 15)), oZ 17 (.lenSl (tZ 16)), oZ 3 (.mov (tZ 17))])
 (.seq (.region true [oZ 18 (.fieldA 1 (tZ 1)), oZ 19 (.load none (tZ 18)), oZ 20 (.mov (tZ 3)), ⟨(some 21), .makeSl 1 8 [(.int .i64 0)] (tZ 20) (tZ 20), none, [1]⟩, oZ 22 (.build [.nilSl, .nilSl, .nilSl] [(0, 1, (tZ 19)), (1, 1, (tZ 21))]), oZ 23 (.box (tZ 22)), oZ 4 (.mov (tZ 23))])
 (.seq (.region false [oZ 24 (.mkMap), oZ 5 (.mov (tZ 24))])
 (.seq (.region false [oZ 6 (.mov (.const .nilSl))])
 (.seq (.region false [oZ 7 (.mov (bZ true))])
 (.seq (.seq (.region false [oZ 25 (.fieldA 1 (tZ 1)), oZ 26 (.load none (tZ 25)), oZ 27 (.lenSl (tZ 26)), oZ 28 (.mov (kZ 0))])
 (.block 0 (.loop (.seq (.region false [oZ 29 (.bin .lss .num (tZ 28) (tZ 27))])
 (.seq (.cond (tZ 29) .skip
 (.exit 0))
 (.seq (.block 1 (.seq (.region false [oZ 30 (.mov (tZ 28)), oZ 31 (.idxA 6 (tZ 26) (tZ 28)), oZ 32 (.load (some 6) (tZ 31)), oZ 9 (.alloc [(.int .i64 0), (.int .i64 0), (.int .i64 0), (.int .i64 0), (.int .i64 0), (.bool false)]), oZ 8 (.mov (tZ 30)), pZ (.store 6 (tZ 9) (tZ 32))])
 (.seq (.seq (.region false [oZ 33 (.fieldA 0 (tZ 9)), oZ 34 (.load none (tZ 33)), oZ 35 (.bin .eql .num (tZ 34) (kZ 2))])
 (.cond (tZ 35) (.seq (.seq (.region false [oZ 37 (.mov (tZ 5)), oZ 38 (.fieldA 3 (tZ 9)), oZ 39 (.load none (tZ 38)), oZ 40 (.lookup .int (.int .i64 0) true (tZ 37) (tZ 39)), oZ 36 (.mov (tZ 40)), oZ 41 (.ext (tZ 36) 0), oZ 42 (.ext (tZ 36) 1), oZ 10 (.mov (tZ 41)), oZ 11 (.mov (tZ 42))])
 (.seq (.region false [oZ 43 (.mov (tZ 11))])
 (.cond (tZ 43) (.region true [oZ 44 (.mov (tZ 4)), oZ 45 (.nilChk (tZ 44)), oZ 46 (.fieldA 1 (tZ 45)), oZ 47 (.load none (tZ 46)), oZ 48 (.mov (tZ 8)), oZ 49 (.mov (tZ 4)), oZ 50 (.nilChk (tZ 49)), oZ 51 (.fieldA 1 (tZ 50)), oZ 52 (.load none (tZ 51)), oZ 53 (.mov (tZ 10)), oZ 54 (.mov (tZ 10)), oZ 55 (.mov (tZ 8)), oZ 56 (.idxA 1 (tZ 47) (tZ 48)), pZ (.store 1 (tZ 56) (tZ 54)), oZ 57 (.idxA 1 (tZ 52) (tZ 53)), pZ (.store 1 (tZ 57) (tZ 55))])
 .skip)))
 (.seq (.region false [oZ 58 (.mov (tZ 5)), oZ 59 (.fieldA 3 (tZ 9)), oZ 60 (.load none (tZ 59)), oZ 61 (.mov (tZ 8)), pZ (.mapUpd .int (tZ 58) (tZ 60) (tZ 61))])
 (.exit 1)))
 .skip))
 (.seq (.region false [oZ 62 (.mov (tZ 8)), oZ 63 (.mov (tZ 8)), oZ 64 (.bin .mul .num (kZ 2) (tZ 63)), oZ 65 (.build [(.int .i64 0), (.int .i64 0)] [(0, 1, (tZ 62)), (1, 1, (tZ 64))]), oZ 12 (.alloc [(.int .i64 0), (.int .i64 0)]), pZ (.store 2 (tZ 12) (tZ 65))])
 (.seq (.seq (.region false [oZ 66 (.mov (tZ 7))])
 (.cond (tZ 66) (.region false [oZ 67 (.mov (tZ 8)), oZ 68 (.bin .sub .num (tZ 67) (kZ 1)), oZ 69 (.mov (tZ 3)), oZ 70 (.bin .add .num (tZ 68) (tZ 69)), oZ 71 (.mov (tZ 3)), oZ 72 (.bin .rem .num (tZ 70) (tZ 71)), oZ 73 (.bin .mul .num (kZ 2) (tZ 72)), oZ 74 (.bin .add .num (tZ 73) (kZ 1)), oZ 75 (.fieldA 1 (tZ 12)), pZ (.store 1 (tZ 75) (tZ 74))])
 .skip))
 (.seq (.region false [oZ 76 (.mov (tZ 7)), oZ 77 (.un .not (tZ 76)), oZ 7 (.mov (tZ 77))])
 (.region false [oZ 78 (.mov (tZ 6)), oZ 79 (.load (some 2) (tZ 12)), oZ 80 (.mkSl 2 1 [(.int .i64 0), (.int .i64 0)] [(0, (tZ 79))]), oZ 81 (.append 2 16 [(.int .i64 0), (.int .i64 0)] (tZ 78) (tZ 80)), oZ 6 (.mov (tZ 81))])))))))
 (.region false [oZ 82 (.bin .add .num (tZ 28) (kZ 1)), oZ 28 (.mov (tZ 82))])))))))
 (.seq (.region false [oZ 83 (.mov (tZ 6)), oZ 84 (.mkFunc (.func 95) [] [(tZ 1)]), oZ 85 (.call (.fn 94) [(tZ 83), (tZ 84)])])
 (.seq (.seq (.region false [oZ 86 (.mov (tZ 6)), oZ 87 (.lenSl (tZ 86)), oZ 88 (.mov (kZ 0))])
 (.block 2 (.loop (.seq (.region false [oZ 89 (.bin .lss .num (tZ 88) (tZ 87))])
 (.seq (.cond (tZ 89) .skip
 (.exit 2))
 (.seq (.block 3 (.seq (.region false [oZ 90 (.idxA 2 (tZ 86) (tZ 88)), oZ 91 (.load (some 2) (tZ 90)), oZ 14 (.alloc [(.int .i64 0), (.int .i64 0)]), pZ (.store 2 (tZ 14) (tZ 91))])
 (.region true [oZ 92 (.mov (tZ 4)), oZ 93 (.mov (tZ 4)), oZ 94 (.nilChk (tZ 93)), oZ 95 (.fieldA 2 (tZ 94)), oZ 96 (.load none (tZ 95)), oZ 97 (.fieldA 1 (tZ 14)), oZ 98 (.load none (tZ 97)), ⟨(some 99), .mkSl 1 1 [(.int .i64 0)] [(0, (tZ 98))], none, [4]⟩, oZ 100 (.append 1 8 [(.int .i64 0)] (tZ 96) (tZ 99)), oZ 101 (.nilChk (tZ 92)), oZ 102 (.fieldA 2 (tZ 101)), pZ (.store 1 (tZ 102) (tZ 100))])))
 (.region false [oZ 103 (.bin .add .num (tZ 88) (kZ 1)), oZ 88 (.mov (tZ 103))])))))))
 (.seq (.region false [oZ 104 (.mov (tZ 4)), oZ 2 (.mov (tZ 104))])
 .ret))))))))))⟩
theorem cf57 : cFn Tryz.prog Tryz.f57 = some af57 := by kernel_rfl
theorem gd57 : Go.AE.Good Tryz.prog (57, af57) := ⟨⟨_, Tryz.func57, cf57⟩, by kernel_rfl, by kernel_rfl, by kernel_rfl⟩
def af58 : AFn := ⟨4, [(2, none)], (.seq (.region false [oZ 1 (.box (tZ 0)), oZ 2 (.mov (.const .nilFunc))])
 (.seq (.region false [oZ 3 (.mkFunc (.func 96) [] [(tZ 1)]), oZ 2 (.mov (tZ 3))])
 .ret))⟩
theorem cf58 : cFn Tryz.prog Tryz.f58 = some af58 := by kernel_rfl
theorem gd58 : Go.AE.Good Tryz.prog (58, af58) := ⟨⟨_, Tryz.func58, cf58⟩, by kernel_rfl, by kernel_rfl, by kernel_rfl⟩
def af59 : AFn := ⟨29, [(2, none), (3, none)], (.seq (.region false [⟨(some 1), .box (.tmp 0), none, []⟩, ⟨(some 2), .mov (.const .nilPtr), none, []⟩, ⟨(some 3), .mov (.const (.int .i64 0)), none, []⟩])
 (.seq (.seq (.region false [⟨(some 5), .fieldA 1 (.tmp 1), none, []⟩, ⟨(some 6), .load none (.tmp 5), none, []⟩, ⟨(some 7), .lenSl (.tmp 6), none, []⟩, ⟨(some 8), .bin .gtr .num (.tmp 7) (.const (.int .i64 400)), none, []⟩, ⟨(some 9), .mov (.tmp 8), none, []⟩, ⟨(some 10), .load (some 2) (.tmp 1), (some (9, false)), []⟩, ⟨(some 11), .call (.fn 103) [(.tmp 10)], (some (9, false)), []⟩, ⟨(some 12), .bin .gtr .num (.tmp 11) (.const (.int .i64 200)), (some (9, false)), []⟩, ⟨(some 13), .pick (.tmp 9) (.const (.bool true)) (.tmp 12), none, []⟩])
 (.cond (.tmp 13) (.seq (.region false [⟨(some 2), .mov (.const .nilPtr), none, []⟩, ⟨(some 3), .mov (.const (.int .i64 7)), none, []⟩])
 .ret)
 .skip))
 (.seq (.seq (.region false [⟨(some 14), .fieldA 0 (.tmp 1), none, []⟩, ⟨(some 15), .load none (.tmp 14), none, []⟩, ⟨(some 16), .bin .lss .num (.tmp 15) (.const (.int .i64 0)), none, []⟩, ⟨(some 17), .mov (.tmp 16), none, []⟩, ⟨(some 18), .fieldA 0 (.tmp 1), (some (17, false)), []⟩, ⟨(some 19), .load none (.tmp 18), (some (17, false)), []⟩, ⟨(some 20), .bin .gtr .num (.tmp 19) (.const (.int .i64 40)), (some (17, false)), []⟩, ⟨(some 21), .pick (.tmp 17) (.const (.bool true)) (.tmp 20), none, []⟩])
 (.cond (.tmp 21) (.seq (.region false [⟨(some 2), .mov (.const .nilPtr), none, []⟩, ⟨(some 3), .mov (.const (.int .i64 2)), none, []⟩])
 .ret)
 .skip))
 (.seq (.region false [⟨(some 22), .load (some 2) (.tmp 1), none, []⟩, ⟨(some 23), .build [(.int .i64 0), .nilSl, .nilSl, .nilSl, .nilSl, .nilMap, .nilSl] [(0, 2, (.tmp 22))], none, []⟩, ⟨(some 24), .box (.tmp 23), none, []⟩, ⟨(some 4), .mov (.tmp 24), none, []⟩])
 (.seq (.seq (.region false [⟨(some 25), .mov (.tmp 4), none, []⟩, ⟨(some 26), .call (.fn 104) [(.tmp 25)], none, []⟩, ⟨(some 27), .un .not (.tmp 26), none, []⟩])
 (.cond (.tmp 27) (.seq (.region false [⟨(some 2), .mov (.const .nilPtr), none, []⟩, ⟨(some 3), .mov (.const (.int .i64 3)), none, []⟩])
 .ret)
 .skip))
 (.seq (.region false [⟨(some 28), .mov (.tmp 4), none, []⟩, ⟨(some 2), .mov (.tmp 28), none, []⟩, ⟨(some 3), .mov (.const (.int .i64 0)), none, []⟩])
 .ret))))))⟩
theorem cf59 : cFn Tryz.prog Tryz.f59 = some af59 := by kernel_rfl
theorem gd59 : Go.AE.Good Tryz.prog (59, af59) := ⟨⟨_, Tryz.func59, cf59⟩, by kernel_rfl, by kernel_rfl, by kernel_rfl⟩
def af62 : AFn := ⟨44, [(2, none)], (.seq (.region false [oZ 2 (.mov (.const .nilSl))])
 (.seq (.region false [oZ 5 (.mov (tZ 0)), oZ 6 (.nilChk (tZ 5)), oZ 7 (.fieldA 0 (tZ 6)), oZ 8 (.fieldA 1 (tZ 7)), oZ 9 (.load none (tZ 8)), oZ 10 (.call (.fn 31) [(tZ 9)]), oZ 3 (.mov (tZ 10))])
 (.seq (.seq (.region false [oZ 11 (.mov (tZ 3)), oZ 12 (.lenSl (tZ 11)), oZ 13 (.mov (kZ 0))])
 (.block 0 (.loop (.seq (.region false [oZ 14 (.bin .lss .num (tZ 13) (tZ 12))])
 (.seq (.cond (tZ 14) .skip
 (.exit 0))
 (.seq (.block 1 (.seq (.region false [oZ 15 (.mov (tZ 13)), oZ 4 (.mov (tZ 15))])
 (.seq (.region false [oZ 16 (.mov (tZ 3)), oZ 17 (.mov (tZ 4)), oZ 18 (.idxA 6 (tZ 16) (tZ 17)), oZ 19 (.fieldA 0 (tZ 18)), oZ 20 (.load none (tZ 19)), oZ 21 (.bin .eql .num (tZ 20) (kZ 2))])
 (.cond (tZ 21) (.region true [oZ 22 (.mov (tZ 3)), oZ 23 (.mov (tZ 4)), oZ 24 (.mov (tZ 3)), oZ 25 (.mov (tZ 4)), oZ 26 (.mov (tZ 3)), oZ 27 (.mov (tZ 4)), oZ 28 (.idxA 6 (tZ 26) (tZ 27)), oZ 29 (.fieldA 5 (tZ 28)), oZ 30 (.load none (tZ 29)), oZ 31 (.un .not (tZ 30)), oZ 32 (.mov (tZ 3)), oZ 33 (.mov (tZ 4)), oZ 34 (.idxA 6 (tZ 32) (tZ 33)), oZ 35 (.fieldA 4 (tZ 34)), oZ 36 (.load none (tZ 35)), oZ 37 (.un .neg (tZ 36)), oZ 38 (.idxA 6 (tZ 22) (tZ 23)), oZ 39 (.fieldA 5 (tZ 38)), pZ (.store 1 (tZ 39) (tZ 31)), oZ 40 (.idxA 6 (tZ 24) (tZ 25)), oZ 41 (.fieldA 4 (tZ 40)), pZ (.store 1 (tZ 41) (tZ 37))])
 .skip))))
 (.region false [oZ 42 (.bin .add .num (tZ 13) (kZ 1)), oZ 13 (.mov (tZ 42))])))))))
 (.seq (.region false [oZ 43 (.mov (tZ 3)), oZ 2 (.mov (tZ 43))])
 .ret))))⟩
theorem cf62 : cFn Tryz.prog Tryz.f62 = some af62 := by kernel_rfl
theorem gd62 : Go.AE.Good Tryz.prog (62, af62) := ⟨⟨_, Tryz.func62, cf62⟩, by kernel_rfl, by kernel_rfl, by kernel_rfl⟩
def af63 : AFn := ⟨59, [(2, none)], (.seq (.region false [oZ 2 (.mov (.const .nilSl))])
 (.seq (.region false [oZ 6 (.mov (tZ 0)), oZ 7 (.nilChk (tZ 6)), oZ 8 (.fieldA 0 (tZ 7)), oZ 9 (.fieldA 1 (tZ 8)), oZ 10 (.load none (tZ 9)), oZ 11 (.call (.fn 31) [(tZ 10)]), oZ 3 (.mov (tZ 11))])
 (.seq (.seq (.region false [oZ 12 (.mov (tZ 3)), oZ 13 (.lenSl (tZ 12)), oZ 14 (.mov (kZ 0))])
 (.block 0 (.loop (.seq (.region false [oZ 15 (.bin .lss .num (tZ 14) (tZ 13))])
 (.seq (.cond (tZ 15) .skip
 (.exit 0))
 (.seq (.block 1 (.seq (.region false [oZ 16 (.mov (tZ 14)), oZ 17 (.idxA 6 (tZ 12) (tZ 14)), oZ 18 (.load (some 6) (tZ 17)), oZ 5 (.alloc [(.int .i64 0), (.int .i64 0), (.int .i64 0), (.int .i64 0), (.int .i64 0), (.bool false)]), oZ 4 (.mov (tZ 16)), pZ (.store 6 (tZ 5) (tZ 18))])
 (.seq (.region false [oZ 19 (.fieldA 0 (tZ 5)), oZ 20 (.load none (tZ 19)), oZ 21 (.bin .eql .num (tZ 20) (kZ 1))])
 (.cond (tZ 21) (.region true [oZ 22 (.mov (tZ 3)), oZ 23 (.mov (tZ 4)), oZ 24 (.mov (tZ 3)), oZ 25 (.mov (tZ 4)), oZ 26 (.mov (tZ 0)), oZ 27 (.nilChk (tZ 26)), oZ 28 (.fieldA 0 (tZ 27)), oZ 29 (.fieldA 0 (tZ 28)), oZ 30 (.load none (tZ 29)), oZ 31 (.fieldA 1 (tZ 5)), oZ 32 (.load none (tZ 31)), oZ 33 (.bin .sub .num (tZ 30) (tZ 32)), oZ 34 (.mov (tZ 0)), oZ 35 (.nilChk (tZ 34)), oZ 36 (.fieldA 6 (tZ 35)), oZ 37 (.load none (tZ 36)), oZ 38 (.fieldA 1 (tZ 5)), oZ 39 (.load none (tZ 38)), oZ 40 (.idxA 1 (tZ 37) (tZ 39)), oZ 41 (.load none (tZ 40)), oZ 42 (.bin .add .num (tZ 41) (kZ 1)), oZ 43 (.fieldA 2 (tZ 5)), oZ 44 (.load none (tZ 43)), oZ 45 (.bin .sub .num (tZ 42) (tZ 44)), oZ 46 (.idxA 6 (tZ 22) (tZ 23)), oZ 47 (.fieldA 1 (tZ 46)), ⟨none, .store 1 (tZ 47) (tZ 33), none, [22]⟩, oZ 48 (.idxA 6 (tZ 24) (tZ 25)), oZ 49 (.fieldA 2 (tZ 48)), pZ (.store 1 (tZ 49) (tZ 45))])
 (.region false [oZ 50 (.mov (tZ 3)), oZ 51 (.mov (tZ 4)), oZ 52 (.fieldA 4 (tZ 5)), oZ 53 (.load none (tZ 52)), oZ 54 (.un .neg (tZ 53)), oZ 55 (.idxA 6 (tZ 50) (tZ 51)), oZ 56 (.fieldA 4 (tZ 55)), pZ (.store 1 (tZ 56) (tZ 54))])))))
 (.region false [oZ 57 (.bin .add .num (tZ 14) (kZ 1)), oZ 14 (.mov (tZ 57))])))))))
 (.seq (.region false [oZ 58 (.mov (tZ 3)), oZ 2 (.mov (tZ 58))])
 .ret))))⟩
theorem cf63 : cFn Tryz.prog Tryz.f63 = some af63 := by kernel_rfl
theorem gd63 : Go.AE.Good Tryz.prog (63, af63) := ⟨⟨_, Tryz.func63, cf63⟩, by kernel_rfl, by kernel_rfl, by kernel_rfl⟩
def af64 : AFn := ⟨17, [(2, (some (some 2))), (3, none)], (.seq (.region false [oZ 1 (.box (tZ 0)), oZ 2 (.alloc [(.int .i64 0), .nilSl]), oZ 3 (.mov (kZ 0))])
 (.seq (.region false [oZ 7 (.load (some 2) (tZ 1)), oZ 8 (.call (.fn 59) [(tZ 7)]), oZ 6 (.mov (tZ 8)), oZ 9 (.ext (tZ 6) 0), oZ 10 (.ext (tZ 6) 1), oZ 4 (.mov (tZ 9)), oZ 5 (.mov (tZ 10))])
 (.seq (.seq (.region false [oZ 11 (.mov (tZ 5)), oZ 12 (.bin .neq .num (tZ 11) (kZ 0))])
 (.cond (tZ 12) (.seq (.region false [oZ 13 (.build [(.int .i64 0), .nilSl] []), oZ 14 (.mov (tZ 5)), pZ (.store 2 (tZ 2) (tZ 13)), oZ 3 (.mov (tZ 14))])
 .ret)
 .skip))
 (.seq (.region false [oZ 15 (.mov (tZ 4)), oZ 16 (.call (.fn 109) [(tZ 15)]), pZ (.store 2 (tZ 2) (tZ 16)), oZ 3 (.mov (kZ 0))])
 .ret))))⟩
theorem cf64 : cFn Tryz.prog Tryz.f64 = some af64 := by kernel_rfl
theorem gd64 : Go.AE.Good Tryz.prog (64, af64) := ⟨⟨_, Tryz.func64, cf64⟩, by kernel_rfl, by kernel_rfl, by kernel_rfl⟩
def af65 : AFn := ⟨26, [(4, none)], (.seq (.region false [oZ 4 (.mov (bZ false))])
 (.seq (.seq (.region false [oZ 6 (.mov (tZ 0)), oZ 7 (.lenSl (tZ 6)), oZ 8 (.mov (tZ 1)), oZ 9 (.lenSl (tZ 8)), oZ 10 (.bin .neq .num (tZ 7) (tZ 9))])
 (.cond (tZ 10) (.seq (.region false [oZ 4 (.mov (bZ false))])
 .ret)
 .skip))
 (.seq (.seq (.region false [oZ 11 (.mov (tZ 0)), oZ 12 (.lenSl (tZ 11)), oZ 13 (.mov (kZ 0))])
 (.block 0 (.loop (.seq (.region false [oZ 14 (.bin .lss .num (tZ 13) (tZ 12))])
 (.seq (.cond (tZ 14) .skip
 (.exit 0))
 (.seq (.block 1 (.seq (.region false [oZ 15 (.mov (tZ 13)), oZ 5 (.mov (tZ 15))])
 (.seq (.region true [oZ 16 (.mov (tZ 0)), oZ 17 (.mov (tZ 5)), oZ 18 (.idxA 6 (tZ 16) (tZ 17)), oZ 19 (.load (some 6) (tZ 18)), oZ 20 (.mov (tZ 1)), oZ 21 (.mov (tZ 5)), oZ 22 (.idxA 6 (tZ 20) (tZ 21)), oZ 23 (.load (some 6) (tZ 22)), oZ 24 (.bin .neq (.flat [.int, .int, .int, .int, .int, .bool]) (tZ 19) (tZ 23))])
 (.cond (tZ 24) (.seq (.region false [oZ 4 (.mov (bZ false))])
 .ret)
 .skip))))
 (.region false [oZ 25 (.bin .add .num (tZ 13) (kZ 1)), oZ 13 (.mov (tZ 25))])))))))
 (.seq (.region false [oZ 4 (.mov (bZ true))])
 .ret))))⟩
theorem cf65 : cFn Tryz.prog Tryz.f65 = some af65 := by kernel_rfl
theorem gd65 : Go.AE.Good Tryz.prog (65, af65) := ⟨⟨_, Tryz.func65, cf65⟩, by kernel_rfl, by kernel_rfl, by kernel_rfl⟩
def af68 : AFn := ⟨24, [(4, none)], (.seq (.region false [⟨(some 2), .box (.tmp 0), none, []⟩, ⟨(some 4), .mov (.const (.bool false)), none, []⟩])
 (.seq (.region false [⟨(some 5), .mov (.const (.int .i64 0)), none, []⟩])
 (.seq (.seq (.region false [⟨(some 6), .mov (.const (.int .i64 0)), none, []⟩])
 (.block 0 (.loop (.seq (.seq (.region false [⟨(some 7), .mov (.tmp 6), none, []⟩, ⟨(some 8), .mov (.tmp 1), none, []⟩, ⟨(some 9), .bin .lss .num (.tmp 7) (.tmp 8), none, []⟩])
 (.cond (.tmp 9) .skip
 (.exit 0)))
 (.seq (.block 1 (.seq (.region false [⟨(some 12), .fieldA 1 (.tmp 2), none, []⟩, ⟨(some 13), .load none (.tmp 12), none, []⟩, ⟨(some 14), .mov (.tmp 6), none, []⟩, ⟨(some 15), .idxA 6 (.tmp 13) (.tmp 14), none, []⟩, ⟨(some 16), .fieldA 0 (.tmp 15), none, []⟩, ⟨(some 17), .load none (.tmp 16), none, []⟩, ⟨(some 18), .bin .eql .num (.tmp 17) (.const (.int .i64 1)), none, []⟩])
 (.cond (.tmp 18) (.region false [⟨(some 19), .mov (.tmp 5), none, []⟩, ⟨(some 20), .bin .add .num (.tmp 19) (.const (.int .i64 1)), none, []⟩, ⟨(some 5), .mov (.tmp 20), none, []⟩])
 .skip)))
 (.region false [⟨(some 10), .mov (.tmp 6), none, []⟩, ⟨(some 11), .bin .add .num (.tmp 10) (.const (.int .i64 1)), none, []⟩, ⟨(some 6), .mov (.tmp 11), none, []⟩]))))))
 (.seq (.region false [⟨(some 21), .mov (.tmp 5), none, []⟩, ⟨(some 22), .bin .rem .num (.tmp 21) (.const (.int .i64 2)), none, []⟩, ⟨(some 23), .bin .eql .num (.tmp 22) (.const (.int .i64 0)), none, []⟩, ⟨(some 4), .mov (.tmp 23), none, []⟩])
 .ret))))⟩
theorem cf68 : cFn Tryz.prog Tryz.f68 = some af68 := by kernel_rfl
theorem gd68 : Go.AE.Good Tryz.prog (68, af68) := ⟨⟨_, Tryz.func68, cf68⟩, by kernel_rfl, by kernel_rfl, by kernel_rfl⟩
def af71 : AFn := ⟨5, [(2, none)], (.seq (.region false [oZ 2 (.mov (.const (.str [])))])
 (.seq (.region false [oZ 3 (.mov (tZ 0)), oZ 4 (.call (.fn 110) [(tZ 3), (kZ 10)]), oZ 2 (.mov (tZ 4))])
 .ret))⟩
theorem cf71 : cFn Tryz.prog Tryz.f71 = some af71 := by kernel_rfl
theorem gd71 : Go.AE.Good Tryz.prog (71, af71) := ⟨⟨_, Tryz.func71, cf71⟩, by kernel_rfl, by kernel_rfl, by kernel_rfl⟩
def af72 : AFn := ⟨48, [(4, none)], (.seq (.region false [oZ 4 (.mov (.const .nilSl))])
 (.seq (.seq (.region false [oZ 9 (.mov (tZ 1)), oZ 10 (.bin .lss .num (tZ 9) (kZ 0))])
 (.cond (tZ 10) (.region false [oZ 11 (.dead), pZ (.dead)])
 .skip))
 (.seq (.region false [oZ 13 (.mov (tZ 0)), oZ 14 (.lenSl (tZ 13)), oZ 15 (.convInt .u64 (tZ 14)), oZ 16 (.mov (tZ 1)), oZ 17 (.convInt .u64 (tZ 16)), oZ 18 (.call (.fn 111) [(tZ 15), (tZ 17)]), oZ 12 (.mov (tZ 18)), oZ 19 (.ext (tZ 12) 0), oZ 20 (.ext (tZ 12) 1), oZ 5 (.mov (tZ 19)), oZ 6 (.mov (tZ 20))])
 (.seq (.seq (.region false [oZ 21 (.mov (tZ 5)), oZ 22 (.bin .gtr .num (tZ 21) (.const (.int .u64 0))), oZ 23 (.mov (tZ 22)), gZ 24 23 false (.mov (tZ 6)), gZ 25 23 false (.bin .gtr .num (tZ 24) (.const (.int .u64 9223372036854775807))), oZ 26 (.pick (tZ 23) (bZ true) (tZ 25))])
 (.cond (tZ 26) (.region false [oZ 27 (.dead), pZ (.dead)])
 .skip))
 (.seq (.region false [oZ 28 (.mov (tZ 6)), oZ 29 (.convInt .i64 (tZ 28)), oZ 30 (.makeSl 1 16 [(.str [])] (tZ 29) (tZ 29)), oZ 7 (.mov (tZ 30))])
 (.seq (.region false [oZ 31 (.mov (tZ 7)), oZ 32 (.mov (tZ 0)), oZ 33 (.copy 1 (tZ 31) (tZ 32)), oZ 8 (.mov (tZ 33))])
 (.seq (.block 0 (.loop (.seq (.seq (.region false [oZ 34 (.mov (tZ 8)), oZ 35 (.mov (tZ 7)), oZ 36 (.lenSl (tZ 35)), oZ 37 (.bin .lss .num (tZ 34) (tZ 36))])
 (.cond (tZ 37) .skip
 (.exit 0)))
 (.block 1 (.region true [oZ 38 (.mov (tZ 8)), oZ 39 (.mov (tZ 7)), oZ 40 (.mov (tZ 8)), oZ 41 (.slSl 1 (tZ 39) (some (tZ 40)) none none), oZ 42 (.mov (tZ 7)), oZ 43 (.mov (tZ 8)), oZ 44 (.slSl 1 (tZ 42) none (some (tZ 43)) none), oZ 45 (.copy 1 (tZ 41) (tZ 44)), oZ 46 (.bin .add .num (tZ 38) (tZ 45)), oZ 8 (.mov (tZ 46))])))))
 (.seq (.region false [oZ 47 (.mov (tZ 7)), oZ 4 (.mov (tZ 47))])
 .ret))))))))⟩
theorem cf72 : cFn Tryz.prog Tryz.f72 = some af72 := by kernel_rfl
theorem gd72 : Go.AE.Good Tryz.prog (72, af72) := ⟨⟨_, Tryz.func72, cf72⟩, by kernel_rfl, by kernel_rfl, by kernel_rfl⟩
def af76 : AFn := ⟨20, [], (.region true [oZ 6 (.mov (tZ 0)), oZ 7 (.nilChk (tZ 6)), oZ 8 (.fieldA 1 (tZ 7)), oZ 9 (.load none (tZ 8)), oZ 10 (.mov (tZ 1)), oZ 11 (.mov (tZ 0)), oZ 12 (.nilChk (tZ 11)), oZ 13 (.fieldA 1 (tZ 12)), oZ 14 (.load none (tZ 13)), oZ 15 (.mov (tZ 2)), oZ 16 (.mov (tZ 2)), oZ 17 (.mov (tZ 1)), oZ 18 (.idxA 1 (tZ 9) (tZ 10)), pZ (.store 1 (tZ 18) (tZ 16)), oZ 19 (.idxA 1 (tZ 14) (tZ 15)), pZ (.store 1 (tZ 19) (tZ 17))])⟩
theorem cf76 : cFn Tryz.prog Tryz.f76 = some af76 := by kernel_rfl
theorem gd76 : Go.AE.Good Tryz.prog (76, af76) := ⟨⟨_, Tryz.func76, cf76⟩, by kernel_rfl, by kernel_rfl, by kernel_rfl⟩
def af77 : AFn := ⟨8, [(2, none)], (.seq (.region false [oZ 2 (.mov (.const .nilSl))])
 (.seq (.seq (.region false [oZ 3 (.mov (tZ 0)), oZ 4 (.bin .eql .slice (tZ 3) (.const .nilSl))])
 (.cond (tZ 4) (.seq (.region false [oZ 2 (.mov (.const .nilSl))])
 .ret)
 .skip))
 (.seq (.region false [oZ 5 (.mkSl 1 0 [(.int .i64 0)] []), oZ 6 (.mov (tZ 0)), oZ 7 (.append 1 8 [(.int .i64 0)] (tZ 5) (tZ 6)), oZ 2 (.mov (tZ 7))])
 .ret)))⟩
theorem cf77 : cFn Tryz.prog Tryz.f77 = some af77 := by kernel_rfl
theorem gd77 : Go.AE.Good Tryz.prog (77, af77) := ⟨⟨_, Tryz.func77, cf77⟩, by kernel_rfl, by kernel_rfl, by kernel_rfl⟩
def af78 : AFn := ⟨55, [(2, (some (some 2)))], (.seq (.region false [oZ 1 (.box (tZ 0)), oZ 2 (.alloc [(.int .i64 0), .nilSl])])
 (.seq (.region false [oZ 6 (.load (some 2) (tZ 1)), oZ 7 (.call (.fn 114) [(tZ 6)]), oZ 3 (.alloc [(.int .i64 0), .nilSl]), pZ (.store 2 (tZ 3) (tZ 7))])
 (.seq (.region false [oZ 4 (.mov (.const .nilSl))])
 (.seq (.seq (.region false [oZ 5 (.mov (kZ 0))])
 (.block 0 (.loop (.seq (.seq (.region false [oZ 8 (.mov (tZ 5)), oZ 9 (.fieldA 1 (tZ 3)), oZ 10 (.load none (tZ 9)), oZ 11 (.lenSl (tZ 10)), oZ 12 (.bin .lss .num (tZ 8) (tZ 11))])
 (.cond (tZ 12) .skip
 (.exit 0)))
 (.seq (.block 1 (.seq (.seq (.region false [oZ 15 (.fieldA 1 (tZ 3)), oZ 16 (.load none (tZ 15)), oZ 17 (.mov (tZ 5)), oZ 18 (.idxA 6 (tZ 16) (tZ 17)), oZ 19 (.fieldA 0 (tZ 18)), oZ 20 (.load none (tZ 19)), oZ 21 (.bin .neq .num (tZ 20) (kZ 2))])
 (.cond (tZ 21) (.exit 1)
 .skip))
 (.seq (.seq (.region false [oZ 22 (.mov (tZ 4)), oZ 23 (.fieldA 1 (tZ 3)), oZ 24 (.load none (tZ 23)), oZ 25 (.mov (tZ 5)), oZ 26 (.idxA 6 (tZ 24) (tZ 25)), oZ 27 (.fieldA 3 (tZ 26)), oZ 28 (.load none (tZ 27)), oZ 29 (.call (.fn 70) [(tZ 22), (tZ 28)]), oZ 30 (.bin .lss .num (tZ 29) (kZ 0))])
 (.cond (tZ 30) (.region false [oZ 31 (.mov (tZ 4)), oZ 32 (.fieldA 1 (tZ 3)), oZ 33 (.load none (tZ 32)), oZ 34 (.mov (tZ 5)), oZ 35 (.idxA 6 (tZ 33) (tZ 34)), oZ 36 (.fieldA 3 (tZ 35)), oZ 37 (.load none (tZ 36)), oZ 38 (.mkSl 1 1 [(.int .i64 0)] [(0, (tZ 37))]), oZ 39 (.append 1 8 [(.int .i64 0)] (tZ 31) (tZ 38)), oZ 4 (.mov (tZ 39))])
 .skip))
 (.region true [oZ 40 (.fieldA 1 (tZ 3)), oZ 41 (.load none (tZ 40)), oZ 42 (.mov (tZ 5)), oZ 43 (.mov (tZ 4)), oZ 44 (.fieldA 1 (tZ 1)), oZ 45 (.load none (tZ 44)), oZ 46 (.mov (tZ 5)), oZ 47 (.idxA 6 (tZ 45) (tZ 46)), oZ 48 (.fieldA 3 (tZ 47)), oZ 49 (.load none (tZ 48)), ⟨(some 50), .call (.fn 70) [(tZ 43), (tZ 49)], none, [1]⟩, oZ 51 (.bin .add .num (tZ 50) (kZ 1)), oZ 52 (.idxA 6 (tZ 41) (tZ 42)), oZ 53 (.fieldA 3 (tZ 52)), pZ (.store 1 (tZ 53) (tZ 51))]))))
 (.region false [oZ 13 (.mov (tZ 5)), oZ 14 (.bin .add .num (tZ 13) (kZ 1)), oZ 5 (.mov (tZ 14))]))))))
 (.seq (.region false [oZ 54 (.load (some 2) (tZ 3)), pZ (.store 2 (tZ 2) (tZ 54))])
 .ret)))))⟩
theorem cf78 : cFn Tryz.prog Tryz.f78 = some af78 := by kernel_rfl
theorem gd78 : Go.AE.Good Tryz.prog (78, af78) := ⟨⟨_, Tryz.func78, cf78⟩, by kernel_rfl, by kernel_rfl, by kernel_rfl⟩
def af79 : AFn := ⟨37, [(2, (some (some 2)))], (.seq (.region false [oZ 1 (.box (tZ 0)), oZ 2 (.alloc [(.int .i64 0), .nilSl])])
 (.seq (.region false [oZ 6 (.fieldA 0 (tZ 1)), oZ 7 (.load none (tZ 6)), oZ 8 (.build [(.int .i64 0), .nilSl] [(0, 1, (tZ 7))]), oZ 3 (.alloc [(.int .i64 0), .nilSl]), pZ (.store 2 (tZ 3) (tZ 8))])
 (.seq (.region false [oZ 4 (.mov (.const .nilSl))])
 (.seq (.seq (.region false [oZ 9 (.fieldA 1 (tZ 1)), oZ 10 (.load none (tZ 9)), oZ 11 (.lenSl (tZ 10)), oZ 12 (.bin .sub .num (tZ 11) (kZ 1)), oZ 5 (.mov (tZ 12))])
 (.block 0 (.loop (.seq (.seq (.region false [oZ 13 (.mov (tZ 5)), oZ 14 (.bin .geq .num (tZ 13) (kZ 0))])
 (.cond (tZ 14) .skip
 (.exit 0)))
 (.seq (.block 1 (.seq (.region true [oZ 17 (.fieldA 1 (tZ 3)), oZ 18 (.load none (tZ 17)), oZ 19 (.fieldA 1 (tZ 1)), oZ 20 (.load none (tZ 19)), oZ 21 (.mov (tZ 5)), oZ 22 (.idxA 6 (tZ 20) (tZ 21)), oZ 23 (.load (some 6) (tZ 22)), ⟨(some 24), .mkSl 6 1 [(.int .i64 0), (.int .i64 0), (.int .i64 0), (.int .i64 0), (.int .i64 0), (.bool false)] [(0, (tZ 23))], none, [1]⟩, oZ 25 (.append 6 48 [(.int .i64 0), (.int .i64 0), (.int .i64 0), (.int .i64 0), (.int .i64 0), (.bool false)] (tZ 18) (tZ 24)), oZ 26 (.fieldA 1 (tZ 3)), pZ (.store 1 (tZ 26) (tZ 25))])
 (.region false [oZ 27 (.mov (tZ 4)), oZ 28 (.load (some 2) (tZ 1)), oZ 29 (.mov (tZ 5)), oZ 30 (.call (.fn 68) [(tZ 28), (tZ 29)]), oZ 31 (.un .not (tZ 30)), oZ 32 (.mkSl 1 1 [(.bool false)] [(0, (tZ 31))]), oZ 33 (.append 1 1 [(.bool false)] (tZ 27) (tZ 32)), oZ 4 (.mov (tZ 33))])))
 (.region false [oZ 15 (.mov (tZ 5)), oZ 16 (.bin .sub .num (tZ 15) (kZ 1)), oZ 5 (.mov (tZ 16))]))))))
 (.seq (.region false [oZ 34 (.load (some 2) (tZ 3)), oZ 35 (.mov (tZ 4)), oZ 36 (.call (.fn 115) [(tZ 34), (tZ 35)]), pZ (.store 2 (tZ 2) (tZ 36))])
 .ret)))))⟩
theorem cf79 : cFn Tryz.prog Tryz.f79 = some af79 := by kernel_rfl
theorem gd79 : Go.AE.Good Tryz.prog (79, af79) := ⟨⟨_, Tryz.func79, cf79⟩, by kernel_rfl, by kernel_rfl, by kernel_rfl⟩
def af80 : AFn := ⟨18, [(4, (some (some 2)))], (.seq (.region false [oZ 2 (.box (tZ 0)), oZ 4 (.alloc [(.int .i64 0), .nilSl])])
 (.seq (.region true [oZ 5 (.fieldA 0 (tZ 2)), oZ 6 (.load none (tZ 5)), oZ 7 (.fieldA 1 (tZ 2)), oZ 8 (.load none (tZ 7)), oZ 9 (.mov (tZ 1)), oZ 10 (.slSl 6 (tZ 8) (some (tZ 9)) none none), ⟨(some 11), .append 6 48 [(.int .i64 0), (.int .i64 0), (.int .i64 0), (.int .i64 0), (.int .i64 0), (.bool false)] (.const .nilSl) (tZ 10), none, [1]⟩, oZ 12 (.fieldA 1 (tZ 2)), ⟨(some 13), .load none (tZ 12), none, [6]⟩, oZ 14 (.mov (tZ 1)), ⟨(some 15), .slSl 6 (tZ 13) none (some (tZ 14)) none, none, [6]⟩, ⟨(some 16), .append 6 48 [(.int .i64 0), (.int .i64 0), (.int .i64 0), (.int .i64 0), (.int .i64 0), (.bool false)] (tZ 11) (tZ 15), none, [1]⟩, oZ 17 (.build [(.int .i64 0), .nilSl] [(0, 1, (tZ 6)), (1, 1, (tZ 16))]), pZ (.store 2 (tZ 4) (tZ 17))])
 .ret))⟩
theorem cf80 : cFn Tryz.prog Tryz.f80 = some af80 := by kernel_rfl
theorem gd80 : Go.AE.Good Tryz.prog (80, af80) := ⟨⟨_, Tryz.func80, cf80⟩, by kernel_rfl, by kernel_rfl, by kernel_rfl⟩
def af81 : AFn := ⟨37, [(4, none)], (.seq (.region false [oZ 2 (.box (tZ 0)), oZ 3 (.box (tZ 1)), oZ 4 (.mov (bZ false))])
 (.seq (.seq (.region false [oZ 5 (.mov (kZ 0))])
 (.block 0 (.loop (.seq (.seq (.region false [oZ 6 (.mov (tZ 5)), oZ 7 (.fieldA 1 (tZ 2)), oZ 8 (.load none (tZ 7)), oZ 9 (.lenSl (tZ 8)), oZ 10 (.bin .lss .num (tZ 6) (tZ 9))])
 (.cond (tZ 10) .skip
 (.exit 0)))
 (.seq (.block 1 (.seq (.region true [oZ 13 (.fieldA 1 (tZ 2)), oZ 14 (.load none (tZ 13)), oZ 15 (.mov (tZ 5)), oZ 16 (.idxA 6 (tZ 14) (tZ 15)), oZ 17 (.load (some 6) (tZ 16)), oZ 18 (.fieldA 1 (tZ 3)), oZ 19 (.load none (tZ 18)), oZ 20 (.mov (tZ 5)), oZ 21 (.idxA 6 (tZ 19) (tZ 20)), oZ 22 (.load (some 6) (tZ 21)), oZ 23 (.bin .neq (.flat [.int, .int, .int, .int, .int, .bool]) (tZ 17) (tZ 22))])
 (.cond (tZ 23) (.seq (.region true [oZ 24 (.fieldA 1 (tZ 2)), oZ 25 (.load none (tZ 24)), oZ 26 (.mov (tZ 5)), oZ 27 (.idxA 6 (tZ 25) (tZ 26)), oZ 28 (.load (some 6) (tZ 27)), oZ 29 (.call (.fn 117) [(tZ 28)]), oZ 30 (.fieldA 1 (tZ 3)), ⟨(some 31), .load none (tZ 30), none, [5]⟩, oZ 32 (.mov (tZ 5)), ⟨(some 33), .idxA 6 (tZ 31) (tZ 32), none, [5]⟩, ⟨(some 34), .load (some 6) (tZ 33), none, [5]⟩, oZ 35 (.call (.fn 117) [(tZ 34)]), oZ 36 (.call (.fn 116) [(tZ 29), (tZ 35)]), oZ 4 (.mov (tZ 36))])
 .ret)
 .skip)))
 (.region false [oZ 11 (.mov (tZ 5)), oZ 12 (.bin .add .num (tZ 11) (kZ 1)), oZ 5 (.mov (tZ 12))]))))))
 (.seq (.region false [oZ 4 (.mov (bZ false))])
 .ret)))⟩
theorem cf81 : cFn Tryz.prog Tryz.f81 = some af81 := by kernel_rfl
theorem gd81 : Go.AE.Good Tryz.prog (81, af81) := ⟨⟨_, Tryz.func81, cf81⟩, by kernel_rfl, by kernel_rfl, by kernel_rfl⟩
def af82 : AFn := ⟨49, [(2, none)], (.seq (.region false [oZ 1 (.box (tZ 0)), oZ 2 (.mov (bZ false))])
 (.seq (.seq (.region false [oZ 5 (.fieldA 0 (tZ 1)), oZ 6 (.load none (tZ 5)), oZ 7 (.lenSl (tZ 6)), oZ 8 (.bin .gtr .num (tZ 7) (kZ 40)), oZ 9 (.mov (tZ 8)), gZ 10 9 false (.fieldA 1 (tZ 1)), gZ 11 9 false (.load none (tZ 10)), gZ 12 9 false (.bin .lss .num (tZ 11) (kZ 0)), oZ 13 (.pick (tZ 9) (bZ true) (tZ 12)), oZ 14 (.mov (tZ 13)), gZ 15 14 false (.fieldA 1 (tZ 1)), gZ 16 14 false (.load none (tZ 15)), gZ 17 14 false (.bin .gtr .num (tZ 16) (kZ 40)), oZ 18 (.pick (tZ 14) (bZ true) (tZ 17)), oZ 19 (.mov (tZ 18)), gZ 20 19 false (.fieldA 2 (tZ 1)), gZ 21 19 false (.load none (tZ 20)), gZ 22 19 false (.bin .lss .num (tZ 21) (kZ 1)), oZ 23 (.pick (tZ 19) (bZ true) (tZ 22)), oZ 24 (.mov (tZ 23)), gZ 25 24 false (.fieldA 2 (tZ 1)), gZ 26 24 false (.load none (tZ 25)), gZ 27 24 false (.bin .gtr .num (tZ 26) (kZ 20)), oZ 28 (.pick (tZ 24) (bZ true) (tZ 27))])
 (.cond (tZ 28) (.seq (.region false [oZ 2 (.mov (bZ false))])
 .ret)
 .skip))
 (.seq (.seq (.region false [oZ 29 (.fieldA 0 (tZ 1)), oZ 30 (.load none (tZ 29)), oZ 31 (.lenSl (tZ 30)), oZ 32 (.mov (kZ 0))])
 (.block 0 (.loop (.seq (.region false [oZ 33 (.bin .lss .num (tZ 32) (tZ 31))])
 (.seq (.cond (tZ 33) .skip
 (.exit 0))
 (.seq (.block 1 (.seq (.region false [oZ 34 (.mov (tZ 32)), oZ 35 (.idxA 3 (tZ 30) (tZ 32)), oZ 36 (.load (some 3) (tZ 35)), oZ 4 (.alloc [(.int .i64 0), (.bool false), (.int .i64 0)]), oZ 3 (.mov (tZ 34)), pZ (.store 3 (tZ 4) (tZ 36))])
 (.seq (.region true [oZ 37 (.load (some 3) (tZ 4)), oZ 38 (.call (.fn 118) [(tZ 37)]), oZ 39 (.un .not (tZ 38)), oZ 40 (.mov (tZ 39)), gZ 41 40 false (.fieldA 0 (tZ 1)), gZ 42 40 false (.load none (tZ 41)), gZ 43 40 false (.mov (tZ 3)), gZ 44 40 false (.slSl 3 (tZ 42) none (some (tZ 43)) none), gZ 45 40 false (.load (some 3) (tZ 4)), gZ 46 40 false (.call (.fn 119) [(tZ 44), (tZ 45)]), oZ 47 (.pick (tZ 40) (bZ true) (tZ 46))])
 (.cond (tZ 47) (.seq (.region false [oZ 2 (.mov (bZ false))])
 .ret)
 .skip))))
 (.region false [oZ 48 (.bin .add .num (tZ 32) (kZ 1)), oZ 32 (.mov (tZ 48))])))))))
 (.seq (.region false [oZ 2 (.mov (bZ true))])
 .ret))))⟩
theorem cf82 : cFn Tryz.prog Tryz.f82 = some af82 := by kernel_rfl
theorem gd82 : Go.AE.Good Tryz.prog (82, af82) := ⟨⟨_, Tryz.func82, cf82⟩, by kernel_rfl, by kernel_rfl, by kernel_rfl⟩
def af83 : AFn := ⟨24, [(4, none)], (.seq (.region false [oZ 2 (.box (tZ 0)), oZ 3 (.box (tZ 1)), oZ 4 (.mov (bZ false))])
 (.seq (.region false [oZ 5 (.load (some 3) (tZ 2)), oZ 6 (.call (.fn 82) [(tZ 5)]), oZ 7 (.mov (tZ 6)), gZ 8 7 true (.load (some 2) (tZ 3)), gZ 9 7 true (.call (.fn 30) [(tZ 8)]), gZ 10 7 true (.bin .eql .num (tZ 9) (kZ 0)), oZ 11 (.pick (tZ 7) (tZ 10) (bZ false)), oZ 12 (.mov (tZ 11)), gZ 13 12 true (.fieldA 0 (tZ 3)), gZ 14 12 true (.load none (tZ 13)), gZ 15 12 true (.fieldA 0 (tZ 2)), gZ 16 12 true (.load none (tZ 15)), gZ 17 12 true (.lenSl (tZ 16)), gZ 18 12 true (.bin .eql .num (tZ 14) (tZ 17)), oZ 19 (.pick (tZ 12) (tZ 18) (bZ false)), oZ 20 (.mov (tZ 19)), gZ 21 20 true (.load (some 2) (tZ 3)), gZ 22 20 true (.call (.fn 120) [(tZ 21)]), oZ 23 (.pick (tZ 20) (tZ 22) (bZ false)), oZ 4 (.mov (tZ 23))])
 .ret))⟩
theorem cf83 : cFn Tryz.prog Tryz.f83 = some af83 := by kernel_rfl
theorem gd83 : Go.AE.Good Tryz.prog (83, af83) := ⟨⟨_, Tryz.func83, cf83⟩, by kernel_rfl, by kernel_rfl, by kernel_rfl⟩
def af84 : AFn := ⟨9, [(4, none)], (.seq (.region false [oZ 4 (.mov (bZ false))])
 (.seq (.region false [oZ 5 (.mov (tZ 0)), oZ 6 (.mov (tZ 1)), oZ 7 (.call (.fn 121) [(tZ 5), (tZ 6)]), oZ 8 (.bin .geq .num (tZ 7) (kZ 0)), oZ 4 (.mov (tZ 8))])
 .ret))⟩
theorem cf84 : cFn Tryz.prog Tryz.f84 = some af84 := by kernel_rfl
theorem gd84 : Go.AE.Good Tryz.prog (84, af84) := ⟨⟨_, Tryz.func84, cf84⟩, by kernel_rfl, by kernel_rfl, by kernel_rfl⟩
def af85 : AFn := ⟨11, [(3, none)], (.seq (.region false [oZ 2 (.box (tZ 0)), oZ 3 (.mov (bZ false))])
 (.seq (.region true [oZ 4 (.fieldA 0 (tZ 2)), oZ 5 (.load none (tZ 4)), oZ 6 (.load none (tZ 1)), oZ 7 (.idxA 3 (tZ 6) (kZ 0)), oZ 8 (.fieldA 0 (tZ 7)), oZ 9 (.load none (tZ 8)), oZ 10 (.bin .neq .num (tZ 5) (tZ 9)), oZ 3 (.mov (tZ 10))])
 .ret))⟩
theorem cf85 : cFn Tryz.prog Tryz.f85 = some af85 := by kernel_rfl
theorem gd85 : Go.AE.Good Tryz.prog (85, af85) := ⟨⟨_, Tryz.func85, cf85⟩, by kernel_rfl, by kernel_rfl, by kernel_rfl⟩
def af86 : AFn := ⟨144, [(4, (some (some 2))), (5, none)], (.seq (.region false [oZ 2 (.box (tZ 0)), oZ 3 (.box (tZ 1)), oZ 4 (.alloc [(.int .i64 0), .nilSl]), oZ 5 (.mov (kZ 0))])
 (.seq (.region false [oZ 12 (.load (some 2) (tZ 2)), oZ 13 (.call (.fn 59) [(tZ 12)]), oZ 11 (.mov (tZ 13)), oZ 14 (.ext (tZ 11) 0), oZ 15 (.ext (tZ 11) 1), oZ 6 (.mov (tZ 14)), oZ 7 (.mov (tZ 15))])
 (.seq (.seq (.region false [oZ 16 (.mov (tZ 7)), oZ 17 (.bin .neq .num (tZ 16) (kZ 0))])
 (.cond (tZ 17) (.seq (.region false [oZ 18 (.build [(.int .i64 0), .nilSl] []), oZ 19 (.mov (tZ 7)), pZ (.store 2 (tZ 4) (tZ 18)), oZ 5 (.mov (tZ 19))])
 .ret)
 .skip))
 (.seq (.seq (.region false [oZ 20 (.fieldA 0 (tZ 3)), oZ 21 (.load none (tZ 20)), oZ 22 (.bin .lss .num (tZ 21) (kZ 0)), oZ 23 (.mov (tZ 22)), gZ 24 23 false (.fieldA 0 (tZ 3)), gZ 25 23 false (.load none (tZ 24)), gZ 26 23 false (.fieldA 0 (tZ 2)), gZ 27 23 false (.load none (tZ 26)), gZ 28 23 false (.bin .gtr .num (tZ 25) (tZ 27)), oZ 29 (.pick (tZ 23) (bZ true) (tZ 28)), oZ 30 (.mov (tZ 29)), gZ 31 30 false (.fieldA 1 (tZ 3)), gZ 32 30 false (.load none (tZ 31)), gZ 33 30 false (.bin .lss .num (tZ 32) (kZ 0)), oZ 34 (.pick (tZ 30) (bZ true) (tZ 33)), oZ 35 (.mov (tZ 34)), gZ 36 35 false (.fieldA 0 (tZ 2)), gZ 37 35 false (.load none (tZ 36)), gZ 38 35 false (.bin .geq .num (tZ 37) (kZ 40)), oZ 39 (.pick (tZ 35) (bZ true) (tZ 38))])
 (.cond (tZ 39) (.seq (.region false [oZ 40 (.build [(.int .i64 0), .nilSl] []), pZ (.store 2 (tZ 4) (tZ 40)), oZ 5 (.mov (kZ 2))])
 .ret)
 .skip))
 (.seq (.seq (.region true [oZ 41 (.mov (tZ 6)), oZ 42 (.nilChk (tZ 41)), oZ 43 (.fieldA 0 (tZ 42)), oZ 44 (.fieldA 1 (tZ 43)), oZ 45 (.load none (tZ 44)), oZ 46 (.lenSl (tZ 45)), oZ 47 (.bin .eql .num (tZ 46) (kZ 0)), oZ 48 (.mov (tZ 47)), gZ 49 48 true (.fieldA 1 (tZ 3)), gZ 50 48 true (.load none (tZ 49)), gZ 51 48 true (.bin .gtr .num (tZ 50) (kZ 0)), oZ 52 (.pick (tZ 48) (tZ 51) (bZ false)), oZ 53 (.mov (tZ 52)), gZ 54 53 false (.mov (tZ 6)), gZ 55 53 false (.nilChk (tZ 54)), gZ 56 53 false (.fieldA 0 (tZ 55)), gZ 57 53 false (.fieldA 1 (tZ 56)), gZ 58 53 false (.load none (tZ 57)), gZ 59 53 false (.lenSl (tZ 58)), gZ 60 53 false (.bin .gtr .num (tZ 59) (kZ 0)), gZ 61 53 false (.mov (tZ 60)), gZ 62 61 true (.fieldA 1 (tZ 3)), gZ 63 61 true (.load none (tZ 62)), gZ 64 61 true (.mov (tZ 6)), gZ 65 61 true (.nilChk (tZ 64)), gZ 66 61 true (.fieldA 6 (tZ 65)), gZ 67 61 true (.load none (tZ 66)), gZ 68 61 true (.fieldA 0 (tZ 3)), gZ 69 61 true (.load none (tZ 68)), gZ 70 61 true (.idxA 1 (tZ 67) (tZ 69)), gZ 71 61 true (.load none (tZ 70)), gZ 72 61 true (.bin .gtr .num (tZ 63) (tZ 71)), gZ 73 53 false (.pick (tZ 61) (tZ 72) (bZ false)), oZ 74 (.pick (tZ 53) (bZ true) (tZ 73))])
 (.cond (tZ 74) (.seq (.region false [oZ 75 (.build [(.int .i64 0), .nilSl] []), pZ (.store 2 (tZ 4) (tZ 75)), oZ 5 (.mov (kZ 2))])
 .ret)
 .skip))
 (.seq (.region false [oZ 76 (.mov (tZ 6)), oZ 77 (.nilChk (tZ 76)), oZ 78 (.fieldA 0 (tZ 77)), oZ 79 (.fieldA 1 (tZ 78)), oZ 80 (.load none (tZ 79)), oZ 81 (.call (.fn 31) [(tZ 80)]), oZ 8 (.mov (tZ 81))])
 (.seq (.seq (.region false [oZ 82 (.mov (tZ 8)), oZ 83 (.lenSl (tZ 82)), oZ 84 (.mov (kZ 0))])
 (.block 0 (.loop (.seq (.region false [oZ 85 (.bin .lss .num (tZ 84) (tZ 83))])
 (.seq (.cond (tZ 85) .skip
 (.exit 0))
 (.seq (.block 1 (.seq (.region false [oZ 86 (.mov (tZ 84)), oZ 87 (.idxA 6 (tZ 82) (tZ 84)), oZ 88 (.load (some 6) (tZ 87)), oZ 10 (.alloc [(.int .i64 0), (.int .i64 0), (.int .i64 0), (.int .i64 0), (.int .i64 0), (.bool false)]), oZ 9 (.mov (tZ 86)), pZ (.store 6 (tZ 10) (tZ 88))])
 (.block 2 (.seq (.region false [oZ 90 (.fieldA 0 (tZ 10)), oZ 91 (.load none (tZ 90)), oZ 92 (.bin .neq .num (tZ 91) (kZ 1)), oZ 93 (.mov (tZ 92)), gZ 94 93 false (.fieldA 1 (tZ 10)), gZ 95 93 false (.load none (tZ 94)), gZ 96 93 false (.fieldA 0 (tZ 3)), gZ 97 93 false (.load none (tZ 96)), gZ 98 93 false (.bin .lss .num (tZ 95) (tZ 97)), oZ 99 (.pick (tZ 93) (bZ true) (tZ 98)), oZ 89 (.mov (tZ 99))])
 (.cond (tZ 89) .skip
 (.seq (.region false [oZ 101 (.fieldA 1 (tZ 10)), oZ 102 (.load none (tZ 101)), oZ 103 (.fieldA 0 (tZ 3)), oZ 104 (.load none (tZ 103)), oZ 105 (.bin .gtr .num (tZ 102) (tZ 104)), oZ 100 (.mov (tZ 105))])
 (.cond (tZ 100) (.region false [oZ 106 (.mov (tZ 8)), oZ 107 (.mov (tZ 9)), oZ 108 (.idxA 6 (tZ 106) (tZ 107)), oZ 109 (.fieldA 1 (tZ 108)), oZ 110 (.load none (tZ 109)), oZ 111 (.bin .add .num (tZ 110) (kZ 1)), oZ 112 (.idxA 6 (tZ 106) (tZ 107)), oZ 113 (.fieldA 1 (tZ 112)), pZ (.store 1 (tZ 113) (tZ 111))])
 (.seq (.region false [oZ 115 (.fieldA 2 (tZ 10)), oZ 116 (.load none (tZ 115)), oZ 117 (.fieldA 1 (tZ 3)), oZ 118 (.load none (tZ 117)), oZ 119 (.bin .gtr .num (tZ 116) (tZ 118)), oZ 114 (.mov (tZ 119))])
 (.cond (tZ 114) (.seq (.region false [oZ 120 (.mov (tZ 8)), oZ 121 (.mov (tZ 9)), oZ 122 (.idxA 6 (tZ 120) (tZ 121)), oZ 123 (.fieldA 1 (tZ 122)), oZ 124 (.load none (tZ 123)), oZ 125 (.bin .add .num (tZ 124) (kZ 1)), oZ 126 (.idxA 6 (tZ 120) (tZ 121)), oZ 127 (.fieldA 1 (tZ 126)), pZ (.store 1 (tZ 127) (tZ 125))])
 (.region true [oZ 128 (.mov (tZ 8)), oZ 129 (.mov (tZ 9)), oZ 130 (.idxA 6 (tZ 128) (tZ 129)), oZ 131 (.fieldA 2 (tZ 130)), oZ 132 (.load none (tZ 131)), oZ 133 (.fieldA 1 (tZ 3)), oZ 134 (.load none (tZ 133)), oZ 135 (.bin .sub .num (tZ 132) (tZ 134)), oZ 136 (.idxA 6 (tZ 128) (tZ 129)), oZ 137 (.fieldA 2 (tZ 136)), pZ (.store 1 (tZ 137) (tZ 135))]))
 .skip)))))))))
 (.region false [oZ 138 (.bin .add .num (tZ 84) (kZ 1)), oZ 84 (.mov (tZ 138))])))))))
 (.seq (.region false [oZ 139 (.fieldA 0 (tZ 2)), oZ 140 (.load none (tZ 139)), oZ 141 (.bin .add .num (tZ 140) (kZ 1)), oZ 142 (.mov (tZ 8)), oZ 143 (.build [(.int .i64 0), .nilSl] [(0, 1, (tZ 141)), (1, 1, (tZ 142))]), pZ (.store 2 (tZ 4) (tZ 143)), oZ 5 (.mov (kZ 0))])
 .ret))))))))⟩
theorem cf86 : cFn Tryz.prog Tryz.f86 = some af86 := by kernel_rfl
theorem gd86 : Go.AE.Good Tryz.prog (86, af86) := ⟨⟨_, Tryz.func86, cf86⟩, by kernel_rfl, by kernel_rfl, by kernel_rfl⟩
def af87 : AFn := ⟨95, [(6, none)], (.seq (.region false [oZ 6 (.mov (.const .nilSl))])
 (.seq (.region false [oZ 10 (.mov (tZ 0)), oZ 11 (.mov (tZ 1)), oZ 12 (.slSl 3 (tZ 10) (some (tZ 11)) none none)])
 (.seq (.region false [oZ 13 (.mov (tZ 2)), oZ 14 (.lenSl (tZ 13)), oZ 7 (.mov (tZ 14))])
 (.seq (.seq (.region false [oZ 15 (.mov (tZ 7)), oZ 16 (.bin .eql .num (tZ 15) (kZ 0))])
 (.cond (tZ 16) (.seq (.region false [oZ 17 (.mov (tZ 0)), oZ 6 (.mov (tZ 17))])
 .ret)
 .skip))
 (.seq (.region false [oZ 18 (.mov (tZ 0)), oZ 19 (.lenSl (tZ 18)), oZ 8 (.mov (tZ 19))])
 (.seq (.seq (.region false [oZ 20 (.mov (tZ 1)), oZ 21 (.mov (tZ 8)), oZ 22 (.bin .eql .num (tZ 20) (tZ 21))])
 (.cond (tZ 22) (.seq (.region false [oZ 23 (.mov (tZ 0)), oZ 24 (.mov (tZ 2)), oZ 25 (.append 3 24 [(.int .i64 0), (.bool false), (.int .i64 0)] (tZ 23) (tZ 24)), oZ 6 (.mov (tZ 25))])
 .ret)
 .skip))
 (.seq (.seq (.region false [oZ 26 (.mov (tZ 8)), oZ 27 (.mov (tZ 7)), oZ 28 (.bin .add .num (tZ 26) (tZ 27)), oZ 29 (.mov (tZ 0)), oZ 30 (.capSl (tZ 29)), oZ 31 (.bin .gtr .num (tZ 28) (tZ 30))])
 (.cond (tZ 31) (.seq (.region false [oZ 32 (.mov (tZ 0)), oZ 33 (.mov (tZ 1)), oZ 34 (.slSl 3 (tZ 32) none (some (tZ 33)) none), oZ 35 (.mov (tZ 8)), oZ 36 (.mov (tZ 7)), oZ 37 (.bin .add .num (tZ 35) (tZ 36)), oZ 38 (.mov (tZ 1)), oZ 39 (.bin .sub .num (tZ 37) (tZ 38)), oZ 40 (.appendZ 3 24 [(.int .i64 0), (.bool false), (.int .i64 0)] (tZ 34) (tZ 39)), oZ 9 (.mov (tZ 40))])
 (.seq (.region false [oZ 41 (.mov (tZ 9)), oZ 42 (.mov (tZ 1)), oZ 43 (.slSl 3 (tZ 41) (some (tZ 42)) none none), oZ 44 (.mov (tZ 2)), oZ 45 (.copy 3 (tZ 43) (tZ 44))])
 (.seq (.region true [oZ 46 (.mov (tZ 9)), oZ 47 (.mov (tZ 1)), oZ 48 (.mov (tZ 7)), oZ 49 (.bin .add .num (tZ 47) (tZ 48)), oZ 50 (.slSl 3 (tZ 46) (some (tZ 49)) none none), oZ 51 (.mov (tZ 0)), oZ 52 (.mov (tZ 1)), oZ 53 (.slSl 3 (tZ 51) (some (tZ 52)) none none), oZ 54 (.copy 3 (tZ 50) (tZ 53))])
 (.seq (.region false [oZ 55 (.mov (tZ 9)), oZ 6 (.mov (tZ 55))])
 .ret))))
 .skip))
 (.seq (.region false [oZ 56 (.mov (tZ 0)), oZ 57 (.mov (tZ 8)), oZ 58 (.mov (tZ 7)), oZ 59 (.bin .add .num (tZ 57) (tZ 58)), oZ 60 (.slSl 3 (tZ 56) none (some (tZ 59)) none), oZ 0 (.mov (tZ 60))])
 (.seq (.seq (.region false [oZ 61 (.mov (tZ 2)), oZ 62 (.mov (tZ 0)), oZ 63 (.mov (tZ 1)), oZ 64 (.mov (tZ 7)), oZ 65 (.bin .add .num (tZ 63) (tZ 64)), oZ 66 (.slSl 3 (tZ 62) (some (tZ 65)) none none), oZ 67 (.call (.fn 122) [(tZ 61), (tZ 66)]), oZ 68 (.un .not (tZ 67))])
 (.cond (tZ 68) (.seq (.region true [oZ 69 (.mov (tZ 0)), oZ 70 (.mov (tZ 1)), oZ 71 (.mov (tZ 7)), oZ 72 (.bin .add .num (tZ 70) (tZ 71)), oZ 73 (.slSl 3 (tZ 69) (some (tZ 72)) none none), oZ 74 (.mov (tZ 0)), oZ 75 (.mov (tZ 1)), oZ 76 (.slSl 3 (tZ 74) (some (tZ 75)) none none), oZ 77 (.copy 3 (tZ 73) (tZ 76))])
 (.seq (.region false [oZ 78 (.mov (tZ 0)), oZ 79 (.mov (tZ 1)), oZ 80 (.slSl 3 (tZ 78) (some (tZ 79)) none none), oZ 81 (.mov (tZ 2)), oZ 82 (.copy 3 (tZ 80) (tZ 81))])
 (.seq (.region false [oZ 83 (.mov (tZ 0)), oZ 6 (.mov (tZ 83))])
 .ret)))
 .skip))
 (.seq (.region false [oZ 84 (.mov (tZ 0)), oZ 85 (.mov (tZ 8)), oZ 86 (.slSl 3 (tZ 84) (some (tZ 85)) none none), oZ 87 (.mov (tZ 2)), oZ 88 (.copy 3 (tZ 86) (tZ 87))])
 (.seq (.region false [oZ 89 (.mov (tZ 0)), oZ 90 (.mov (tZ 1)), oZ 91 (.slSl 3 (tZ 89) (some (tZ 90)) none none), oZ 92 (.mov (tZ 7)), oZ 93 (.call (.fn 123) [(tZ 91), (tZ 92)])])
 (.seq (.region false [oZ 94 (.mov (tZ 0)), oZ 6 (.mov (tZ 94))])
 .ret))))))))))))⟩
theorem cf87 : cFn Tryz.prog Tryz.f87 = some af87 := by kernel_rfl
theorem gd87 : Go.AE.Good Tryz.prog (87, af87) := ⟨⟨_, Tryz.func87, cf87⟩, by kernel_rfl, by kernel_rfl, by kernel_rfl⟩
def af88 : AFn := ⟨8, [(2, none)], (.seq (.region false [oZ 2 (.mov (.const .nilSl))])
 (.seq (.seq (.region false [oZ 3 (.mov (tZ 0)), oZ 4 (.bin .eql .slice (tZ 3) (.const .nilSl))])
 (.cond (tZ 4) (.seq (.region false [oZ 2 (.mov (.const .nilSl))])
 .ret)
 .skip))
 (.seq (.region false [oZ 5 (.mkSl 3 0 [(.int .i64 0), (.bool false), (.int .i64 0)] []), oZ 6 (.mov (tZ 0)), oZ 7 (.append 3 24 [(.int .i64 0), (.bool false), (.int .i64 0)] (tZ 5) (tZ 6)), oZ 2 (.mov (tZ 7))])
 .ret)))⟩
theorem cf88 : cFn Tryz.prog Tryz.f88 = some af88 := by kernel_rfl
theorem gd88 : Go.AE.Good Tryz.prog (88, af88) := ⟨⟨_, Tryz.func88, cf88⟩, by kernel_rfl, by kernel_rfl, by kernel_rfl⟩
def af89 : AFn := ⟨8, [(3, none)], (.seq (.region false [oZ 2 (.box (tZ 0)), oZ 3 (.mov (bZ false))])
 (.seq (.region false [oZ 4 (.fieldA 0 (tZ 2)), oZ 5 (.load none (tZ 4)), oZ 6 (.load none (tZ 1)), oZ 7 (.bin .eql .num (tZ 5) (tZ 6)), oZ 3 (.mov (tZ 7))])
 .ret))⟩
theorem cf89 : cFn Tryz.prog Tryz.f89 = some af89 := by kernel_rfl
theorem gd89 : Go.AE.Good Tryz.prog (89, af89) := ⟨⟨_, Tryz.func89, cf89⟩, by kernel_rfl, by kernel_rfl, by kernel_rfl⟩
def af90 : AFn := ⟨45, [(4, none)], (.seq (.region false [oZ 4 (.mov (kZ 0))])
 (.seq (.region true [oZ 11 (.mov (tZ 0)), oZ 12 (.nilChk (tZ 11)), oZ 13 (.fieldA 0 (tZ 12)), oZ 14 (.load (some 3) (tZ 13)), oZ 15 (.mov (tZ 0)), oZ 16 (.nilChk (tZ 15)), oZ 17 (.fieldA 3 (tZ 16)), oZ 18 (.load (some 2) (tZ 17)), oZ 19 (.call (.fn 124) [(tZ 14), (tZ 18)]), oZ 10 (.mov (tZ 19)), oZ 20 (.ext (tZ 10) 0), oZ 21 (.ext (tZ 10) 1), oZ 5 (.mov (tZ 20)), oZ 6 (.mov (tZ 21))])
 (.seq (.region false [oZ 7 (.mov (kZ 0))])
 (.seq (.seq (.region false [oZ 22 (.mov (tZ 0)), oZ 23 (.nilChk (tZ 22)), oZ 24 (.fieldA 0 (tZ 23)), oZ 25 (.fieldA 0 (tZ 24)), oZ 26 (.load none (tZ 25)), oZ 27 (.lenSl (tZ 26)), oZ 28 (.mov (kZ 0))])
 (.block 0 (.loop (.seq (.region false [oZ 29 (.bin .lss .num (tZ 28) (tZ 27))])
 (.seq (.cond (tZ 29) .skip
 (.exit 0))
 (.seq (.block 1 (.seq (.region false [oZ 30 (.mov (tZ 28)), oZ 31 (.idxA 3 (tZ 26) (tZ 28)), oZ 32 (.load (some 3) (tZ 31)), oZ 9 (.alloc [(.int .i64 0), (.bool false), (.int .i64 0)]), oZ 8 (.mov (tZ 30)), pZ (.store 3 (tZ 9) (tZ 32))])
 (.seq (.region false [oZ 33 (.fieldA 0 (tZ 9)), oZ 34 (.load none (tZ 33)), oZ 35 (.mov (tZ 1)), oZ 36 (.bin .eql .num (tZ 34) (tZ 35))])
 (.cond (tZ 36) (.region false [oZ 37 (.mov (tZ 7)), oZ 38 (.mov (tZ 5)), oZ 39 (.mov (tZ 8)), oZ 40 (.idxA 1 (tZ 38) (tZ 39)), oZ 41 (.load none (tZ 40)), oZ 42 (.bin .add .num (tZ 37) (tZ 41)), oZ 7 (.mov (tZ 42))])
 .skip))))
 (.region false [oZ 43 (.bin .add .num (tZ 28) (kZ 1)), oZ 28 (.mov (tZ 43))])))))))
 (.seq (.region false [oZ 44 (.mov (tZ 7)), oZ 4 (.mov (tZ 44))])
 .ret)))))⟩
theorem cf90 : cFn Tryz.prog Tryz.f90 = some af90 := by kernel_rfl
theorem gd90 : Go.AE.Good Tryz.prog (90, af90) := ⟨⟨_, Tryz.func90, cf90⟩, by kernel_rfl, by kernel_rfl, by kernel_rfl⟩
def af93 : AFn := ⟨27, [(2, none)], (.seq (.region false [oZ 2 (.mov (.const (.str [])))])
 (.seq (.seq (.region false [oZ 3 (.mov (tZ 0)), oZ 4 (.bin .lss .num (tZ 3) (kZ 0))])
 (.cond (tZ 4) (.seq (.seq (.region false [oZ 5 (.mov (tZ 0)), oZ 6 (.mov (tZ 0)), oZ 7 (.un .neg (tZ 6)), oZ 8 (.bin .eql .num (tZ 5) (tZ 7))])
 (.cond (tZ 8) (.seq (.region false [oZ 2 (.mov (.const (.str [45, 57, 50, 50, 51, 51, 55, 50, 48, 51, 54, 56, 53, 52, 55, 55, 53, 56, 48, 56])))])
 .ret)
 .skip))
 (.seq (.region false [oZ 9 (.mov (tZ 0)), oZ 10 (.un .neg (tZ 9)), oZ 11 (.call (.fn 93) [(tZ 10)]), oZ 12 (.bin .add .num (.const (.str [45])) (tZ 11)), oZ 2 (.mov (tZ 12))])
 .ret))
 .skip))
 (.seq (.seq (.region false [oZ 13 (.mov (tZ 0)), oZ 14 (.bin .lss .num (tZ 13) (kZ 10))])
 (.cond (tZ 14) (.seq (.region false [oZ 15 (.mov (tZ 0)), oZ 16 (.bin .add .num (kZ 48) (tZ 15)), oZ 17 (.convInt .u8 (tZ 16)), oZ 18 (.mkSl 1 1 [(.int .u8 0)] [(0, (tZ 17))]), oZ 19 (.toStr (tZ 18)), oZ 2 (.mov (tZ 19))])
 .ret)
 .skip))
 (.seq (.region false [oZ 20 (.mov (tZ 0)), oZ 21 (.bin .quo .num (tZ 20) (kZ 10)), oZ 22 (.call (.fn 93) [(tZ 21)]), oZ 23 (.mov (tZ 0)), oZ 24 (.bin .rem .num (tZ 23) (kZ 10)), oZ 25 (.call (.fn 93) [(tZ 24)]), oZ 26 (.bin .add .num (tZ 22) (tZ 25)), oZ 2 (.mov (tZ 26))])
 .ret))))⟩
theorem cf93 : cFn Tryz.prog Tryz.f93 = some af93 := by kernel_rfl
theorem gd93 : Go.AE.Good Tryz.prog (93, af93) := ⟨⟨_, Tryz.func93, cf93⟩, by kernel_rfl, by kernel_rfl, by kernel_rfl⟩
def af94 : AFn := ⟨14, [], (.seq (.region false [oZ 5 (.mov (tZ 0)), oZ 6 (.lenSl (tZ 5)), oZ 4 (.mov (tZ 6))])
 (.region false [oZ 7 (.mov (tZ 0)), oZ 8 (.mov (tZ 4)), oZ 9 (.mov (tZ 4)), oZ 10 (.convInt .u64 (tZ 9)), oZ 11 (.call (.fn 126) [(tZ 10)]), oZ 12 (.mov (tZ 1)), oZ 13 (.call (.fn 125) [(tZ 7), (kZ 0), (tZ 8), (tZ 11), (tZ 12)])]))⟩
theorem cf94 : cFn Tryz.prog Tryz.f94 = some af94 := by kernel_rfl
theorem gd94 : Go.AE.Good Tryz.prog (94, af94) := ⟨⟨_, Tryz.func94, cf94⟩, by kernel_rfl, by kernel_rfl, by kernel_rfl⟩
def af95 : AFn := ⟨35, [(5, none)], (.seq (.region false [oZ 3 (.box (tZ 0)), oZ 4 (.box (tZ 1)), oZ 5 (.mov (kZ 0))])
 (.seq (.region true [oZ 8 (.fieldA 1 (tZ 2)), oZ 9 (.load none (tZ 8)), oZ 10 (.fieldA 0 (tZ 3)), oZ 11 (.load none (tZ 10)), oZ 12 (.idxA 6 (tZ 9) (tZ 11)), oZ 13 (.load (some 6) (tZ 12)), oZ 14 (.fieldA 1 (tZ 2)), oZ 15 (.load none (tZ 14)), oZ 16 (.fieldA 0 (tZ 4)), oZ 17 (.load none (tZ 16)), oZ 18 (.idxA 6 (tZ 15) (tZ 17)), oZ 19 (.load (some 6) (tZ 18)), ⟨(some 6), .alloc [(.int .i64 0), (.int .i64 0), (.int .i64 0), (.int .i64 0), (.int .i64 0), (.bool false)], none, [1, 3, 4, 5, 7, 9, 10, 11]⟩, ⟨(some 7), .alloc [(.int .i64 0), (.int .i64 0), (.int .i64 0), (.int .i64 0), (.int .i64 0), (.bool false)], none, [1, 3, 4, 5, 7, 9, 10, 11, 12]⟩, ⟨none, .store 6 (tZ 6) (tZ 13), none, [7, 9, 10, 11]⟩, pZ (.store 6 (tZ 7) (tZ 19))])
 (.seq (.seq (.region false [oZ 20 (.fieldA 1 (tZ 6)), oZ 21 (.load none (tZ 20)), oZ 22 (.fieldA 1 (tZ 7)), oZ 23 (.load none (tZ 22)), oZ 24 (.bin .neq .num (tZ 21) (tZ 23))])
 (.cond (tZ 24) (.seq (.region false [oZ 25 (.fieldA 1 (tZ 6)), oZ 26 (.load none (tZ 25)), oZ 27 (.fieldA 1 (tZ 7)), oZ 28 (.load none (tZ 27)), oZ 29 (.bin .sub .num (tZ 26) (tZ 28)), oZ 5 (.mov (tZ 29))])
 .ret)
 .skip))
 (.seq (.region false [oZ 30 (.fieldA 2 (tZ 6)), oZ 31 (.load none (tZ 30)), oZ 32 (.fieldA 2 (tZ 7)), oZ 33 (.load none (tZ 32)), oZ 34 (.bin .sub .num (tZ 31) (tZ 33)), oZ 5 (.mov (tZ 34))])
 .ret))))⟩
theorem cf95 : cFn Tryz.prog Tryz.f95 = some af95 := by kernel_rfl
theorem gd95 : Go.AE.Good Tryz.prog (95, af95) := ⟨⟨_, Tryz.func95, cf95⟩, by kernel_rfl, by kernel_rfl, by kernel_rfl⟩
def af96 : AFn := ⟨163, [], (.scope (.seq (.region false [oZ 14 (.mkMap), oZ 3 (.mov (tZ 14))])
 (.seq .skip
 (.block 0 (.loop (.seq (.seq (.region false [oZ 15 (.load none (tZ 1)), oZ 16 (.nilChk (tZ 15)), oZ 17 (.fieldA 2 (tZ 16)), oZ 18 (.load none (tZ 17)), oZ 19 (.lenSl (tZ 18)), oZ 20 (.bin .gtr .num (tZ 19) (kZ 0))])
 (.cond (tZ 20) .skip
 (.exit 0)))
 (.block 1 (.seq (.seq (.region false [oZ 4 (.mov (kZ 0))])
 (.block 2 (.loop (.seq (.seq (.region false [oZ 21 (.mov (tZ 4)), oZ 22 (.bin .add .num (tZ 21) (kZ 1)), oZ 23 (.load none (tZ 1)), oZ 24 (.nilChk (tZ 23)), oZ 25 (.fieldA 2 (tZ 24)), oZ 26 (.load none (tZ 25)), oZ 27 (.lenSl (tZ 26)), oZ 28 (.bin .lss .num (tZ 22) (tZ 27))])
 (.cond (tZ 28) .skip
 (.exit 2)))
 (.seq (.block 3 (.seq (.seq (.region true [oZ 31 (.load none (tZ 1)), oZ 32 (.nilChk (tZ 31)), oZ 33 (.fieldA 2 (tZ 32)), oZ 34 (.load none (tZ 33)), oZ 35 (.mov (tZ 4)), oZ 36 (.idxA 1 (tZ 34) (tZ 35)), oZ 37 (.load none (tZ 36)), oZ 38 (.load none (tZ 1)), oZ 39 (.nilChk (tZ 38)), oZ 40 (.fieldA 2 (tZ 39)), oZ 41 (.load none (tZ 40)), oZ 42 (.mov (tZ 4)), oZ 43 (.bin .add .num (tZ 42) (kZ 1)), oZ 44 (.idxA 1 (tZ 41) (tZ 43)), oZ 45 (.load none (tZ 44)), ⟨(some 46), .call (.fn 97) [(tZ 45)], none, [0, 3, 5, 6]⟩, oZ 47 (.bin .neq .num (tZ 37) (tZ 46))])
 (.cond (tZ 47) (.exit 3)
 .skip))
 (.seq (.region true [oZ 48 (.load none (tZ 1)), oZ 49 (.load none (tZ 1)), oZ 50 (.nilChk (tZ 49)), oZ 51 (.fieldA 2 (tZ 50)), oZ 52 (.load none (tZ 51)), oZ 53 (.mov (tZ 4)), oZ 54 (.mov (tZ 4)), oZ 55 (.bin .add .num (tZ 54) (kZ 2)), ⟨(some 56), .call (.fn 98) [(tZ 52), (tZ 53), (tZ 55)], none, [0]⟩, oZ 57 (.nilChk (tZ 48)), oZ 58 (.fieldA 2 (tZ 57)), pZ (.store 1 (tZ 58) (tZ 56))])
 (.seq (.seq (.region false [oZ 59 (.mov (tZ 0)), oZ 60 (.mov (tZ 4)), oZ 61 (.build [(.int .i64 0), (.int .i64 0), (.int .i64 0), (.bool false)] [(0, 1, (kZ 1)), (1, 1, (tZ 60))]), oZ 62 (.call (tZ 59) [(tZ 61)]), oZ 63 (.un .not (tZ 62))])
 (.cond (tZ 63) .ret
 .skip))
 (.exit 1)))))
 (.region false [oZ 29 (.mov (tZ 4)), oZ 30 (.bin .add .num (tZ 29) (kZ 1)), oZ 4 (.mov (tZ 30))]))))))
 (.seq (.region false [oZ 5 (.mov (kZ (-1))), oZ 6 (.mov (kZ 0))])
 (.seq (.seq (.region false [oZ 64 (.load none (tZ 1)), oZ 65 (.nilChk (tZ 64)), oZ 66 (.fieldA 2 (tZ 65)), oZ 67 (.load none (tZ 66)), oZ 68 (.lenSl (tZ 67)), oZ 69 (.mov (kZ 0))])
 (.block 4 (.loop (.seq (.region false [oZ 70 (.bin .lss .num (tZ 69) (tZ 68))])
 (.seq (.cond (tZ 70) .skip
 (.exit 4))
 (.seq (.block 5 (.seq (.region false [oZ 71 (.mov (tZ 69)), oZ 72 (.idxA 1 (tZ 67) (tZ 69)), oZ 73 (.load none (tZ 72)), oZ 7 (.mov (tZ 71)), oZ 8 (.mov (tZ 73))])
 (.seq (.seq (.region true [oZ 74 (.load none (tZ 1)), oZ 75 (.nilChk (tZ 74)), oZ 76 (.fieldA 0 (tZ 75)), oZ 77 (.load none (tZ 76)), oZ 78 (.load none (tZ 1)), oZ 79 (.mov (tZ 8)), ⟨(some 80), .call (.fn 99) [(tZ 78), (tZ 79)], none, [0, 3]⟩, oZ 81 (.idxA 6 (tZ 77) (tZ 80)), oZ 82 (.load (some 6) (tZ 81)), ⟨(some 9), .alloc [(.int .i64 0), (.int .i64 0), (.int .i64 0), (.int .i64 0), (.int .i64 0), (.bool false)], none, [0, 3, 4, 6, 7, 8]⟩, pZ (.store 6 (tZ 9) (tZ 82))])
 (.seq (.region false [oZ 83 (.fieldA 0 (tZ 9)), oZ 84 (.load none (tZ 83)), oZ 85 (.bin .neq .num (tZ 84) (kZ 2)), oZ 86 (.mov (tZ 85)), gZ 87 86 false (.mov (tZ 3)), gZ 88 86 false (.fieldA 3 (tZ 9)), gZ 89 86 false (.load none (tZ 88)), gZ 90 86 false (.lookup .int (.bool false) false (tZ 87) (tZ 89)), oZ 91 (.pick (tZ 86) (bZ true) (tZ 90))])
 (.cond (tZ 91) (.exit 5)
 .skip)))
 (.seq (.region false [oZ 92 (.load none (tZ 1)), oZ 93 (.mov (tZ 7)), oZ 94 (.call (.fn 100) [(tZ 92), (tZ 93)]), oZ 10 (.mov (tZ 94))])
 (.seq (.region false [oZ 95 (.mov (tZ 10)), oZ 96 (.mov (tZ 6)), oZ 97 (.bin .gtr .num (tZ 95) (tZ 96))])
 (.cond (tZ 97) (.region false [oZ 98 (.mov (tZ 7)), oZ 99 (.mov (tZ 10)), oZ 5 (.mov (tZ 98)), oZ 6 (.mov (tZ 99))])
 .skip))))))
 (.region false [oZ 100 (.bin .add .num (tZ 69) (kZ 1)), oZ 69 (.mov (tZ 100))])))))))
 (.seq (.seq (.region false [oZ 101 (.mov (tZ 5)), oZ 102 (.bin .lss .num (tZ 101) (kZ 0))])
 (.cond (tZ 102) .ret
 .skip))
 (.seq (.region true [oZ 103 (.load none (tZ 1)), oZ 104 (.nilChk (tZ 103)), oZ 105 (.fieldA 0 (tZ 104)), oZ 106 (.load none (tZ 105)), oZ 107 (.load none (tZ 1)), oZ 108 (.load none (tZ 1)), oZ 109 (.nilChk (tZ 108)), oZ 110 (.fieldA 2 (tZ 109)), oZ 111 (.load none (tZ 110)), oZ 112 (.mov (tZ 5)), oZ 113 (.idxA 1 (tZ 111) (tZ 112)), oZ 114 (.load none (tZ 113)), ⟨(some 115), .call (.fn 99) [(tZ 107), (tZ 114)], none, [0, 3]⟩, oZ 116 (.idxA 6 (tZ 106) (tZ 115)), oZ 117 (.load (some 6) (tZ 116)), ⟨(some 11), .alloc [(.int .i64 0), (.int .i64 0), (.int .i64 0), (.int .i64 0), (.int .i64 0), (.bool false)], none, [0, 3, 4, 5, 8, 10, 11, 12, 13, 14]⟩, pZ (.store 6 (tZ 11) (tZ 117))])
 (.seq (.region false [oZ 118 (.mov (tZ 3)), oZ 119 (.fieldA 3 (tZ 11)), oZ 120 (.load none (tZ 119)), pZ (.mapUpd .int (tZ 118) (tZ 120) (bZ true))])
 (.seq (.region false [oZ 12 (.mov (.const .nilSl))])
 (.seq (.region false [oZ 121 (.load none (tZ 1)), oZ 122 (.nilChk (tZ 121)), oZ 123 (.fieldA 2 (tZ 122)), oZ 124 (.load none (tZ 123)), oZ 125 (.mov (tZ 5)), oZ 126 (.idxA 1 (tZ 124) (tZ 125)), oZ 127 (.load none (tZ 126)), oZ 13 (.mov (tZ 127))])
 (.seq (.seq (.region false [oZ 128 (.mov (tZ 6)), oZ 129 (.bin .sub .num (kZ 4) (tZ 128)), oZ 130 (.mov (kZ 0))])
 (.block 6 (.loop (.seq (.region false [oZ 131 (.bin .lss .num (tZ 130) (tZ 129))])
 (.seq (.cond (tZ 131) .skip
 (.exit 6))
 (.seq (.block 7 (.seq (.region false [oZ 132 (.load none (tZ 1)), oZ 133 (.mov (tZ 13)), oZ 134 (.call (.fn 101) [(tZ 132), (tZ 133)]), oZ 13 (.mov (tZ 134))])
 (.seq (.region false [oZ 135 (.mov (tZ 12)), oZ 136 (.mov (tZ 13)), oZ 137 (.mkSl 1 1 [(.int .i64 0)] [(0, (tZ 136))]), oZ 138 (.append 1 8 [(.int .i64 0)] (tZ 135) (tZ 137)), oZ 12 (.mov (tZ 138))])
 (.region false [oZ 139 (.mov (tZ 13)), oZ 140 (.call (.fn 97) [(tZ 139)]), oZ 13 (.mov (tZ 140))]))))
 (.region false [oZ 141 (.bin .add .num (tZ 130) (kZ 1)), oZ 130 (.mov (tZ 141))])))))))
 (.seq (.region true [oZ 142 (.load none (tZ 1)), oZ 143 (.load none (tZ 1)), oZ 144 (.nilChk (tZ 143)), oZ 145 (.fieldA 2 (tZ 144)), oZ 146 (.load none (tZ 145)), oZ 147 (.mov (tZ 5)), oZ 148 (.mov (tZ 5)), oZ 149 (.mov (tZ 6)), oZ 150 (.bin .add .num (tZ 148) (tZ 149)), oZ 151 (.mov (tZ 12)), ⟨(some 152), .call (.fn 102) [(tZ 146), (tZ 147), (tZ 150), (tZ 151)], none, [0]⟩, oZ 153 (.nilChk (tZ 142)), oZ 154 (.fieldA 2 (tZ 153)), pZ (.store 1 (tZ 154) (tZ 152))])
 (.seq (.region false [oZ 155 (.mov (tZ 0)), oZ 156 (.mov (tZ 5)), oZ 157 (.mov (tZ 6)), oZ 158 (.fieldA 5 (tZ 11)), oZ 159 (.load none (tZ 158)), oZ 160 (.build [(.int .i64 0), (.int .i64 0), (.int .i64 0), (.bool false)] [(0, 1, (kZ 2)), (1, 1, (tZ 156)), (2, 1, (tZ 157)), (3, 1, (tZ 159))]), oZ 161 (.call (tZ 155) [(tZ 160)]), oZ 162 (.un .not (tZ 161))])
 (.cond (tZ 162) .ret
 .skip)))))))))))))))))))⟩
theorem cf96 : cFn Tryz.prog Tryz.f96 = some af96 := by kernel_rfl
theorem gd96 : Go.AE.Good Tryz.prog (96, af96) := ⟨⟨_, Tryz.func96, cf96⟩, by kernel_rfl, by kernel_rfl, by kernel_rfl⟩
def af97 : AFn := ⟨5, [(2, none)], (.seq (.region false [oZ 2 (.mov (kZ 0))])
 (.seq (.region false [oZ 3 (.mov (tZ 0)), oZ 4 (.bin .xor .num (tZ 3) (kZ 1)), oZ 2 (.mov (tZ 4))])
 .ret))⟩
theorem cf97 : cFn Tryz.prog Tryz.f97 = some af97 := by kernel_rfl
theorem gd97 : Go.AE.Good Tryz.prog (97, af97) := ⟨⟨_, Tryz.func97, cf97⟩, by kernel_rfl, by kernel_rfl, by kernel_rfl⟩
def af98 : AFn := ⟨33, [(6, none)], (.seq (.region false [oZ 6 (.mov (.const .nilSl))])
 (.seq (.region false [oZ 8 (.mov (tZ 0)), oZ 9 (.mov (tZ 1)), oZ 10 (.mov (tZ 2)), oZ 11 (.mov (tZ 0)), oZ 12 (.lenSl (tZ 11)), oZ 13 (.slSl 1 (tZ 8) (some (tZ 9)) (some (tZ 10)) (some (tZ 12)))])
 (.seq (.seq (.region false [oZ 14 (.mov (tZ 1)), oZ 15 (.mov (tZ 2)), oZ 16 (.bin .eql .num (tZ 14) (tZ 15))])
 (.cond (tZ 16) (.seq (.region false [oZ 17 (.mov (tZ 0)), oZ 6 (.mov (tZ 17))])
 .ret)
 .skip))
 (.seq (.region false [oZ 18 (.mov (tZ 0)), oZ 19 (.lenSl (tZ 18)), oZ 7 (.mov (tZ 19))])
 (.seq (.region true [oZ 20 (.mov (tZ 0)), oZ 21 (.mov (tZ 1)), oZ 22 (.slSl 1 (tZ 20) none (some (tZ 21)) none), oZ 23 (.mov (tZ 0)), oZ 24 (.mov (tZ 2)), oZ 25 (.slSl 1 (tZ 23) (some (tZ 24)) none none), oZ 26 (.append 1 8 [(.int .i64 0)] (tZ 22) (tZ 25)), oZ 0 (.mov (tZ 26))])
 (.seq (.region false [oZ 27 (.mov (tZ 0)), oZ 28 (.mov (tZ 0)), oZ 29 (.lenSl (tZ 28)), oZ 30 (.mov (tZ 7)), oZ 31 (.slSl 1 (tZ 27) (some (tZ 29)) (some (tZ 30)) none), pZ (.clear 1 [(.int .i64 0)] (tZ 31))])
 (.seq (.region false [oZ 32 (.mov (tZ 0)), oZ 6 (.mov (tZ 32))])
 .ret)))))))⟩
theorem cf98 : cFn Tryz.prog Tryz.f98 = some af98 := by kernel_rfl
theorem gd98 : Go.AE.Good Tryz.prog (98, af98) := ⟨⟨_, Tryz.func98, cf98⟩, by kernel_rfl, by kernel_rfl, by kernel_rfl⟩
def af99 : AFn := ⟨19, [(4, none)], (.seq (.region false [oZ 4 (.mov (kZ 0))])
 (.seq (.seq (.region false [oZ 5 (.mov (tZ 1)), oZ 6 (.bin .rem .num (tZ 5) (kZ 2)), oZ 7 (.bin .eql .num (tZ 6) (kZ 0))])
 (.cond (tZ 7) (.seq (.region false [oZ 8 (.mov (tZ 1)), oZ 9 (.bin .quo .num (tZ 8) (kZ 2)), oZ 10 (.bin .add .num (tZ 9) (kZ 1)), oZ 11 (.mov (tZ 0)), oZ 12 (.nilChk (tZ 11)), oZ 13 (.fieldA 0 (tZ 12)), oZ 14 (.load none (tZ 13)), oZ 15 (.lenSl (tZ 14)), oZ 16 (.bin .rem .num (tZ 10) (tZ 15)), oZ 4 (.mov (tZ 16))])
 .ret)
 .skip))
 (.seq (.region false [oZ 17 (.mov (tZ 1)), oZ 18 (.bin .quo .num (tZ 17) (kZ 2)), oZ 4 (.mov (tZ 18))])
 .ret)))⟩
theorem cf99 : cFn Tryz.prog Tryz.f99 = some af99 := by kernel_rfl
theorem gd99 : Go.AE.Good Tryz.prog (99, af99) := ⟨⟨_, Tryz.func99, cf99⟩, by kernel_rfl, by kernel_rfl, by kernel_rfl⟩

end Go.Known
end


