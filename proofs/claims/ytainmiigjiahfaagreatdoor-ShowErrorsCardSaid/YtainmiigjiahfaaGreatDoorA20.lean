/-
  Part 20 of the proof: Lf.
-/
import Derived.Test.YtainmiigjiahfaaGreatDoorA13
import Derived.Test.YtainmiigjiahfaaGreatDoorProg
set_option linter.all false
set_option linter.unusedSimpArgs false
set_option linter.unusedVariables false

/- Lf: The code of the program's functions, resolved (printed by a program). -/
section
namespace Go.Known
open Go Go.AE Go.Proofs

def af3 : AFn := ⟨97, [(2, none)], (.seq (.region false [⟨(some 1), .box (.tmp 0), none, []⟩, ⟨(some 2), .mov (.const (.bool false)), none, []⟩])
 (.seq (.seq (.region false [⟨(some 14), .fieldA 1 (.tmp 1), none, []⟩, ⟨(some 15), .load none (.tmp 14), none, []⟩, ⟨(some 16), .lenSl (.tmp 15), none, []⟩, ⟨(some 17), .bin .gtr .num (.tmp 16) (.const (.int .i64 40)), none, []⟩, ⟨(some 18), .mov (.tmp 17), none, []⟩, ⟨(some 19), .load (some 2) (.tmp 1), (some (18, false)), []⟩, ⟨(some 20), .call (.fn 4) [(.tmp 19)], (some (18, false)), []⟩, ⟨(some 21), .bin .eql .num (.tmp 20) (.const (.int .i64 0)), (some (18, false)), []⟩, ⟨(some 22), .pick (.tmp 18) (.const (.bool true)) (.tmp 21), none, []⟩])
 (.cond (.tmp 22) (.seq (.region false [⟨(some 23), .call (.fn 5) [], none, []⟩, ⟨(some 2), .mov (.tmp 23), none, []⟩])
 .ret)
 .skip))
 (.seq (.region false [⟨(some 24), .load (some 2) (.tmp 1), none, []⟩, ⟨(some 25), .call (.fn 4) [(.tmp 24)], none, []⟩, ⟨(some 3), .mov (.tmp 25), none, []⟩])
 (.seq (.region false [⟨(some 27), .load (some 2) (.tmp 1), none, []⟩, ⟨(some 28), .call (.fn 6) [(.tmp 27)], none, []⟩, ⟨(some 26), .mov (.tmp 28), none, []⟩, ⟨(some 29), .ext (.tmp 26) 0, none, []⟩, ⟨(some 30), .ext (.tmp 26) 1, none, []⟩, ⟨(some 4), .alloc [(.int .i64 0), .nilSl, .nilSl, .nilSl], none, []⟩, ⟨none, .store 4 (.tmp 4) (.tmp 29), none, []⟩, ⟨(some 5), .mov (.tmp 30), none, []⟩])
 (.seq (.region false [⟨(some 32), .load (some 2) (.tmp 1), none, []⟩, ⟨(some 33), .call (.fn 7) [(.tmp 32)], none, []⟩, ⟨(some 31), .mov (.tmp 33), none, []⟩, ⟨(some 34), .ext (.tmp 31) 0, none, []⟩, ⟨(some 35), .ext (.tmp 31) 1, none, []⟩, ⟨(some 6), .mov (.tmp 34), none, []⟩, ⟨(some 7), .mov (.tmp 35), none, []⟩])
 (.seq (.region false [⟨(some 37), .load (some 2) (.tmp 1), none, []⟩, ⟨(some 38), .call (.fn 8) [(.tmp 37)], none, []⟩, ⟨(some 36), .mov (.tmp 38), none, []⟩, ⟨(some 39), .ext (.tmp 36) 0, none, []⟩, ⟨(some 40), .ext (.tmp 36) 1, none, []⟩, ⟨(some 8), .mov (.tmp 39), none, []⟩, ⟨(some 9), .mov (.tmp 40), none, []⟩])
 (.seq (.region false [⟨(some 42), .load (some 2) (.tmp 1), none, []⟩, ⟨(some 43), .build [(.bool false), (.bool false), (.bool false)] [], none, []⟩, ⟨(some 44), .call (.fn 9) [(.tmp 42), (.tmp 43)], none, []⟩, ⟨(some 41), .mov (.tmp 44), none, []⟩, ⟨(some 45), .ext (.tmp 41) 0, none, []⟩, ⟨(some 46), .ext (.tmp 41) 1, none, []⟩, ⟨(some 10), .alloc [(.int .i64 0), .nilSl], none, []⟩, ⟨none, .store 2 (.tmp 10) (.tmp 45), none, []⟩, ⟨(some 11), .mov (.tmp 46), none, []⟩])
 (.seq (.region false [⟨(some 48), .load (some 2) (.tmp 1), none, []⟩, ⟨(some 49), .call (.fn 10) [(.tmp 48)], none, []⟩, ⟨(some 47), .mov (.tmp 49), none, []⟩, ⟨(some 50), .ext (.tmp 47) 0, none, []⟩, ⟨(some 51), .ext (.tmp 47) 1, none, []⟩, ⟨(some 12), .mov (.tmp 50), none, []⟩, ⟨(some 13), .mov (.tmp 51), none, []⟩])
 (.seq (.seq (.region false [⟨(some 52), .mov (.tmp 5), none, []⟩, ⟨(some 53), .mov (.tmp 3), none, []⟩, ⟨(some 54), .bin .neq .num (.tmp 52) (.tmp 53), none, []⟩, ⟨(some 55), .mov (.tmp 54), none, []⟩, ⟨(some 56), .mov (.tmp 7), (some (55, false)), []⟩, ⟨(some 57), .mov (.tmp 3), (some (55, false)), []⟩, ⟨(some 58), .bin .neq .num (.tmp 56) (.tmp 57), (some (55, false)), []⟩, ⟨(some 59), .pick (.tmp 55) (.const (.bool true)) (.tmp 58), none, []⟩, ⟨(some 60), .mov (.tmp 59), none, []⟩, ⟨(some 61), .mov (.tmp 9), (some (60, false)), []⟩, ⟨(some 62), .mov (.tmp 3), (some (60, false)), []⟩, ⟨(some 63), .bin .neq .num (.tmp 61) (.tmp 62), (some (60, false)), []⟩, ⟨(some 64), .pick (.tmp 60) (.const (.bool true)) (.tmp 63), none, []⟩, ⟨(some 65), .mov (.tmp 64), none, []⟩, ⟨(some 66), .mov (.tmp 11), (some (65, false)), []⟩, ⟨(some 67), .mov (.tmp 3), (some (65, false)), []⟩, ⟨(some 68), .bin .neq .num (.tmp 66) (.tmp 67), (some (65, false)), []⟩, ⟨(some 69), .pick (.tmp 65) (.const (.bool true)) (.tmp 68), none, []⟩, ⟨(some 70), .mov (.tmp 69), none, []⟩, ⟨(some 71), .mov (.tmp 13), (some (70, false)), []⟩, ⟨(some 72), .mov (.tmp 3), (some (70, false)), []⟩, ⟨(some 73), .bin .neq .num (.tmp 71) (.tmp 72), (some (70, false)), []⟩, ⟨(some 74), .pick (.tmp 70) (.const (.bool true)) (.tmp 73), none, []⟩])
 (.cond (.tmp 74) (.seq (.region false [⟨(some 2), .mov (.const (.bool false)), none, []⟩])
 .ret)
 .skip))
 (.seq (.region false [⟨(some 75), .load (some 4) (.tmp 4), none, []⟩, ⟨(some 76), .build [(.int .i64 0), .nilSl, .nilSl, .nilSl] [], none, []⟩, ⟨(some 77), .call (.fn 11) [(.tmp 75), (.tmp 76)], none, []⟩, ⟨(some 78), .mov (.tmp 77), none, []⟩, ⟨(some 79), .mov (.tmp 6), (some (78, true)), []⟩, ⟨(some 80), .lenSl (.tmp 79), (some (78, true)), []⟩, ⟨(some 81), .mov (.tmp 8), (some (78, true)), []⟩, ⟨(some 82), .lenSl (.tmp 81), (some (78, true)), []⟩, ⟨(some 83), .bin .add .num (.tmp 80) (.tmp 82), (some (78, true)), []⟩, ⟨(some 84), .mov (.tmp 12), (some (78, true)), []⟩, ⟨(some 85), .lenSl (.tmp 84), (some (78, true)), []⟩, ⟨(some 86), .bin .add .num (.tmp 83) (.tmp 85), (some (78, true)), []⟩, ⟨(some 87), .bin .eql .num (.tmp 86) (.const (.int .i64 0)), (some (78, true)), []⟩, ⟨(some 88), .pick (.tmp 78) (.tmp 87) (.const (.bool false)), none, []⟩, ⟨(some 89), .mov (.tmp 88), none, []⟩, ⟨(some 90), .load (some 2) (.tmp 10), (some (89, true)), []⟩, ⟨(some 91), .build [(.int .i64 0), .nilSl] [], (some (89, true)), []⟩, ⟨(some 92), .call (.fn 12) [(.tmp 90), (.tmp 91)], (some (89, true)), []⟩, ⟨(some 93), .pick (.tmp 89) (.tmp 92) (.const (.bool false)), none, []⟩, ⟨(some 94), .mov (.tmp 93), none, []⟩, ⟨(some 95), .call (.fn 5) [], (some (94, true)), []⟩, ⟨(some 96), .pick (.tmp 94) (.tmp 95) (.const (.bool false)), none, []⟩, ⟨(some 2), .mov (.tmp 96), none, []⟩])
 .ret))))))))))⟩
theorem cf3 : cFn Tryz.prog Tryz.f3 = some af3 := by kernel_rfl
theorem gd3 : Go.AE.Good Tryz.prog (3, af3) := ⟨⟨_, Tryz.func3, cf3⟩, by kernel_rfl, by kernel_rfl, by kernel_rfl⟩
def af4 : AFn := ⟨54, [(2, none)], (.seq (.region false [⟨(some 1), .box (.tmp 0), none, []⟩, ⟨(some 2), .mov (.const (.int .i64 0)), none, []⟩])
 (.seq (.seq (.region false [⟨(some 4), .fieldA 1 (.tmp 1), none, []⟩, ⟨(some 5), .load none (.tmp 4), none, []⟩, ⟨(some 6), .lenSl (.tmp 5), none, []⟩, ⟨(some 7), .bin .gtr .num (.tmp 6) (.const (.int .i64 400)), none, []⟩, ⟨(some 8), .mov (.tmp 7), none, []⟩, ⟨(some 9), .load (some 2) (.tmp 1), (some (8, false)), []⟩, ⟨(some 10), .call (.fn 13) [(.tmp 9)], (some (8, false)), []⟩, ⟨(some 11), .bin .gtr .num (.tmp 10) (.const (.int .i64 200)), (some (8, false)), []⟩, ⟨(some 12), .pick (.tmp 8) (.const (.bool true)) (.tmp 11), none, []⟩])
 (.cond (.tmp 12) (.seq (.region false [⟨(some 2), .mov (.const (.int .i64 7)), none, []⟩])
 .ret)
 .skip))
 (.seq (.seq (.region false [⟨(some 13), .fieldA 0 (.tmp 1), none, []⟩, ⟨(some 14), .load none (.tmp 13), none, []⟩, ⟨(some 15), .bin .lss .num (.tmp 14) (.const (.int .i64 0)), none, []⟩, ⟨(some 16), .mov (.tmp 15), none, []⟩, ⟨(some 17), .fieldA 0 (.tmp 1), (some (16, false)), []⟩, ⟨(some 18), .load none (.tmp 17), (some (16, false)), []⟩, ⟨(some 19), .bin .gtr .num (.tmp 18) (.const (.int .i64 40)), (some (16, false)), []⟩, ⟨(some 20), .pick (.tmp 16) (.const (.bool true)) (.tmp 19), none, []⟩])
 (.cond (.tmp 20) (.seq (.region false [⟨(some 2), .mov (.const (.int .i64 2)), none, []⟩])
 .ret)
 .skip))
 (.seq (.seq (.region false [⟨(some 21), .fieldA 1 (.tmp 1), none, []⟩, ⟨(some 22), .load none (.tmp 21), none, []⟩, ⟨(some 23), .lenSl (.tmp 22), none, []⟩, ⟨(some 24), .bin .eql .num (.tmp 23) (.const (.int .i64 0)), none, []⟩])
 (.cond (.tmp 24) (.seq (.region false [⟨(some 2), .mov (.const (.int .i64 0)), none, []⟩])
 .ret)
 .skip))
 (.seq (.region false [⟨(some 25), .load (some 2) (.tmp 1), none, []⟩, ⟨(some 26), .call (.fn 14) [(.tmp 25)], none, []⟩, ⟨(some 3), .mov (.tmp 26), none, []⟩])
 (.seq (.seq (.region true [⟨(some 27), .fieldA 1 (.tmp 1), none, []⟩, ⟨(some 28), .load none (.tmp 27), none, []⟩, ⟨(some 29), .idxA 6 (.tmp 28) (.const (.int .i64 0)), none, []⟩, ⟨(some 30), .fieldA 0 (.tmp 29), none, []⟩, ⟨(some 31), .load none (.tmp 30), none, []⟩, ⟨(some 32), .bin .neq .num (.tmp 31) (.const (.int .i64 1)), none, []⟩, ⟨(some 33), .mov (.tmp 32), none, []⟩, ⟨(some 34), .mov (.tmp 3), (some (33, false)), []⟩, ⟨(some 35), .bin .rem .num (.tmp 34) (.const (.int .i64 2)), (some (33, false)), []⟩, ⟨(some 36), .bin .neq .num (.tmp 35) (.const (.int .i64 0)), (some (33, false)), []⟩, ⟨(some 37), .pick (.tmp 33) (.const (.bool true)) (.tmp 36), none, []⟩, ⟨(some 38), .mov (.tmp 37), none, []⟩, ⟨(some 39), .load (some 2) (.tmp 1), (some (38, false)), []⟩, ⟨(some 40), .call (.fn 15) [(.tmp 39)], (some (38, false)), []⟩, ⟨(some 41), .un .not (.tmp 40), (some (38, false)), []⟩, ⟨(some 42), .pick (.tmp 38) (.const (.bool true)) (.tmp 41), none, []⟩, ⟨(some 43), .mov (.tmp 42), none, []⟩, ⟨(some 44), .load (some 2) (.tmp 1), (some (43, false)), []⟩, ⟨(some 45), .call (.fn 16) [(.tmp 44)], (some (43, false)), []⟩, ⟨(some 46), .lenSl (.tmp 45), (some (43, false)), []⟩, ⟨(some 47), .mov (.tmp 3), (some (43, false)), []⟩, ⟨(some 48), .load (some 2) (.tmp 1), (some (43, false)), [18]⟩, ⟨(some 49), .call (.fn 17) [(.tmp 48)], (some (43, false)), []⟩, ⟨(some 50), .bin .add .num (.tmp 47) (.tmp 49), (some (43, false)), []⟩, ⟨(some 51), .bin .add .num (.tmp 50) (.const (.int .i64 2)), (some (43, false)), []⟩, ⟨(some 52), .bin .neq .num (.tmp 46) (.tmp 51), (some (43, false)), []⟩, ⟨(some 53), .pick (.tmp 43) (.const (.bool true)) (.tmp 52), none, []⟩])
 (.cond (.tmp 53) (.seq (.region false [⟨(some 2), .mov (.const (.int .i64 3)), none, []⟩])
 .ret)
 .skip))
 (.seq (.region false [⟨(some 2), .mov (.const (.int .i64 0)), none, []⟩])
 .ret)))))))⟩
theorem cf4 : cFn Tryz.prog Tryz.f4 = some af4 := by kernel_rfl
theorem gd4 : Go.AE.Good Tryz.prog (4, af4) := ⟨⟨_, Tryz.func4, cf4⟩, by kernel_rfl, by kernel_rfl, by kernel_rfl⟩
def af7 : AFn := ⟨71, [(2, none), (3, none)], (.seq (.region false [⟨(some 1), .box (.tmp 0), none, []⟩, ⟨(some 2), .mov (.const .nilSl), none, []⟩, ⟨(some 3), .mov (.const (.int .i64 0)), none, []⟩])
 (.seq (.region false [⟨(some 14), .load (some 2) (.tmp 1), none, []⟩, ⟨(some 15), .call (.fn 29) [(.tmp 14)], none, []⟩, ⟨(some 13), .mov (.tmp 15), none, []⟩, ⟨(some 16), .ext (.tmp 13) 0, none, []⟩, ⟨(some 17), .ext (.tmp 13) 1, none, []⟩, ⟨(some 4), .mov (.tmp 16), none, []⟩, ⟨(some 5), .mov (.tmp 17), none, []⟩])
 (.seq (.seq (.region false [⟨(some 18), .mov (.tmp 5), none, []⟩, ⟨(some 19), .bin .neq .num (.tmp 18) (.const (.int .i64 0)), none, []⟩])
 (.cond (.tmp 19) (.seq (.region false [⟨(some 20), .mov (.tmp 5), none, []⟩, ⟨(some 2), .mov (.const .nilSl), none, []⟩, ⟨(some 3), .mov (.tmp 20), none, []⟩])
 .ret)
 .skip))
 (.seq (.region false [⟨(some 6), .mov (.const .nilSl), none, []⟩])
 (.seq (.seq (.region false [⟨(some 21), .mov (.tmp 4), none, []⟩, ⟨(some 22), .lenSl (.tmp 21), none, []⟩, ⟨(some 23), .mov (.const (.int .i64 0)), none, []⟩])
 (.block 0 (.loop (.seq (.region false [⟨(some 24), .bin .lss .num (.tmp 23) (.tmp 22), none, []⟩])
 (.seq (.cond (.tmp 24) .skip
 (.exit 0))
 (.seq (.block 1 (.seq (.region false [⟨(some 25), .idxA 5 (.tmp 21) (.tmp 23), none, []⟩, ⟨(some 26), .load (some 5) (.tmp 25), none, []⟩, ⟨(some 8), .alloc [(.bool false), .nilSl, .nilSl, .nilSl, (.bool false)], none, []⟩, ⟨none, .store 5 (.tmp 8) (.tmp 26), none, []⟩])
 (.seq (.region false [⟨(some 27), .fieldA 1 (.tmp 8), none, []⟩, ⟨(some 28), .load none (.tmp 27), none, []⟩, ⟨(some 29), .lenSl (.tmp 28), none, []⟩, ⟨(some 30), .fieldA 2 (.tmp 8), none, []⟩, ⟨(some 31), .load none (.tmp 30), none, []⟩, ⟨(some 32), .lenSl (.tmp 31), none, []⟩, ⟨(some 33), .bin .eql .num (.tmp 32) (.const (.int .i64 0)), none, []⟩, ⟨(some 34), .build [(.int .i64 0), (.int .i64 0), (.bool false)] [(1, 1, (.tmp 29)), (2, 1, (.tmp 33))], none, []⟩, ⟨(some 9), .alloc [(.int .i64 0), (.int .i64 0), (.bool false)], none, []⟩, ⟨none, .store 3 (.tmp 9) (.tmp 34), none, []⟩])
 (.seq (.seq (.region false [⟨(some 35), .fieldA 1 (.tmp 8), none, []⟩, ⟨(some 36), .load none (.tmp 35), none, []⟩, ⟨(some 37), .lenSl (.tmp 36), none, []⟩, ⟨(some 38), .mov (.const (.int .i64 0)), none, []⟩])
 (.block 2 (.loop (.seq (.region false [⟨(some 39), .bin .lss .num (.tmp 38) (.tmp 37), none, []⟩])
 (.seq (.cond (.tmp 39) .skip
 (.exit 2))
 (.seq (.block 3 (.seq (.region false [⟨(some 40), .idxA 1 (.tmp 36) (.tmp 38), none, []⟩, ⟨(some 41), .load none (.tmp 40), none, []⟩, ⟨(some 11), .mov (.tmp 41), none, []⟩])
 (.seq (.region false [⟨(some 42), .mov (.tmp 11), none, []⟩, ⟨(some 43), .bin .quo .num (.tmp 42) (.const (.int .i64 2)), none, []⟩, ⟨(some 12), .mov (.tmp 43), none, []⟩])
 (.seq (.seq (.region false [⟨(some 44), .mov (.tmp 11), none, []⟩, ⟨(some 45), .bin .rem .num (.tmp 44) (.const (.int .i64 2)), none, []⟩, ⟨(some 46), .bin .eql .num (.tmp 45) (.const (.int .i64 0)), none, []⟩])
 (.cond (.tmp 46) (.region false [⟨(some 47), .mov (.tmp 12), none, []⟩, ⟨(some 48), .bin .add .num (.tmp 47) (.const (.int .i64 1)), none, []⟩, ⟨(some 49), .fieldA 1 (.tmp 1), none, []⟩, ⟨(some 50), .load none (.tmp 49), none, []⟩, ⟨(some 51), .lenSl (.tmp 50), none, []⟩, ⟨(some 52), .bin .rem .num (.tmp 48) (.tmp 51), none, []⟩, ⟨(some 12), .mov (.tmp 52), none, []⟩])
 .skip))
 (.seq (.region false [⟨(some 53), .fieldA 1 (.tmp 1), none, []⟩, ⟨(some 54), .load none (.tmp 53), none, []⟩, ⟨(some 55), .mov (.tmp 12), none, []⟩, ⟨(some 56), .idxA 6 (.tmp 54) (.tmp 55), none, []⟩, ⟨(some 57), .fieldA 0 (.tmp 56), none, []⟩, ⟨(some 58), .load none (.tmp 57), none, []⟩, ⟨(some 59), .bin .eql .num (.tmp 58) (.const (.int .i64 2)), none, []⟩])
 (.cond (.tmp 59) (.region false [⟨(some 60), .fieldA 0 (.tmp 9), none, []⟩, ⟨(some 61), .load none (.tmp 60), none, []⟩, ⟨(some 62), .bin .add .num (.tmp 61) (.const (.int .i64 1)), none, []⟩, ⟨(some 63), .fieldA 0 (.tmp 9), none, []⟩, ⟨none, .store 1 (.tmp 63) (.tmp 62), none, []⟩])
 .skip))))))
 (.region false [⟨(some 64), .bin .add .num (.tmp 38) (.const (.int .i64 1)), none, []⟩, ⟨(some 38), .mov (.tmp 64), none, []⟩])))))))
 (.region false [⟨(some 65), .mov (.tmp 6), none, []⟩, ⟨(some 66), .load (some 3) (.tmp 9), none, []⟩, ⟨(some 67), .mkSl 3 1 [(.int .i64 0), (.int .i64 0), (.bool false)] [(0, (.tmp 66))], none, []⟩, ⟨(some 68), .append 3 24 [(.int .i64 0), (.int .i64 0), (.bool false)] (.tmp 65) (.tmp 67), none, []⟩, ⟨(some 6), .mov (.tmp 68), none, []⟩])))))
 (.region false [⟨(some 69), .bin .add .num (.tmp 23) (.const (.int .i64 1)), none, []⟩, ⟨(some 23), .mov (.tmp 69), none, []⟩])))))))
 (.seq (.region false [⟨(some 70), .mov (.tmp 6), none, []⟩, ⟨(some 2), .mov (.tmp 70), none, []⟩, ⟨(some 3), .mov (.const (.int .i64 0)), none, []⟩])
 .ret))))))⟩
theorem cf7 : cFn Tryz.prog Tryz.f7 = some af7 := by kernel_rfl
theorem gd7 : Go.AE.Good Tryz.prog (7, af7) := ⟨⟨_, Tryz.func7, cf7⟩, by kernel_rfl, by kernel_rfl, by kernel_rfl⟩
def af8 : AFn := ⟨43, [(2, none), (3, none)], (.seq (.region false [⟨(some 1), .box (.tmp 0), none, []⟩, ⟨(some 2), .mov (.const .nilSl), none, []⟩, ⟨(some 3), .mov (.const (.int .i64 0)), none, []⟩])
 (.seq (.region false [⟨(some 10), .load (some 2) (.tmp 1), none, []⟩, ⟨(some 11), .call (.fn 7) [(.tmp 10)], none, []⟩, ⟨(some 9), .mov (.tmp 11), none, []⟩, ⟨(some 12), .ext (.tmp 9) 0, none, []⟩, ⟨(some 13), .ext (.tmp 9) 1, none, []⟩, ⟨(some 4), .mov (.tmp 12), none, []⟩, ⟨(some 5), .mov (.tmp 13), none, []⟩])
 (.seq (.seq (.region false [⟨(some 14), .mov (.tmp 5), none, []⟩, ⟨(some 15), .bin .neq .num (.tmp 14) (.const (.int .i64 0)), none, []⟩])
 (.cond (.tmp 15) (.seq (.region false [⟨(some 16), .mov (.tmp 5), none, []⟩, ⟨(some 2), .mov (.const .nilSl), none, []⟩, ⟨(some 3), .mov (.tmp 16), none, []⟩])
 .ret)
 .skip))
 (.seq (.region false [⟨(some 6), .mov (.const .nilSl), none, []⟩])
 (.seq (.seq (.region false [⟨(some 17), .mov (.tmp 4), none, []⟩, ⟨(some 18), .lenSl (.tmp 17), none, []⟩, ⟨(some 19), .mov (.const (.int .i64 0)), none, []⟩])
 (.block 0 (.loop (.seq (.region false [⟨(some 20), .bin .lss .num (.tmp 19) (.tmp 18), none, []⟩])
 (.seq (.cond (.tmp 20) .skip
 (.exit 0))
 (.seq (.block 1 (.seq (.region false [⟨(some 21), .idxA 3 (.tmp 17) (.tmp 19), none, []⟩, ⟨(some 22), .load (some 3) (.tmp 21), none, []⟩, ⟨(some 8), .alloc [(.int .i64 0), (.int .i64 0), (.bool false)], none, []⟩, ⟨none, .store 3 (.tmp 8) (.tmp 22), none, []⟩])
 (.seq (.seq (.region false [⟨(some 23), .fieldA 2 (.tmp 8), none, []⟩, ⟨(some 24), .load none (.tmp 23), none, []⟩, ⟨(some 25), .un .not (.tmp 24), none, []⟩])
 (.cond (.tmp 25) (.exit 1)
 .skip))
 (.seq (.block 2 (.loop (.seq (.seq (.region false [⟨(some 26), .mov (.tmp 6), none, []⟩, ⟨(some 27), .lenSl (.tmp 26), none, []⟩, ⟨(some 28), .fieldA 0 (.tmp 8), none, []⟩, ⟨(some 29), .load none (.tmp 28), none, []⟩, ⟨(some 30), .bin .leq .num (.tmp 27) (.tmp 29), none, []⟩])
 (.cond (.tmp 30) .skip
 (.exit 2)))
 (.block 3 (.region false [⟨(some 31), .mov (.tmp 6), none, []⟩, ⟨(some 32), .mkSl 1 1 [(.int .i64 0)] [(0, (.const (.int .i64 0)))], none, []⟩, ⟨(some 33), .append 1 8 [(.int .i64 0)] (.tmp 31) (.tmp 32), none, []⟩, ⟨(some 6), .mov (.tmp 33), none, []⟩])))))
 (.region false [⟨(some 34), .mov (.tmp 6), none, []⟩, ⟨(some 35), .fieldA 0 (.tmp 8), none, []⟩, ⟨(some 36), .load none (.tmp 35), none, []⟩, ⟨(some 37), .idxA 1 (.tmp 34) (.tmp 36), none, []⟩, ⟨(some 38), .load none (.tmp 37), none, []⟩, ⟨(some 39), .bin .add .num (.tmp 38) (.const (.int .i64 1)), none, []⟩, ⟨(some 40), .idxA 1 (.tmp 34) (.tmp 36), none, []⟩, ⟨none, .store 1 (.tmp 40) (.tmp 39), none, []⟩])))))
 (.region false [⟨(some 41), .bin .add .num (.tmp 19) (.const (.int .i64 1)), none, []⟩, ⟨(some 19), .mov (.tmp 41), none, []⟩])))))))
 (.seq (.region false [⟨(some 42), .mov (.tmp 6), none, []⟩, ⟨(some 2), .mov (.tmp 42), none, []⟩, ⟨(some 3), .mov (.const (.int .i64 0)), none, []⟩])
 .ret))))))⟩
theorem cf8 : cFn Tryz.prog Tryz.f8 = some af8 := by kernel_rfl
theorem gd8 : Go.AE.Good Tryz.prog (8, af8) := ⟨⟨_, Tryz.func8, cf8⟩, by kernel_rfl, by kernel_rfl, by kernel_rfl⟩
def af11 : AFn := ⟨31, [(4, none)], (.seq (.region false [⟨(some 2), .box (.tmp 0), none, []⟩, ⟨(some 3), .box (.tmp 1), none, []⟩, ⟨(some 4), .mov (.const (.bool false)), none, []⟩])
 (.seq (.region false [⟨(some 5), .fieldA 0 (.tmp 2), none, []⟩, ⟨(some 6), .load none (.tmp 5), none, []⟩, ⟨(some 7), .fieldA 0 (.tmp 3), none, []⟩, ⟨(some 8), .load none (.tmp 7), none, []⟩, ⟨(some 9), .bin .eql .num (.tmp 6) (.tmp 8), none, []⟩, ⟨(some 10), .mov (.tmp 9), none, []⟩, ⟨(some 11), .fieldA 1 (.tmp 2), (some (10, true)), []⟩, ⟨(some 12), .load none (.tmp 11), (some (10, true)), []⟩, ⟨(some 13), .fieldA 1 (.tmp 3), (some (10, true)), []⟩, ⟨(some 14), .load none (.tmp 13), (some (10, true)), []⟩, ⟨(some 15), .call (.fn 35) [(.tmp 12), (.tmp 14)], (some (10, true)), []⟩, ⟨(some 16), .pick (.tmp 10) (.tmp 15) (.const (.bool false)), none, []⟩, ⟨(some 17), .mov (.tmp 16), none, []⟩, ⟨(some 18), .fieldA 2 (.tmp 2), (some (17, true)), []⟩, ⟨(some 19), .load none (.tmp 18), (some (17, true)), []⟩, ⟨(some 20), .fieldA 2 (.tmp 3), (some (17, true)), []⟩, ⟨(some 21), .load none (.tmp 20), (some (17, true)), []⟩, ⟨(some 22), .call (.fn 36) [(.tmp 19), (.tmp 21)], (some (17, true)), []⟩, ⟨(some 23), .pick (.tmp 17) (.tmp 22) (.const (.bool false)), none, []⟩, ⟨(some 24), .mov (.tmp 23), none, []⟩, ⟨(some 25), .fieldA 3 (.tmp 2), (some (24, true)), []⟩, ⟨(some 26), .load none (.tmp 25), (some (24, true)), []⟩, ⟨(some 27), .fieldA 3 (.tmp 3), (some (24, true)), []⟩, ⟨(some 28), .load none (.tmp 27), (some (24, true)), []⟩, ⟨(some 29), .call (.fn 36) [(.tmp 26), (.tmp 28)], (some (24, true)), []⟩, ⟨(some 30), .pick (.tmp 24) (.tmp 29) (.const (.bool false)), none, []⟩, ⟨(some 4), .mov (.tmp 30), none, []⟩])
 .ret))⟩
theorem cf11 : cFn Tryz.prog Tryz.f11 = some af11 := by kernel_rfl
theorem gd11 : Go.AE.Good Tryz.prog (11, af11) := ⟨⟨_, Tryz.func11, cf11⟩, by kernel_rfl, by kernel_rfl, by kernel_rfl⟩
def af13 : AFn := ⟨22, [(2, none)], (.seq (.region false [⟨(some 1), .box (.tmp 0), none, []⟩, ⟨(some 2), .mov (.const (.int .i64 0)), none, []⟩])
 (.seq (.region false [⟨(some 3), .mov (.const (.int .i64 0)), none, []⟩])
 (.seq (.seq (.region false [⟨(some 4), .mov (.const (.int .i64 0)), none, []⟩])
 (.block 0 (.loop (.seq (.seq (.region false [⟨(some 5), .mov (.tmp 4), none, []⟩, ⟨(some 6), .fieldA 1 (.tmp 1), none, []⟩, ⟨(some 7), .load none (.tmp 6), none, []⟩, ⟨(some 8), .lenSl (.tmp 7), none, []⟩, ⟨(some 9), .bin .lss .num (.tmp 5) (.tmp 8), none, []⟩])
 (.cond (.tmp 9) .skip
 (.exit 0)))
 (.seq (.block 1 (.seq (.region false [⟨(some 12), .fieldA 1 (.tmp 1), none, []⟩, ⟨(some 13), .load none (.tmp 12), none, []⟩, ⟨(some 14), .mov (.tmp 4), none, []⟩, ⟨(some 15), .idxA 6 (.tmp 13) (.tmp 14), none, []⟩, ⟨(some 16), .fieldA 0 (.tmp 15), none, []⟩, ⟨(some 17), .load none (.tmp 16), none, []⟩, ⟨(some 18), .bin .eql .num (.tmp 17) (.const (.int .i64 2)), none, []⟩])
 (.cond (.tmp 18) (.region false [⟨(some 19), .mov (.tmp 3), none, []⟩, ⟨(some 20), .bin .add .num (.tmp 19) (.const (.int .i64 1)), none, []⟩, ⟨(some 3), .mov (.tmp 20), none, []⟩])
 .skip)))
 (.region false [⟨(some 10), .mov (.tmp 4), none, []⟩, ⟨(some 11), .bin .add .num (.tmp 10) (.const (.int .i64 1)), none, []⟩, ⟨(some 4), .mov (.tmp 11), none, []⟩]))))))
 (.seq (.region false [⟨(some 21), .mov (.tmp 3), none, []⟩, ⟨(some 2), .mov (.tmp 21), none, []⟩])
 .ret))))⟩
theorem cf13 : cFn Tryz.prog Tryz.f13 = some af13 := by kernel_rfl
theorem gd13 : Go.AE.Good Tryz.prog (13, af13) := ⟨⟨_, Tryz.func13, cf13⟩, by kernel_rfl, by kernel_rfl, by kernel_rfl⟩
def af14 : AFn := ⟨22, [(2, none)], (.seq (.region false [⟨(some 1), .box (.tmp 0), none, []⟩, ⟨(some 2), .mov (.const (.int .i64 0)), none, []⟩])
 (.seq (.region false [⟨(some 3), .mov (.const (.int .i64 0)), none, []⟩])
 (.seq (.seq (.region false [⟨(some 4), .mov (.const (.int .i64 0)), none, []⟩])
 (.block 0 (.loop (.seq (.seq (.region false [⟨(some 5), .mov (.tmp 4), none, []⟩, ⟨(some 6), .fieldA 1 (.tmp 1), none, []⟩, ⟨(some 7), .load none (.tmp 6), none, []⟩, ⟨(some 8), .lenSl (.tmp 7), none, []⟩, ⟨(some 9), .bin .lss .num (.tmp 5) (.tmp 8), none, []⟩])
 (.cond (.tmp 9) .skip
 (.exit 0)))
 (.seq (.block 1 (.seq (.region false [⟨(some 12), .fieldA 1 (.tmp 1), none, []⟩, ⟨(some 13), .load none (.tmp 12), none, []⟩, ⟨(some 14), .mov (.tmp 4), none, []⟩, ⟨(some 15), .idxA 6 (.tmp 13) (.tmp 14), none, []⟩, ⟨(some 16), .fieldA 0 (.tmp 15), none, []⟩, ⟨(some 17), .load none (.tmp 16), none, []⟩, ⟨(some 18), .bin .eql .num (.tmp 17) (.const (.int .i64 1)), none, []⟩])
 (.cond (.tmp 18) (.region false [⟨(some 19), .mov (.tmp 3), none, []⟩, ⟨(some 20), .bin .add .num (.tmp 19) (.const (.int .i64 1)), none, []⟩, ⟨(some 3), .mov (.tmp 20), none, []⟩])
 .skip)))
 (.region false [⟨(some 10), .mov (.tmp 4), none, []⟩, ⟨(some 11), .bin .add .num (.tmp 10) (.const (.int .i64 1)), none, []⟩, ⟨(some 4), .mov (.tmp 11), none, []⟩]))))))
 (.seq (.region false [⟨(some 21), .mov (.tmp 3), none, []⟩, ⟨(some 2), .mov (.tmp 21), none, []⟩])
 .ret))))⟩
theorem cf14 : cFn Tryz.prog Tryz.f14 = some af14 := by kernel_rfl
theorem gd14 : Go.AE.Good Tryz.prog (14, af14) := ⟨⟨_, Tryz.func14, cf14⟩, by kernel_rfl, by kernel_rfl, by kernel_rfl⟩
def af15 : AFn := ⟨172, [(2, none)], (.seq (.region false [⟨(some 1), .box (.tmp 0), none, []⟩, ⟨(some 2), .mov (.const (.bool false)), none, []⟩])
 (.seq (.seq (.region false [⟨(some 3), .mov (.const (.int .i64 0)), none, []⟩])
 (.block 0 (.loop (.seq (.seq (.region false [⟨(some 9), .mov (.tmp 3), none, []⟩, ⟨(some 10), .fieldA 1 (.tmp 1), none, []⟩, ⟨(some 11), .load none (.tmp 10), none, []⟩, ⟨(some 12), .lenSl (.tmp 11), none, []⟩, ⟨(some 13), .bin .lss .num (.tmp 9) (.tmp 12), none, []⟩])
 (.cond (.tmp 13) .skip
 (.exit 0)))
 (.seq (.block 1 (.seq (.region false [⟨(some 16), .fieldA 1 (.tmp 1), none, []⟩, ⟨(some 17), .load none (.tmp 16), none, []⟩, ⟨(some 18), .mov (.tmp 3), none, []⟩, ⟨(some 19), .idxA 6 (.tmp 17) (.tmp 18), none, []⟩, ⟨(some 20), .load (some 6) (.tmp 19), none, []⟩, ⟨(some 4), .alloc [(.int .i64 0), (.int .i64 0), (.int .i64 0), (.int .i64 0), (.int .i64 0), (.bool false)], none, []⟩, ⟨none, .store 6 (.tmp 4) (.tmp 20), none, []⟩])
 (.seq (.region false [⟨(some 5), .mov (.const (.int .i64 0)), none, []⟩, ⟨(some 6), .mov (.const (.int .i64 0)), none, []⟩])
 (.seq (.seq (.region false [⟨(some 7), .mov (.const (.int .i64 0)), none, []⟩])
 (.block 2 (.loop (.seq (.seq (.region false [⟨(some 21), .mov (.tmp 7), none, []⟩, ⟨(some 22), .fieldA 1 (.tmp 1), none, []⟩, ⟨(some 23), .load none (.tmp 22), none, []⟩, ⟨(some 24), .lenSl (.tmp 23), none, []⟩, ⟨(some 25), .bin .lss .num (.tmp 21) (.tmp 24), none, []⟩])
 (.cond (.tmp 25) .skip
 (.exit 2)))
 (.seq (.block 3 (.seq (.region false [⟨(some 28), .fieldA 1 (.tmp 1), none, []⟩, ⟨(some 29), .load none (.tmp 28), none, []⟩, ⟨(some 30), .mov (.tmp 7), none, []⟩, ⟨(some 31), .idxA 6 (.tmp 29) (.tmp 30), none, []⟩, ⟨(some 32), .load (some 6) (.tmp 31), none, []⟩, ⟨(some 8), .alloc [(.int .i64 0), (.int .i64 0), (.int .i64 0), (.int .i64 0), (.int .i64 0), (.bool false)], none, []⟩, ⟨none, .store 6 (.tmp 8) (.tmp 32), none, []⟩])
 (.seq (.seq (.region false [⟨(some 33), .fieldA 0 (.tmp 8), none, []⟩, ⟨(some 34), .load none (.tmp 33), none, []⟩, ⟨(some 35), .fieldA 0 (.tmp 4), none, []⟩, ⟨(some 36), .load none (.tmp 35), none, []⟩, ⟨(some 37), .bin .eql .num (.tmp 34) (.tmp 36), none, []⟩, ⟨(some 38), .mov (.tmp 37), none, []⟩, ⟨(some 39), .fieldA 1 (.tmp 8), (some (38, true)), []⟩, ⟨(some 40), .load none (.tmp 39), (some (38, true)), []⟩, ⟨(some 41), .fieldA 1 (.tmp 4), (some (38, true)), []⟩, ⟨(some 42), .load none (.tmp 41), (some (38, true)), []⟩, ⟨(some 43), .bin .eql .num (.tmp 40) (.tmp 42), (some (38, true)), []⟩, ⟨(some 44), .pick (.tmp 38) (.tmp 43) (.const (.bool false)), none, []⟩, ⟨(some 45), .mov (.tmp 44), none, []⟩, ⟨(some 46), .fieldA 2 (.tmp 8), (some (45, true)), []⟩, ⟨(some 47), .load none (.tmp 46), (some (45, true)), []⟩, ⟨(some 48), .fieldA 2 (.tmp 4), (some (45, true)), []⟩, ⟨(some 49), .load none (.tmp 48), (some (45, true)), []⟩, ⟨(some 50), .bin .eql .num (.tmp 47) (.tmp 49), (some (45, true)), []⟩, ⟨(some 51), .pick (.tmp 45) (.tmp 50) (.const (.bool false)), none, []⟩])
 (.cond (.tmp 51) (.region false [⟨(some 52), .mov (.tmp 5), none, []⟩, ⟨(some 53), .bin .add .num (.tmp 52) (.const (.int .i64 1)), none, []⟩, ⟨(some 5), .mov (.tmp 53), none, []⟩])
 .skip))
 (.seq (.region false [⟨(some 54), .fieldA 0 (.tmp 8), none, []⟩, ⟨(some 55), .load none (.tmp 54), none, []⟩, ⟨(some 56), .fieldA 0 (.tmp 4), none, []⟩, ⟨(some 57), .load none (.tmp 56), none, []⟩, ⟨(some 58), .bin .eql .num (.tmp 55) (.tmp 57), none, []⟩, ⟨(some 59), .mov (.tmp 58), none, []⟩, ⟨(some 60), .fieldA 3 (.tmp 8), (some (59, true)), []⟩, ⟨(some 61), .load none (.tmp 60), (some (59, true)), []⟩, ⟨(some 62), .fieldA 3 (.tmp 4), (some (59, true)), []⟩, ⟨(some 63), .load none (.tmp 62), (some (59, true)), []⟩, ⟨(some 64), .bin .eql .num (.tmp 61) (.tmp 63), (some (59, true)), []⟩, ⟨(some 65), .pick (.tmp 59) (.tmp 64) (.const (.bool false)), none, []⟩, ⟨(some 66), .mov (.tmp 65), none, []⟩, ⟨(some 67), .fieldA 4 (.tmp 8), (some (66, true)), []⟩, ⟨(some 68), .load none (.tmp 67), (some (66, true)), []⟩, ⟨(some 69), .fieldA 4 (.tmp 4), (some (66, true)), []⟩, ⟨(some 70), .load none (.tmp 69), (some (66, true)), []⟩, ⟨(some 71), .bin .eql .num (.tmp 68) (.tmp 70), (some (66, true)), []⟩, ⟨(some 72), .pick (.tmp 66) (.tmp 71) (.const (.bool false)), none, []⟩, ⟨(some 73), .mov (.tmp 72), none, []⟩, ⟨(some 74), .fieldA 5 (.tmp 8), (some (73, true)), []⟩, ⟨(some 75), .load none (.tmp 74), (some (73, true)), []⟩, ⟨(some 76), .fieldA 5 (.tmp 4), (some (73, true)), []⟩, ⟨(some 77), .load none (.tmp 76), (some (73, true)), []⟩, ⟨(some 78), .bin .neq .bool (.tmp 75) (.tmp 77), (some (73, true)), []⟩, ⟨(some 79), .pick (.tmp 73) (.tmp 78) (.const (.bool false)), none, []⟩])
 (.cond (.tmp 79) (.region false [⟨(some 80), .mov (.tmp 6), none, []⟩, ⟨(some 81), .bin .add .num (.tmp 80) (.const (.int .i64 1)), none, []⟩, ⟨(some 6), .mov (.tmp 81), none, []⟩])
 .skip)))))
 (.region false [⟨(some 26), .mov (.tmp 7), none, []⟩, ⟨(some 27), .bin .add .num (.tmp 26) (.const (.int .i64 1)), none, []⟩, ⟨(some 7), .mov (.tmp 27), none, []⟩]))))))
 (.seq (.region false [⟨(some 82), .fieldA 0 (.tmp 4), none, []⟩, ⟨(some 83), .load none (.tmp 82), none, []⟩])
 (.block 4 (.seq (.region false [⟨(some 85), .bin .eql .num (.tmp 83) (.const (.int .i64 1)), none, []⟩, ⟨(some 84), .mov (.tmp 85), none, []⟩])
 (.cond (.tmp 84) (.seq (.region true [⟨(some 86), .fieldA 3 (.tmp 4), none, []⟩, ⟨(some 87), .load none (.tmp 86), none, []⟩, ⟨(some 88), .bin .neq .num (.tmp 87) (.const (.int .i64 0)), none, []⟩, ⟨(some 89), .mov (.tmp 88), none, []⟩, ⟨(some 90), .fieldA 4 (.tmp 4), (some (89, false)), []⟩, ⟨(some 91), .load none (.tmp 90), (some (89, false)), []⟩, ⟨(some 92), .bin .neq .num (.tmp 91) (.const (.int .i64 0)), (some (89, false)), []⟩, ⟨(some 93), .pick (.tmp 89) (.const (.bool true)) (.tmp 92), none, []⟩, ⟨(some 94), .mov (.tmp 93), none, []⟩, ⟨(some 95), .fieldA 5 (.tmp 4), (some (94, false)), []⟩, ⟨(some 96), .load none (.tmp 95), (some (94, false)), []⟩, ⟨(some 97), .pick (.tmp 94) (.const (.bool true)) (.tmp 96), none, []⟩, ⟨(some 98), .mov (.tmp 97), none, []⟩, ⟨(some 99), .fieldA 1 (.tmp 4), (some (98, false)), []⟩, ⟨(some 100), .load none (.tmp 99), (some (98, false)), []⟩, ⟨(some 101), .bin .lss .num (.tmp 100) (.const (.int .i64 0)), (some (98, false)), []⟩, ⟨(some 102), .pick (.tmp 98) (.const (.bool true)) (.tmp 101), none, []⟩, ⟨(some 103), .mov (.tmp 102), none, []⟩, ⟨(some 104), .fieldA 1 (.tmp 4), (some (103, false)), []⟩, ⟨(some 105), .load none (.tmp 104), (some (103, false)), []⟩, ⟨(some 106), .fieldA 0 (.tmp 1), (some (103, false)), []⟩, ⟨(some 107), .load none (.tmp 106), (some (103, false)), []⟩, ⟨(some 108), .bin .gtr .num (.tmp 105) (.tmp 107), (some (103, false)), []⟩, ⟨(some 109), .pick (.tmp 103) (.const (.bool true)) (.tmp 108), none, []⟩, ⟨(some 110), .mov (.tmp 109), none, []⟩, ⟨(some 111), .fieldA 2 (.tmp 4), (some (110, false)), []⟩, ⟨(some 112), .load none (.tmp 111), (some (110, false)), []⟩, ⟨(some 113), .bin .lss .num (.tmp 112) (.const (.int .i64 1)), (some (110, false)), []⟩, ⟨(some 114), .pick (.tmp 110) (.const (.bool true)) (.tmp 113), none, []⟩, ⟨(some 115), .mov (.tmp 114), none, []⟩, ⟨(some 116), .fieldA 2 (.tmp 4), (some (115, false)), []⟩, ⟨(some 117), .load none (.tmp 116), (some (115, false)), []⟩, ⟨(some 118), .load (some 2) (.tmp 1), (some (115, false)), []⟩, ⟨(some 119), .fieldA 1 (.tmp 4), (some (115, false)), []⟩, ⟨(some 120), .load none (.tmp 119), (some (115, false)), []⟩, ⟨(some 121), .call (.fn 37) [(.tmp 118), (.tmp 120)], (some (115, false)), [31]⟩, ⟨(some 122), .bin .gtr .num (.tmp 117) (.tmp 121), (some (115, false)), []⟩, ⟨(some 123), .pick (.tmp 115) (.const (.bool true)) (.tmp 122), none, []⟩, ⟨(some 124), .mov (.tmp 123), none, []⟩, ⟨(some 125), .mov (.tmp 5), (some (124, false)), []⟩, ⟨(some 126), .bin .neq .num (.tmp 125) (.const (.int .i64 1)), (some (124, false)), []⟩, ⟨(some 127), .pick (.tmp 124) (.const (.bool true)) (.tmp 126), none, []⟩])
 (.cond (.tmp 127) (.seq (.region false [⟨(some 2), .mov (.const (.bool false)), none, []⟩])
 .ret)
 .skip))
 (.seq (.region false [⟨(some 129), .bin .eql .num (.tmp 83) (.const (.int .i64 2)), none, []⟩, ⟨(some 128), .mov (.tmp 129), none, []⟩])
 (.cond (.tmp 128) (.seq (.region true [⟨(some 130), .fieldA 1 (.tmp 4), none, []⟩, ⟨(some 131), .load none (.tmp 130), none, []⟩, ⟨(some 132), .bin .neq .num (.tmp 131) (.const (.int .i64 0)), none, []⟩, ⟨(some 133), .mov (.tmp 132), none, []⟩, ⟨(some 134), .fieldA 2 (.tmp 4), (some (133, false)), []⟩, ⟨(some 135), .load none (.tmp 134), (some (133, false)), []⟩, ⟨(some 136), .bin .neq .num (.tmp 135) (.const (.int .i64 0)), (some (133, false)), []⟩, ⟨(some 137), .pick (.tmp 133) (.const (.bool true)) (.tmp 136), none, []⟩, ⟨(some 138), .mov (.tmp 137), none, []⟩, ⟨(some 139), .fieldA 4 (.tmp 4), (some (138, false)), []⟩, ⟨(some 140), .load none (.tmp 139), (some (138, false)), []⟩, ⟨(some 141), .bin .neq .num (.tmp 140) (.const (.int .i64 1)), (some (138, false)), []⟩, ⟨(some 142), .mov (.tmp 141), (some (138, false)), []⟩, ⟨(some 143), .fieldA 4 (.tmp 4), (some (142, true)), []⟩, ⟨(some 144), .load none (.tmp 143), (some (142, true)), []⟩, ⟨(some 145), .bin .neq .num (.tmp 144) (.const (.int .i64 (-1))), (some (142, true)), []⟩, ⟨(some 146), .pick (.tmp 142) (.tmp 145) (.const (.bool false)), (some (138, false)), []⟩, ⟨(some 147), .pick (.tmp 138) (.const (.bool true)) (.tmp 146), none, []⟩, ⟨(some 148), .mov (.tmp 147), none, []⟩, ⟨(some 149), .fieldA 3 (.tmp 4), (some (148, false)), []⟩, ⟨(some 150), .load none (.tmp 149), (some (148, false)), []⟩, ⟨(some 151), .bin .lss .num (.tmp 150) (.const (.int .i64 1)), (some (148, false)), []⟩, ⟨(some 152), .pick (.tmp 148) (.const (.bool true)) (.tmp 151), none, []⟩, ⟨(some 153), .mov (.tmp 152), none, []⟩, ⟨(some 154), .fieldA 3 (.tmp 4), (some (153, false)), []⟩, ⟨(some 155), .load none (.tmp 154), (some (153, false)), []⟩, ⟨(some 156), .load (some 2) (.tmp 1), (some (153, false)), []⟩, ⟨(some 157), .call (.fn 13) [(.tmp 156)], (some (153, false)), [25]⟩, ⟨(some 158), .bin .quo .num (.tmp 157) (.const (.int .i64 2)), (some (153, false)), []⟩, ⟨(some 159), .bin .gtr .num (.tmp 155) (.tmp 158), (some (153, false)), []⟩, ⟨(some 160), .pick (.tmp 153) (.const (.bool true)) (.tmp 159), none, []⟩, ⟨(some 161), .mov (.tmp 160), none, []⟩, ⟨(some 162), .mov (.tmp 6), (some (161, false)), []⟩, ⟨(some 163), .bin .neq .num (.tmp 162) (.const (.int .i64 1)), (some (161, false)), []⟩, ⟨(some 164), .pick (.tmp 161) (.const (.bool true)) (.tmp 163), none, []⟩, ⟨(some 165), .mov (.tmp 164), none, []⟩, ⟨(some 166), .load (some 2) (.tmp 1), (some (165, false)), []⟩, ⟨(some 167), .fieldA 3 (.tmp 4), (some (165, false)), []⟩, ⟨(some 168), .load none (.tmp 167), (some (165, false)), []⟩, ⟨(some 169), .call (.fn 38) [(.tmp 166), (.tmp 168)], (some (165, false)), []⟩, ⟨(some 170), .bin .neq .num (.tmp 169) (.const (.int .i64 2)), (some (165, false)), []⟩, ⟨(some 171), .pick (.tmp 165) (.const (.bool true)) (.tmp 170), none, []⟩])
 (.cond (.tmp 171) (.seq (.region false [⟨(some 2), .mov (.const (.bool false)), none, []⟩])
 .ret)
 .skip))
 (.seq (.region false [⟨(some 2), .mov (.const (.bool false)), none, []⟩])
 .ret)))))))))))
 (.region false [⟨(some 14), .mov (.tmp 3), none, []⟩, ⟨(some 15), .bin .add .num (.tmp 14) (.const (.int .i64 1)), none, []⟩, ⟨(some 3), .mov (.tmp 15), none, []⟩]))))))
 (.seq (.region false [⟨(some 2), .mov (.const (.bool true)), none, []⟩])
 .ret)))⟩
theorem cf15 : cFn Tryz.prog Tryz.f15 = some af15 := by kernel_rfl
theorem gd15 : Go.AE.Good Tryz.prog (15, af15) := ⟨⟨_, Tryz.func15, cf15⟩, by kernel_rfl, by kernel_rfl, by kernel_rfl⟩
def af16 : AFn := ⟨52, [(2, none)], (.seq (.region false [⟨(some 1), .box (.tmp 0), none, []⟩, ⟨(some 2), .mov (.const .nilSl), none, []⟩])
 (.seq (.region false [⟨(some 3), .mov (.const .nilSl), none, []⟩])
 (.seq (.region false [⟨(some 9), .load (some 2) (.tmp 1), none, []⟩, ⟨(some 10), .call (.fn 39) [(.tmp 9)], none, []⟩, ⟨(some 4), .mov (.tmp 10), none, []⟩])
 (.seq (.region false [⟨(some 11), .fieldA 1 (.tmp 1), none, []⟩, ⟨(some 12), .load none (.tmp 11), none, []⟩, ⟨(some 13), .lenSl (.tmp 12), none, []⟩, ⟨(some 14), .bin .mul .num (.const (.int .i64 2)) (.tmp 13), none, []⟩, ⟨(some 15), .mov (.tmp 4), none, []⟩, ⟨(some 16), .lenSl (.tmp 15), none, []⟩, ⟨(some 17), .bin .mul .num (.const (.int .i64 2)) (.tmp 16), none, []⟩, ⟨(some 18), .bin .add .num (.tmp 14) (.tmp 17), none, []⟩, ⟨(some 19), .makeSl 1 1 [(.bool false)] (.tmp 18) (.tmp 18), none, []⟩, ⟨(some 5), .mov (.tmp 19), none, []⟩])
 (.seq (.seq (.region false [⟨(some 6), .mov (.const (.int .i64 0)), none, []⟩])
 (.block 0 (.loop (.seq (.seq (.region false [⟨(some 20), .mov (.tmp 6), none, []⟩, ⟨(some 21), .mov (.tmp 5), none, []⟩, ⟨(some 22), .lenSl (.tmp 21), none, []⟩, ⟨(some 23), .bin .lss .num (.tmp 20) (.tmp 22), none, []⟩])
 (.cond (.tmp 23) .skip
 (.exit 0)))
 (.seq (.block 1 (.seq (.seq (.region false [⟨(some 26), .mov (.tmp 5), none, []⟩, ⟨(some 27), .mov (.tmp 6), none, []⟩, ⟨(some 28), .idxA 1 (.tmp 26) (.tmp 27), none, []⟩, ⟨(some 29), .load none (.tmp 28), none, []⟩])
 (.cond (.tmp 29) (.exit 1)
 .skip))
 (.seq (.region false [⟨(some 7), .mov (.const .nilSl), none, []⟩])
 (.seq (.seq (.region false [⟨(some 30), .mov (.tmp 6), none, []⟩, ⟨(some 8), .mov (.tmp 30), none, []⟩])
 (.block 2 (.loop (.seq (.seq (.region false [⟨(some 31), .mov (.tmp 5), none, []⟩, ⟨(some 32), .mov (.tmp 8), none, []⟩, ⟨(some 33), .idxA 1 (.tmp 31) (.tmp 32), none, []⟩, ⟨(some 34), .load none (.tmp 33), none, []⟩, ⟨(some 35), .un .not (.tmp 34), none, []⟩])
 (.cond (.tmp 35) .skip
 (.exit 2)))
 (.seq (.block 3 (.seq (.region false [⟨(some 40), .mov (.tmp 5), none, []⟩, ⟨(some 41), .mov (.tmp 8), none, []⟩, ⟨(some 42), .idxA 1 (.tmp 40) (.tmp 41), none, []⟩, ⟨none, .store 1 (.tmp 42) (.const (.bool true)), none, []⟩])
 (.region false [⟨(some 43), .mov (.tmp 7), none, []⟩, ⟨(some 44), .mov (.tmp 8), none, []⟩, ⟨(some 45), .mkSl 1 1 [(.int .i64 0)] [(0, (.tmp 44))], none, []⟩, ⟨(some 46), .append 1 8 [(.int .i64 0)] (.tmp 43) (.tmp 45), none, []⟩, ⟨(some 7), .mov (.tmp 46), none, []⟩])))
 (.region false [⟨(some 36), .load (some 2) (.tmp 1), none, []⟩, ⟨(some 37), .mov (.tmp 4), none, []⟩, ⟨(some 38), .mov (.tmp 8), none, []⟩, ⟨(some 39), .call (.fn 40) [(.tmp 36), (.tmp 37), (.tmp 38)], none, []⟩, ⟨(some 8), .mov (.tmp 39), none, []⟩]))))))
 (.region false [⟨(some 47), .mov (.tmp 3), none, []⟩, ⟨(some 48), .mov (.tmp 7), none, []⟩, ⟨(some 49), .mkSl 1 1 [.nilSl] [(0, (.tmp 48))], none, []⟩, ⟨(some 50), .append 1 24 [.nilSl] (.tmp 47) (.tmp 49), none, []⟩, ⟨(some 3), .mov (.tmp 50), none, []⟩])))))
 (.region false [⟨(some 24), .mov (.tmp 6), none, []⟩, ⟨(some 25), .bin .add .num (.tmp 24) (.const (.int .i64 1)), none, []⟩, ⟨(some 6), .mov (.tmp 25), none, []⟩]))))))
 (.seq (.region false [⟨(some 51), .mov (.tmp 3), none, []⟩, ⟨(some 2), .mov (.tmp 51), none, []⟩])
 .ret))))))⟩
theorem cf16 : cFn Tryz.prog Tryz.f16 = some af16 := by kernel_rfl
theorem gd16 : Go.AE.Good Tryz.prog (16, af16) := ⟨⟨_, Tryz.func16, cf16⟩, by kernel_rfl, by kernel_rfl, by kernel_rfl⟩
def af17 : AFn := ⟨6, [(2, none)], (.seq (.region false [⟨(some 1), .box (.tmp 0), none, []⟩, ⟨(some 2), .mov (.const (.int .i64 0)), none, []⟩])
 (.seq (.region false [⟨(some 3), .load (some 2) (.tmp 1), none, []⟩, ⟨(some 4), .call (.fn 13) [(.tmp 3)], none, []⟩, ⟨(some 5), .bin .quo .num (.tmp 4) (.const (.int .i64 2)), none, []⟩, ⟨(some 2), .mov (.tmp 5), none, []⟩])
 .ret))⟩
theorem cf17 : cFn Tryz.prog Tryz.f17 = some af17 := by kernel_rfl
theorem gd17 : Go.AE.Good Tryz.prog (17, af17) := ⟨⟨_, Tryz.func17, cf17⟩, by kernel_rfl, by kernel_rfl, by kernel_rfl⟩
def af29 : AFn := ⟨48, [(2, none), (3, none)], (.seq (.region false [⟨(some 1), .box (.tmp 0), none, []⟩, ⟨(some 2), .mov (.const .nilSl), none, []⟩, ⟨(some 3), .mov (.const (.int .i64 0)), none, []⟩])
 (.seq (.region false [⟨(some 11), .load (some 2) (.tmp 1), none, []⟩, ⟨(some 12), .call (.fn 59) [(.tmp 11)], none, []⟩, ⟨(some 10), .mov (.tmp 12), none, []⟩, ⟨(some 13), .ext (.tmp 10) 0, none, []⟩, ⟨(some 14), .ext (.tmp 10) 1, none, []⟩, ⟨(some 4), .mov (.tmp 13), none, []⟩, ⟨(some 5), .mov (.tmp 14), none, []⟩])
 (.seq (.seq (.region false [⟨(some 15), .mov (.tmp 5), none, []⟩, ⟨(some 16), .bin .neq .num (.tmp 15) (.const (.int .i64 0)), none, []⟩])
 (.cond (.tmp 16) (.seq (.region false [⟨(some 17), .mov (.tmp 5), none, []⟩, ⟨(some 2), .mov (.const .nilSl), none, []⟩, ⟨(some 3), .mov (.tmp 17), none, []⟩])
 .ret)
 .skip))
 (.seq (.region false [⟨(some 6), .mov (.const .nilSl), none, []⟩])
 (.seq (.region false [⟨(some 18), .mov (.tmp 4), none, []⟩, ⟨(some 19), .nilChk (.tmp 18), none, []⟩, ⟨(some 20), .fieldA 0 (.tmp 19), none, []⟩, ⟨(some 21), .fieldA 1 (.tmp 20), none, []⟩, ⟨(some 22), .load none (.tmp 21), none, []⟩, ⟨(some 23), .lenSl (.tmp 22), none, []⟩, ⟨(some 24), .bin .mul .num (.const (.int .i64 2)) (.tmp 23), none, []⟩, ⟨(some 25), .makeSl 1 1 [(.bool false)] (.tmp 24) (.tmp 24), none, []⟩, ⟨(some 7), .mov (.tmp 25), none, []⟩])
 (.seq (.region false [⟨(some 26), .mov (.tmp 4), none, []⟩, ⟨(some 27), .call (.fn 60) [(.tmp 26)], none, []⟩, ⟨(some 8), .mov (.tmp 27), none, []⟩])
 (.seq (.seq (.region false [⟨(some 28), .mov (.tmp 7), none, []⟩, ⟨(some 29), .lenSl (.tmp 28), none, []⟩, ⟨(some 30), .mov (.const (.int .i64 0)), none, []⟩])
 (.block 0 (.loop (.seq (.region false [⟨(some 31), .bin .lss .num (.tmp 30) (.tmp 29), none, []⟩])
 (.seq (.cond (.tmp 31) .skip
 (.exit 0))
 (.seq (.block 1 (.seq (.region false [⟨(some 32), .mov (.tmp 30), none, []⟩, ⟨(some 9), .mov (.tmp 32), none, []⟩])
 (.seq (.region false [⟨(some 33), .mov (.tmp 7), none, []⟩, ⟨(some 34), .mov (.tmp 9), none, []⟩, ⟨(some 35), .idxA 1 (.tmp 33) (.tmp 34), none, []⟩, ⟨(some 36), .load none (.tmp 35), none, []⟩, ⟨(some 37), .un .not (.tmp 36), none, []⟩])
 (.cond (.tmp 37) (.region false [⟨(some 38), .mov (.tmp 6), none, []⟩, ⟨(some 39), .mov (.tmp 4), none, []⟩, ⟨(some 40), .mov (.tmp 9), none, []⟩, ⟨(some 41), .mov (.tmp 7), none, []⟩, ⟨(some 42), .mov (.tmp 8), none, []⟩, ⟨(some 43), .call (.fn 61) [(.tmp 39), (.tmp 40), (.tmp 41), (.tmp 42)], none, []⟩, ⟨(some 44), .mkSl 5 1 [(.bool false), .nilSl, .nilSl, .nilSl, (.bool false)] [(0, (.tmp 43))], none, []⟩, ⟨(some 45), .append 5 88 [(.bool false), .nilSl, .nilSl, .nilSl, (.bool false)] (.tmp 38) (.tmp 44), none, []⟩, ⟨(some 6), .mov (.tmp 45), none, []⟩])
 .skip))))
 (.region false [⟨(some 46), .bin .add .num (.tmp 30) (.const (.int .i64 1)), none, []⟩, ⟨(some 30), .mov (.tmp 46), none, []⟩])))))))
 (.seq (.region false [⟨(some 47), .mov (.tmp 6), none, []⟩, ⟨(some 2), .mov (.tmp 47), none, []⟩, ⟨(some 3), .mov (.const (.int .i64 0)), none, []⟩])
 .ret))))))))⟩
theorem cf29 : cFn Tryz.prog Tryz.f29 = some af29 := by kernel_rfl
theorem gd29 : Go.AE.Good Tryz.prog (29, af29) := ⟨⟨_, Tryz.func29, cf29⟩, by kernel_rfl, by kernel_rfl, by kernel_rfl⟩
def af37 : AFn := ⟨34, [(4, none)], (.seq (.region false [⟨(some 2), .box (.tmp 0), none, []⟩, ⟨(some 4), .mov (.const (.int .i64 0)), none, []⟩])
 (.seq (.region false [⟨(some 5), .mov (.const (.int .i64 0)), none, []⟩])
 (.seq (.seq (.region false [⟨(some 6), .mov (.const (.int .i64 0)), none, []⟩])
 (.block 0 (.loop (.seq (.seq (.region false [⟨(some 7), .mov (.tmp 6), none, []⟩, ⟨(some 8), .fieldA 1 (.tmp 2), none, []⟩, ⟨(some 9), .load none (.tmp 8), none, []⟩, ⟨(some 10), .lenSl (.tmp 9), none, []⟩, ⟨(some 11), .bin .lss .num (.tmp 7) (.tmp 10), none, []⟩])
 (.cond (.tmp 11) .skip
 (.exit 0)))
 (.seq (.block 1 (.seq (.region false [⟨(some 14), .fieldA 1 (.tmp 2), none, []⟩, ⟨(some 15), .load none (.tmp 14), none, []⟩, ⟨(some 16), .mov (.tmp 6), none, []⟩, ⟨(some 17), .idxA 6 (.tmp 15) (.tmp 16), none, []⟩, ⟨(some 18), .fieldA 0 (.tmp 17), none, []⟩, ⟨(some 19), .load none (.tmp 18), none, []⟩, ⟨(some 20), .bin .eql .num (.tmp 19) (.const (.int .i64 1)), none, []⟩, ⟨(some 21), .mov (.tmp 20), none, []⟩, ⟨(some 22), .fieldA 1 (.tmp 2), (some (21, true)), []⟩, ⟨(some 23), .load none (.tmp 22), (some (21, true)), []⟩, ⟨(some 24), .mov (.tmp 6), (some (21, true)), []⟩, ⟨(some 25), .idxA 6 (.tmp 23) (.tmp 24), (some (21, true)), []⟩, ⟨(some 26), .fieldA 1 (.tmp 25), (some (21, true)), []⟩, ⟨(some 27), .load none (.tmp 26), (some (21, true)), []⟩, ⟨(some 28), .mov (.tmp 1), (some (21, true)), []⟩, ⟨(some 29), .bin .eql .num (.tmp 27) (.tmp 28), (some (21, true)), []⟩, ⟨(some 30), .pick (.tmp 21) (.tmp 29) (.const (.bool false)), none, []⟩])
 (.cond (.tmp 30) (.region false [⟨(some 31), .mov (.tmp 5), none, []⟩, ⟨(some 32), .bin .add .num (.tmp 31) (.const (.int .i64 1)), none, []⟩, ⟨(some 5), .mov (.tmp 32), none, []⟩])
 .skip)))
 (.region false [⟨(some 12), .mov (.tmp 6), none, []⟩, ⟨(some 13), .bin .add .num (.tmp 12) (.const (.int .i64 1)), none, []⟩, ⟨(some 6), .mov (.tmp 13), none, []⟩]))))))
 (.seq (.region false [⟨(some 33), .mov (.tmp 5), none, []⟩, ⟨(some 4), .mov (.tmp 33), none, []⟩])
 .ret))))⟩
theorem cf37 : cFn Tryz.prog Tryz.f37 = some af37 := by kernel_rfl
theorem gd37 : Go.AE.Good Tryz.prog (37, af37) := ⟨⟨_, Tryz.func37, cf37⟩, by kernel_rfl, by kernel_rfl, by kernel_rfl⟩
def af38 : AFn := ⟨34, [(4, none)], (.seq (.region false [⟨(some 2), .box (.tmp 0), none, []⟩, ⟨(some 4), .mov (.const (.int .i64 0)), none, []⟩])
 (.seq (.region false [⟨(some 5), .mov (.const (.int .i64 0)), none, []⟩])
 (.seq (.seq (.region false [⟨(some 6), .mov (.const (.int .i64 0)), none, []⟩])
 (.block 0 (.loop (.seq (.seq (.region false [⟨(some 7), .mov (.tmp 6), none, []⟩, ⟨(some 8), .fieldA 1 (.tmp 2), none, []⟩, ⟨(some 9), .load none (.tmp 8), none, []⟩, ⟨(some 10), .lenSl (.tmp 9), none, []⟩, ⟨(some 11), .bin .lss .num (.tmp 7) (.tmp 10), none, []⟩])
 (.cond (.tmp 11) .skip
 (.exit 0)))
 (.seq (.block 1 (.seq (.region false [⟨(some 14), .fieldA 1 (.tmp 2), none, []⟩, ⟨(some 15), .load none (.tmp 14), none, []⟩, ⟨(some 16), .mov (.tmp 6), none, []⟩, ⟨(some 17), .idxA 6 (.tmp 15) (.tmp 16), none, []⟩, ⟨(some 18), .fieldA 0 (.tmp 17), none, []⟩, ⟨(some 19), .load none (.tmp 18), none, []⟩, ⟨(some 20), .bin .eql .num (.tmp 19) (.const (.int .i64 2)), none, []⟩, ⟨(some 21), .mov (.tmp 20), none, []⟩, ⟨(some 22), .fieldA 1 (.tmp 2), (some (21, true)), []⟩, ⟨(some 23), .load none (.tmp 22), (some (21, true)), []⟩, ⟨(some 24), .mov (.tmp 6), (some (21, true)), []⟩, ⟨(some 25), .idxA 6 (.tmp 23) (.tmp 24), (some (21, true)), []⟩, ⟨(some 26), .fieldA 3 (.tmp 25), (some (21, true)), []⟩, ⟨(some 27), .load none (.tmp 26), (some (21, true)), []⟩, ⟨(some 28), .mov (.tmp 1), (some (21, true)), []⟩, ⟨(some 29), .bin .eql .num (.tmp 27) (.tmp 28), (some (21, true)), []⟩, ⟨(some 30), .pick (.tmp 21) (.tmp 29) (.const (.bool false)), none, []⟩])
 (.cond (.tmp 30) (.region false [⟨(some 31), .mov (.tmp 5), none, []⟩, ⟨(some 32), .bin .add .num (.tmp 31) (.const (.int .i64 1)), none, []⟩, ⟨(some 5), .mov (.tmp 32), none, []⟩])
 .skip)))
 (.region false [⟨(some 12), .mov (.tmp 6), none, []⟩, ⟨(some 13), .bin .add .num (.tmp 12) (.const (.int .i64 1)), none, []⟩, ⟨(some 6), .mov (.tmp 13), none, []⟩]))))))
 (.seq (.region false [⟨(some 33), .mov (.tmp 5), none, []⟩, ⟨(some 4), .mov (.tmp 33), none, []⟩])
 .ret))))⟩
theorem cf38 : cFn Tryz.prog Tryz.f38 = some af38 := by kernel_rfl
theorem gd38 : Go.AE.Good Tryz.prog (38, af38) := ⟨⟨_, Tryz.func38, cf38⟩, by kernel_rfl, by kernel_rfl, by kernel_rfl⟩
def af39 : AFn := ⟨54, [(2, none)], (.seq (.region false [⟨(some 1), .box (.tmp 0), none, []⟩, ⟨(some 2), .mov (.const .nilSl), none, []⟩])
 (.seq (.region false [⟨(some 3), .mov (.const .nilSl), none, []⟩])
 (.seq (.seq (.region false [⟨(some 4), .mov (.const (.int .i64 0)), none, []⟩])
 (.block 0 (.loop (.seq (.seq (.region false [⟨(some 6), .mov (.tmp 4), none, []⟩, ⟨(some 7), .fieldA 1 (.tmp 1), none, []⟩, ⟨(some 8), .load none (.tmp 7), none, []⟩, ⟨(some 9), .lenSl (.tmp 8), none, []⟩, ⟨(some 10), .bin .lss .num (.tmp 6) (.tmp 9), none, []⟩])
 (.cond (.tmp 10) .skip
 (.exit 0)))
 (.seq (.block 1 (.seq (.seq (.region false [⟨(some 13), .fieldA 1 (.tmp 1), none, []⟩, ⟨(some 14), .load none (.tmp 13), none, []⟩, ⟨(some 15), .mov (.tmp 4), none, []⟩, ⟨(some 16), .idxA 6 (.tmp 14) (.tmp 15), none, []⟩, ⟨(some 17), .fieldA 0 (.tmp 16), none, []⟩, ⟨(some 18), .load none (.tmp 17), none, []⟩, ⟨(some 19), .bin .neq .num (.tmp 18) (.const (.int .i64 1)), none, []⟩])
 (.cond (.tmp 19) (.exit 1)
 .skip))
 (.seq (.region false [⟨(some 5), .mov (.const (.int .i64 0)), none, []⟩])
 (.seq (.block 2 (.loop (.seq (.seq (.region true [⟨(some 20), .mov (.tmp 5), none, []⟩, ⟨(some 21), .mov (.tmp 3), none, []⟩, ⟨(some 22), .lenSl (.tmp 21), none, []⟩, ⟨(some 23), .bin .lss .num (.tmp 20) (.tmp 22), none, []⟩, ⟨(some 24), .mov (.tmp 23), none, []⟩, ⟨(some 25), .fieldA 1 (.tmp 1), (some (24, true)), []⟩, ⟨(some 26), .load none (.tmp 25), (some (24, true)), []⟩, ⟨(some 27), .mov (.tmp 3), (some (24, true)), []⟩, ⟨(some 28), .mov (.tmp 5), (some (24, true)), []⟩, ⟨(some 29), .idxA 1 (.tmp 27) (.tmp 28), (some (24, true)), []⟩, ⟨(some 30), .load none (.tmp 29), (some (24, true)), []⟩, ⟨(some 31), .idxA 6 (.tmp 26) (.tmp 30), (some (24, true)), []⟩, ⟨(some 32), .load (some 6) (.tmp 31), (some (24, true)), []⟩, ⟨(some 33), .fieldA 1 (.tmp 1), (some (24, true)), []⟩, ⟨(some 34), .load none (.tmp 33), (some (24, true)), []⟩, ⟨(some 35), .mov (.tmp 4), (some (24, true)), []⟩, ⟨(some 36), .idxA 6 (.tmp 34) (.tmp 35), (some (24, true)), []⟩, ⟨(some 37), .load (some 6) (.tmp 36), (some (24, true)), []⟩, ⟨(some 38), .call (.fn 66) [(.tmp 32), (.tmp 37)], (some (24, true)), []⟩, ⟨(some 39), .pick (.tmp 24) (.tmp 38) (.const (.bool false)), none, []⟩])
 (.cond (.tmp 39) .skip
 (.exit 2)))
 (.block 3 (.region false [⟨(some 40), .mov (.tmp 5), none, []⟩, ⟨(some 41), .bin .add .num (.tmp 40) (.const (.int .i64 1)), none, []⟩, ⟨(some 5), .mov (.tmp 41), none, []⟩])))))
 (.region true [⟨(some 42), .mov (.tmp 3), none, []⟩, ⟨(some 43), .mov (.tmp 5), none, []⟩, ⟨(some 44), .slSl 1 (.tmp 42) none (some (.tmp 43)) none, none, []⟩, ⟨(some 45), .append 1 8 [(.int .i64 0)] (.const .nilSl) (.tmp 44), none, []⟩, ⟨(some 46), .mov (.tmp 4), none, []⟩, ⟨(some 47), .mkSl 1 1 [(.int .i64 0)] [(0, (.tmp 46))], none, [2, 3]⟩, ⟨(some 48), .append 1 8 [(.int .i64 0)] (.tmp 45) (.tmp 47), none, []⟩, ⟨(some 49), .mov (.tmp 3), none, []⟩, ⟨(some 50), .mov (.tmp 5), none, []⟩, ⟨(some 51), .slSl 1 (.tmp 49) (some (.tmp 50)) none none, none, [3, 5, 6]⟩, ⟨(some 52), .append 1 8 [(.int .i64 0)] (.tmp 48) (.tmp 51), none, []⟩, ⟨(some 3), .mov (.tmp 52), none, []⟩])))))
 (.region false [⟨(some 11), .mov (.tmp 4), none, []⟩, ⟨(some 12), .bin .add .num (.tmp 11) (.const (.int .i64 1)), none, []⟩, ⟨(some 4), .mov (.tmp 12), none, []⟩]))))))
 (.seq (.region false [⟨(some 53), .mov (.tmp 3), none, []⟩, ⟨(some 2), .mov (.tmp 53), none, []⟩])
 .ret))))⟩
theorem cf39 : cFn Tryz.prog Tryz.f39 = some af39 := by kernel_rfl
theorem gd39 : Go.AE.Good Tryz.prog (39, af39) := ⟨⟨_, Tryz.func39, cf39⟩, by kernel_rfl, by kernel_rfl, by kernel_rfl⟩
def af40 : AFn := ⟨114, [(6, none)], (.seq (.region false [⟨(some 3), .box (.tmp 0), none, []⟩, ⟨(some 6), .mov (.const (.int .i64 0)), none, []⟩])
 (.seq (.region false [⟨(some 17), .fieldA 1 (.tmp 3), none, []⟩, ⟨(some 18), .load none (.tmp 17), none, []⟩, ⟨(some 19), .lenSl (.tmp 18), none, []⟩, ⟨(some 20), .mov (.tmp 1), none, []⟩, ⟨(some 21), .lenSl (.tmp 20), none, []⟩, ⟨(some 7), .mov (.tmp 19), none, []⟩, ⟨(some 8), .mov (.tmp 21), none, []⟩])
 (.seq (.seq (.region false [⟨(some 22), .mov (.tmp 2), none, []⟩, ⟨(some 23), .mov (.tmp 7), none, []⟩, ⟨(some 24), .bin .mul .num (.const (.int .i64 2)) (.tmp 23), none, []⟩, ⟨(some 25), .bin .geq .num (.tmp 22) (.tmp 24), none, []⟩])
 (.cond (.tmp 25) (.seq (.region false [⟨(some 26), .mov (.tmp 2), none, []⟩, ⟨(some 27), .mov (.tmp 7), none, []⟩, ⟨(some 28), .bin .mul .num (.const (.int .i64 2)) (.tmp 27), none, []⟩, ⟨(some 29), .bin .sub .num (.tmp 26) (.tmp 28), none, []⟩, ⟨(some 30), .bin .quo .num (.tmp 29) (.const (.int .i64 2)), none, []⟩, ⟨(some 9), .mov (.tmp 30), none, []⟩])
 (.seq (.seq (.region false [⟨(some 31), .mov (.tmp 2), none, []⟩, ⟨(some 32), .bin .rem .num (.tmp 31) (.const (.int .i64 2)), none, []⟩, ⟨(some 33), .bin .eql .num (.tmp 32) (.const (.int .i64 0)), none, []⟩])
 (.cond (.tmp 33) (.seq (.region false [⟨(some 34), .mov (.tmp 1), none, []⟩, ⟨(some 35), .mov (.tmp 9), none, []⟩, ⟨(some 36), .bin .add .num (.tmp 35) (.const (.int .i64 1)), none, []⟩, ⟨(some 37), .mov (.tmp 8), none, []⟩, ⟨(some 38), .bin .rem .num (.tmp 36) (.tmp 37), none, []⟩, ⟨(some 39), .idxA 1 (.tmp 34) (.tmp 38), none, []⟩, ⟨(some 40), .load none (.tmp 39), none, []⟩, ⟨(some 10), .mov (.tmp 40), none, []⟩])
 (.seq (.region true [⟨(some 41), .load (some 2) (.tmp 3), none, []⟩, ⟨(some 42), .mov (.tmp 10), none, []⟩, ⟨(some 43), .load (some 2) (.tmp 3), none, []⟩, ⟨(some 44), .mov (.tmp 10), none, []⟩, ⟨(some 45), .call (.fn 68) [(.tmp 43), (.tmp 44)], none, [0]⟩, ⟨(some 46), .un .not (.tmp 45), none, []⟩, ⟨(some 47), .call (.fn 67) [(.tmp 41), (.tmp 42), (.tmp 46)], none, []⟩, ⟨(some 6), .mov (.tmp 47), none, []⟩])
 .ret))
 .skip))
 (.seq (.region false [⟨(some 48), .mov (.tmp 1), none, []⟩, ⟨(some 49), .mov (.tmp 9), none, []⟩, ⟨(some 50), .idxA 1 (.tmp 48) (.tmp 49), none, []⟩, ⟨(some 51), .load none (.tmp 50), none, []⟩, ⟨(some 11), .mov (.tmp 51), none, []⟩])
 (.seq (.region true [⟨(some 52), .load (some 2) (.tmp 3), none, []⟩, ⟨(some 53), .mov (.tmp 11), none, []⟩, ⟨(some 54), .load (some 2) (.tmp 3), none, []⟩, ⟨(some 55), .mov (.tmp 11), none, []⟩, ⟨(some 56), .call (.fn 68) [(.tmp 54), (.tmp 55)], none, [0]⟩, ⟨(some 57), .call (.fn 67) [(.tmp 52), (.tmp 53), (.tmp 56)], none, []⟩, ⟨(some 6), .mov (.tmp 57), none, []⟩])
 .ret))))
 .skip))
 (.seq (.region false [⟨(some 58), .mov (.tmp 2), none, []⟩, ⟨(some 59), .bin .rem .num (.tmp 58) (.const (.int .i64 2)), none, []⟩, ⟨(some 60), .bin .eql .num (.tmp 59) (.const (.int .i64 0)), none, []⟩, ⟨(some 12), .mov (.tmp 60), none, []⟩])
 (.seq (.region false [⟨(some 61), .mov (.tmp 2), none, []⟩, ⟨(some 62), .bin .quo .num (.tmp 61) (.const (.int .i64 2)), none, []⟩, ⟨(some 13), .mov (.tmp 62), none, []⟩])
 (.seq (.seq (.region false [⟨(some 63), .mov (.tmp 12), none, []⟩])
 (.cond (.tmp 63) (.region false [⟨(some 64), .mov (.tmp 13), none, []⟩, ⟨(some 65), .bin .add .num (.tmp 64) (.const (.int .i64 1)), none, []⟩, ⟨(some 66), .mov (.tmp 7), none, []⟩, ⟨(some 67), .bin .rem .num (.tmp 65) (.tmp 66), none, []⟩, ⟨(some 13), .mov (.tmp 67), none, []⟩])
 .skip))
 (.seq (.region false [⟨(some 68), .fieldA 1 (.tmp 3), none, []⟩, ⟨(some 69), .load none (.tmp 68), none, []⟩, ⟨(some 70), .mov (.tmp 13), none, []⟩, ⟨(some 71), .idxA 6 (.tmp 69) (.tmp 70), none, []⟩, ⟨(some 72), .load (some 6) (.tmp 71), none, []⟩, ⟨(some 14), .alloc [(.int .i64 0), (.int .i64 0), (.int .i64 0), (.int .i64 0), (.int .i64 0), (.bool false)], none, []⟩, ⟨none, .store 6 (.tmp 14) (.tmp 72), none, []⟩])
 (.seq (.seq (.region false [⟨(some 73), .fieldA 0 (.tmp 14), none, []⟩, ⟨(some 74), .load none (.tmp 73), none, []⟩, ⟨(some 75), .bin .eql .num (.tmp 74) (.const (.int .i64 2)), none, []⟩])
 (.cond (.tmp 75) (.seq (.region false [⟨(some 76), .fieldA 5 (.tmp 14), none, []⟩, ⟨(some 77), .load none (.tmp 76), none, []⟩, ⟨(some 78), .fieldA 4 (.tmp 14), none, []⟩, ⟨(some 79), .load none (.tmp 78), none, []⟩, ⟨(some 80), .bin .eql .num (.tmp 79) (.const (.int .i64 1)), none, []⟩, ⟨(some 81), .bin .eql .bool (.tmp 77) (.tmp 80), none, []⟩, ⟨(some 15), .mov (.tmp 81), none, []⟩])
 (.seq (.region true [⟨(some 82), .load (some 2) (.tmp 3), none, []⟩, ⟨(some 83), .load (some 2) (.tmp 3), none, []⟩, ⟨(some 84), .mov (.tmp 13), none, []⟩, ⟨(some 85), .call (.fn 69) [(.tmp 83), (.tmp 84)], none, [0]⟩, ⟨(some 86), .mov (.tmp 12), none, []⟩, ⟨(some 87), .mov (.tmp 15), none, []⟩, ⟨(some 88), .bin .eql .bool (.tmp 86) (.tmp 87), none, []⟩, ⟨(some 89), .call (.fn 67) [(.tmp 82), (.tmp 85), (.tmp 88)], none, []⟩, ⟨(some 6), .mov (.tmp 89), none, []⟩])
 .ret))
 .skip))
 (.seq (.region false [⟨(some 90), .mov (.tmp 1), none, []⟩, ⟨(some 91), .mov (.tmp 13), none, []⟩, ⟨(some 92), .call (.fn 70) [(.tmp 90), (.tmp 91)], none, []⟩, ⟨(some 16), .mov (.tmp 92), none, []⟩])
 (.seq (.seq (.region false [⟨(some 93), .load (some 2) (.tmp 3), none, []⟩, ⟨(some 94), .mov (.tmp 13), none, []⟩, ⟨(some 95), .call (.fn 68) [(.tmp 93), (.tmp 94)], none, []⟩, ⟨(some 96), .mov (.tmp 12), none, []⟩, ⟨(some 97), .bin .eql .bool (.tmp 95) (.tmp 96), none, []⟩])
 (.cond (.tmp 97) (.seq (.region false [⟨(some 98), .mov (.tmp 7), none, []⟩, ⟨(some 99), .bin .mul .num (.const (.int .i64 2)) (.tmp 98), none, []⟩, ⟨(some 100), .mov (.tmp 16), none, []⟩, ⟨(some 101), .bin .mul .num (.const (.int .i64 2)) (.tmp 100), none, []⟩, ⟨(some 102), .bin .add .num (.tmp 99) (.tmp 101), none, []⟩, ⟨(some 6), .mov (.tmp 102), none, []⟩])
 .ret)
 .skip))
 (.seq (.region false [⟨(some 103), .mov (.tmp 7), none, []⟩, ⟨(some 104), .bin .mul .num (.const (.int .i64 2)) (.tmp 103), none, []⟩, ⟨(some 105), .mov (.tmp 16), none, []⟩, ⟨(some 106), .mov (.tmp 8), none, []⟩, ⟨(some 107), .bin .add .num (.tmp 105) (.tmp 106), none, []⟩, ⟨(some 108), .bin .sub .num (.tmp 107) (.const (.int .i64 1)), none, []⟩, ⟨(some 109), .mov (.tmp 8), none, []⟩, ⟨(some 110), .bin .rem .num (.tmp 108) (.tmp 109), none, []⟩, ⟨(some 111), .bin .mul .num (.const (.int .i64 2)) (.tmp 110), none, []⟩, ⟨(some 112), .bin .add .num (.tmp 104) (.tmp 111), none, []⟩, ⟨(some 113), .bin .add .num (.tmp 112) (.const (.int .i64 1)), none, []⟩, ⟨(some 6), .mov (.tmp 113), none, []⟩])
 .ret)))))))))))⟩
theorem cf40 : cFn Tryz.prog Tryz.f40 = some af40 := by kernel_rfl
theorem gd40 : Go.AE.Good Tryz.prog (40, af40) := ⟨⟨_, Tryz.func40, cf40⟩, by kernel_rfl, by kernel_rfl, by kernel_rfl⟩
def af66 : AFn := ⟨24, [(4, none)], (.seq (.region false [⟨(some 2), .box (.tmp 0), none, []⟩, ⟨(some 3), .box (.tmp 1), none, []⟩, ⟨(some 4), .mov (.const (.bool false)), none, []⟩])
 (.seq (.region false [⟨(some 5), .fieldA 1 (.tmp 2), none, []⟩, ⟨(some 6), .load none (.tmp 5), none, []⟩, ⟨(some 7), .fieldA 1 (.tmp 3), none, []⟩, ⟨(some 8), .load none (.tmp 7), none, []⟩, ⟨(some 9), .bin .lss .num (.tmp 6) (.tmp 8), none, []⟩, ⟨(some 10), .mov (.tmp 9), none, []⟩, ⟨(some 11), .fieldA 1 (.tmp 2), (some (10, false)), []⟩, ⟨(some 12), .load none (.tmp 11), (some (10, false)), []⟩, ⟨(some 13), .fieldA 1 (.tmp 3), (some (10, false)), []⟩, ⟨(some 14), .load none (.tmp 13), (some (10, false)), []⟩, ⟨(some 15), .bin .eql .num (.tmp 12) (.tmp 14), (some (10, false)), []⟩, ⟨(some 16), .mov (.tmp 15), (some (10, false)), []⟩, ⟨(some 17), .fieldA 2 (.tmp 2), (some (16, true)), []⟩, ⟨(some 18), .load none (.tmp 17), (some (16, true)), []⟩, ⟨(some 19), .fieldA 2 (.tmp 3), (some (16, true)), []⟩, ⟨(some 20), .load none (.tmp 19), (some (16, true)), []⟩, ⟨(some 21), .bin .lss .num (.tmp 18) (.tmp 20), (some (16, true)), []⟩, ⟨(some 22), .pick (.tmp 16) (.tmp 21) (.const (.bool false)), (some (10, false)), []⟩, ⟨(some 23), .pick (.tmp 10) (.const (.bool true)) (.tmp 22), none, []⟩, ⟨(some 4), .mov (.tmp 23), none, []⟩])
 .ret))⟩
theorem cf66 : cFn Tryz.prog Tryz.f66 = some af66 := by kernel_rfl
theorem gd66 : Go.AE.Good Tryz.prog (66, af66) := ⟨⟨_, Tryz.func66, cf66⟩, by kernel_rfl, by kernel_rfl, by kernel_rfl⟩
def af67 : AFn := ⟨22, [(6, none)], (.seq (.region false [⟨(some 3), .box (.tmp 0), none, []⟩, ⟨(some 6), .mov (.const (.int .i64 0)), none, []⟩])
 (.seq (.region false [⟨(some 8), .fieldA 1 (.tmp 3), none, []⟩, ⟨(some 9), .load none (.tmp 8), none, []⟩, ⟨(some 10), .lenSl (.tmp 9), none, []⟩, ⟨(some 7), .mov (.tmp 10), none, []⟩])
 (.seq (.seq (.region false [⟨(some 11), .mov (.tmp 2), none, []⟩])
 (.cond (.tmp 11) (.seq (.region false [⟨(some 12), .mov (.tmp 1), none, []⟩, ⟨(some 13), .bin .mul .num (.const (.int .i64 2)) (.tmp 12), none, []⟩, ⟨(some 6), .mov (.tmp 13), none, []⟩])
 .ret)
 .skip))
 (.seq (.region false [⟨(some 14), .mov (.tmp 1), none, []⟩, ⟨(some 15), .mov (.tmp 7), none, []⟩, ⟨(some 16), .bin .add .num (.tmp 14) (.tmp 15), none, []⟩, ⟨(some 17), .bin .sub .num (.tmp 16) (.const (.int .i64 1)), none, []⟩, ⟨(some 18), .mov (.tmp 7), none, []⟩, ⟨(some 19), .bin .rem .num (.tmp 17) (.tmp 18), none, []⟩, ⟨(some 20), .bin .mul .num (.const (.int .i64 2)) (.tmp 19), none, []⟩, ⟨(some 21), .bin .add .num (.tmp 20) (.const (.int .i64 1)), none, []⟩, ⟨(some 6), .mov (.tmp 21), none, []⟩])
 .ret))))⟩
theorem cf67 : cFn Tryz.prog Tryz.f67 = some af67 := by kernel_rfl
theorem gd67 : Go.AE.Good Tryz.prog (67, af67) := ⟨⟨_, Tryz.func67, cf67⟩, by kernel_rfl, by kernel_rfl, by kernel_rfl⟩
def af69 : AFn := ⟨42, [(4, none)], (.seq (.region false [⟨(some 2), .box (.tmp 0), none, []⟩, ⟨(some 4), .mov (.const (.int .i64 0)), none, []⟩])
 (.seq (.seq (.region false [⟨(some 5), .mov (.const (.int .i64 0)), none, []⟩])
 (.block 0 (.loop (.seq (.seq (.region false [⟨(some 6), .mov (.tmp 5), none, []⟩, ⟨(some 7), .fieldA 1 (.tmp 2), none, []⟩, ⟨(some 8), .load none (.tmp 7), none, []⟩, ⟨(some 9), .lenSl (.tmp 8), none, []⟩, ⟨(some 10), .bin .lss .num (.tmp 6) (.tmp 9), none, []⟩])
 (.cond (.tmp 10) .skip
 (.exit 0)))
 (.seq (.block 1 (.seq (.region true [⟨(some 13), .mov (.tmp 5), none, []⟩, ⟨(some 14), .mov (.tmp 1), none, []⟩, ⟨(some 15), .bin .neq .num (.tmp 13) (.tmp 14), none, []⟩, ⟨(some 16), .mov (.tmp 15), none, []⟩, ⟨(some 17), .fieldA 1 (.tmp 2), (some (16, true)), []⟩, ⟨(some 18), .load none (.tmp 17), (some (16, true)), []⟩, ⟨(some 19), .mov (.tmp 5), (some (16, true)), []⟩, ⟨(some 20), .idxA 6 (.tmp 18) (.tmp 19), (some (16, true)), []⟩, ⟨(some 21), .fieldA 0 (.tmp 20), (some (16, true)), []⟩, ⟨(some 22), .load none (.tmp 21), (some (16, true)), []⟩, ⟨(some 23), .bin .eql .num (.tmp 22) (.const (.int .i64 2)), (some (16, true)), []⟩, ⟨(some 24), .pick (.tmp 16) (.tmp 23) (.const (.bool false)), none, []⟩, ⟨(some 25), .mov (.tmp 24), none, []⟩, ⟨(some 26), .fieldA 1 (.tmp 2), (some (25, true)), []⟩, ⟨(some 27), .load none (.tmp 26), (some (25, true)), []⟩, ⟨(some 28), .mov (.tmp 5), (some (25, true)), []⟩, ⟨(some 29), .idxA 6 (.tmp 27) (.tmp 28), (some (25, true)), []⟩, ⟨(some 30), .fieldA 3 (.tmp 29), (some (25, true)), []⟩, ⟨(some 31), .load none (.tmp 30), (some (25, true)), []⟩, ⟨(some 32), .fieldA 1 (.tmp 2), (some (25, true)), []⟩, ⟨(some 33), .load none (.tmp 32), (some (25, true)), []⟩, ⟨(some 34), .mov (.tmp 1), (some (25, true)), []⟩, ⟨(some 35), .idxA 6 (.tmp 33) (.tmp 34), (some (25, true)), []⟩, ⟨(some 36), .fieldA 3 (.tmp 35), (some (25, true)), []⟩, ⟨(some 37), .load none (.tmp 36), (some (25, true)), []⟩, ⟨(some 38), .bin .eql .num (.tmp 31) (.tmp 37), (some (25, true)), []⟩, ⟨(some 39), .pick (.tmp 25) (.tmp 38) (.const (.bool false)), none, []⟩])
 (.cond (.tmp 39) (.seq (.region false [⟨(some 40), .mov (.tmp 5), none, []⟩, ⟨(some 4), .mov (.tmp 40), none, []⟩])
 .ret)
 .skip)))
 (.region false [⟨(some 11), .mov (.tmp 5), none, []⟩, ⟨(some 12), .bin .add .num (.tmp 11) (.const (.int .i64 1)), none, []⟩, ⟨(some 5), .mov (.tmp 12), none, []⟩]))))))
 (.seq (.region false [⟨(some 41), .mov (.tmp 1), none, []⟩, ⟨(some 4), .mov (.tmp 41), none, []⟩])
 .ret)))⟩
theorem cf69 : cFn Tryz.prog Tryz.f69 = some af69 := by kernel_rfl
theorem gd69 : Go.AE.Good Tryz.prog (69, af69) := ⟨⟨_, Tryz.func69, cf69⟩, by kernel_rfl, by kernel_rfl, by kernel_rfl⟩
def af70 : AFn := ⟨19, [(4, none)], (.seq (.region false [⟨(some 4), .mov (.const (.int .i64 0)), none, []⟩])
 (.seq (.seq (.region false [⟨(some 5), .mov (.const (.int .i64 0)), none, []⟩])
 (.block 0 (.loop (.seq (.seq (.region false [⟨(some 6), .mov (.tmp 5), none, []⟩, ⟨(some 7), .mov (.tmp 0), none, []⟩, ⟨(some 8), .lenSl (.tmp 7), none, []⟩, ⟨(some 9), .bin .lss .num (.tmp 6) (.tmp 8), none, []⟩])
 (.cond (.tmp 9) .skip
 (.exit 0)))
 (.seq (.block 1 (.seq (.region false [⟨(some 12), .mov (.tmp 0), none, []⟩, ⟨(some 13), .mov (.tmp 5), none, []⟩, ⟨(some 14), .idxA 1 (.tmp 12) (.tmp 13), none, []⟩, ⟨(some 15), .load none (.tmp 14), none, []⟩, ⟨(some 16), .mov (.tmp 1), none, []⟩, ⟨(some 17), .bin .eql .num (.tmp 15) (.tmp 16), none, []⟩])
 (.cond (.tmp 17) (.seq (.region false [⟨(some 18), .mov (.tmp 5), none, []⟩, ⟨(some 4), .mov (.tmp 18), none, []⟩])
 .ret)
 .skip)))
 (.region false [⟨(some 10), .mov (.tmp 5), none, []⟩, ⟨(some 11), .bin .add .num (.tmp 10) (.const (.int .i64 1)), none, []⟩, ⟨(some 5), .mov (.tmp 11), none, []⟩]))))))
 (.seq (.region false [⟨(some 4), .mov (.const (.int .i64 (-1))), none, []⟩])
 .ret)))⟩
theorem cf70 : cFn Tryz.prog Tryz.f70 = some af70 := by kernel_rfl
theorem gd70 : Go.AE.Good Tryz.prog (70, af70) := ⟨⟨_, Tryz.func70, cf70⟩, by kernel_rfl, by kernel_rfl, by kernel_rfl⟩

end Go.Known
end


