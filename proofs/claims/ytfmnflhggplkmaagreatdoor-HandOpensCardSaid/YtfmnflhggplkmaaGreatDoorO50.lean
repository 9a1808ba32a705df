/- Part 50 of the proof: Ox6, Ox7, Ox8. -/
import Derived.Test.YtfmnflhggplkmaaGreatDoorO41
import Derived.Test.YtfmnflhggplkmaaGreatDoorO43
set_option linter.all false
section
namespace Go.Known
open Go Go.AE Go.Proofs
def mm86:Memo:=⟨17,[(.agg [(.int .i64 1),(.bool false),(.int .i64 0)])],(.str [76,48])⟩
theorem mo86:mm86.Ok Tryz.prog:=known_of (l:=[]) trivial mm86 (by kernel_rfl)
def mm90:Memo:=⟨17,[(.agg [(.int .i64 1),(.bool true),(.int .i64 1)])],(.str [82,49])⟩
theorem mo90:mm90.Ok Tryz.prog:=known_of (l:=[]) trivial mm90 (by kernel_rfl)
def mm99:Memo:=⟨17,[(.agg [(.int .i64 1),(.bool true),(.int .i64 5)])],(.str [82,53])⟩
theorem mo99:mm99.Ok Tryz.prog:=known_of (l:=[]) trivial mm99 (by kernel_rfl)
def mm121:Memo:=⟨66,[ko22,(.int .i64 2)],(.int .i64 3)⟩
theorem mo121:mm121.Ok Tryz.prog:=known_of (l:=[]) trivial mm121 (by kernel_rfl)
def mm171:Memo:=⟨66,[ko20,(.int .i64 9)],(.int .i64 7)⟩
theorem mo171:mm171.Ok Tryz.prog:=known_of (l:=[]) trivial mm171 (by kernel_rfl)
def mm180:Memo:=⟨77,[ko55],(.tuple [(.imm [[(.bool false),(.imm [[(.int .i64 0)]]),ko159,(.imm [[(.int .i64 1)]]),(.bool false)],[(.bool false),ko143,(.imm [[(.int .i64 0),(.int .i64 0)],[(.int .i64 20),(.int .i64 0)],[(.int .i64 19),(.int .i64 0)],[(.int .i64 18),(.int .i64 0)],[(.int .i64 17),(.int .i64 0)],[(.int .i64 16),(.int .i64 0)],[(.int .i64 15),(.int .i64 0)],[(.int .i64 14),(.int .i64 0)],[(.int .i64 13),(.int .i64 0)],[(.int .i64 12),(.int .i64 0)],[(.int .i64 11),(.int .i64 0)],[(.int .i64 10),(.int .i64 1)],[(.int .i64 9),(.int .i64 2)],[(.int .i64 9),(.int .i64 0)],[(.int .i64 8),(.int .i64 0)],[(.int .i64 7),(.int .i64 0)],[(.int .i64 6),(.int .i64 1)],[(.int .i64 5),(.int .i64 1)],[(.int .i64 4),(.int .i64 0)],[(.int .i64 3),(.int .i64 0)],[(.int .i64 2),(.int .i64 0)],[(.int .i64 1),(.int .i64 1)]]),ko111,(.bool true)],[(.bool true),ko175,ko121,(.imm [[(.int .i64 10)],[(.int .i64 1)]]),(.bool false)],[(.bool true),ko176,ko123,(.imm [[(.int .i64 2)],[(.int .i64 3)],[(.int .i64 4)]]),(.bool false)],[(.bool true),(.imm [[(.int .i64 4)],[(.int .i64 23)]]),(.imm [[(.int .i64 9),(.int .i64 2)]]),.nilSl,(.bool false)],[(.bool true),(.imm [[(.int .i64 5)],[(.int .i64 21)],[(.int .i64 9)]]),(.imm [[(.int .i64 9),(.int .i64 1)]]),.nilSl,(.bool false)],[(.bool false),(.imm [[(.int .i64 7)]]),(.imm [[(.int .i64 9),(.int .i64 1)]]),.nilSl,(.bool false)],[(.bool true),(.imm [[(.int .i64 8)],[(.int .i64 19)]]),ko124,(.imm [[(.int .i64 7)],[(.int .i64 8)],[(.int .i64 9)]]),(.bool false)],[(.bool true),ko171,ko125,(.imm [[(.int .i64 5)],[(.int .i64 6)]]),(.bool false)],[(.bool false),(.imm [[(.int .i64 12)]]),ko160,(.imm [[(.int .i64 5)]]),(.bool false)],[(.bool true),(.imm [[(.int .i64 15)]]),(.imm [[(.int .i64 5),(.int .i64 1)]]),.nilSl,(.bool false)],[(.bool false),(.imm [[(.int .i64 16)]]),ko161,(.imm [[(.int .i64 6)]]),(.bool false)],[(.bool false),(.imm [[(.int .i64 24)]]),ko157,(.imm [[(.int .i64 10)]]),(.bool false)],[(.bool true),(.imm [[(.int .i64 27)]]),ko99,ko119,(.bool true)]]),(.int .i64 0)])⟩
theorem mo180:mm180.Ok Tryz.prog:=known_of (l:=[]) trivial mm180 (by kernel_rfl)
def mm183:Memo:=⟨39,[ko56],(.int .i64 0)⟩
theorem mo183:mm183.Ok Tryz.prog:=known_of (l:=[]) trivial mm183 (by kernel_rfl)
def mm249:Memo:=⟨77,[ko75],(.tuple [ko12,(.int .i64 0)])⟩
theorem mo249:mm249.Ok Tryz.prog:=known_of (l:=[]) trivial mm249 (by kernel_rfl)
def mm306:Memo:=⟨38,[ko87,(.int .i64 5)],(.imm [[(.int .i64 2),(.int .i64 3)]])⟩
theorem mo306:mm306.Ok Tryz.prog:=known_of (l:=[]) trivial mm306 (by kernel_rfl)
def mm315:Memo:=⟨65,[ko6,(.int .i64 5),(.bool true)],(.int .i64 2)⟩
theorem mo315:mm315.Ok Tryz.prog:=known_of (l:=[]) trivial mm315 (by kernel_rfl)
def mm322:Memo:=⟨77,[ko63],(.tuple [(.imm [[(.bool false),(.imm [[(.int .i64 0)]]),ko159,(.imm [[(.int .i64 1)]]),(.bool false)],[(.bool false),ko143,(.imm [[(.int .i64 0),(.int .i64 0)],[(.int .i64 40),(.int .i64 0)],[(.int .i64 39),(.int .i64 0)],[(.int .i64 38),(.int .i64 0)],[(.int .i64 37),(.int .i64 0)],[(.int .i64 36),(.int .i64 0)],[(.int .i64 35),(.int .i64 0)],[(.int .i64 34),(.int .i64 0)],[(.int .i64 33),(.int .i64 0)],[(.int .i64 32),(.int .i64 0)],[(.int .i64 31),(.int .i64 0)],[(.int .i64 30),(.int .i64 0)],[(.int .i64 29),(.int .i64 0)],[(.int .i64 28),(.int .i64 0)],[(.int .i64 27),(.int .i64 0)],[(.int .i64 26),(.int .i64 0)],[(.int .i64 25),(.int .i64 0)],[(.int .i64 24),(.int .i64 0)],[(.int .i64 23),(.int .i64 0)],[(.int .i64 22),(.int .i64 0)],[(.int .i64 21),(.int .i64 0)],[(.int .i64 20),(.int .i64 0)],[(.int .i64 19),(.int .i64 0)],[(.int .i64 18),(.int .i64 0)],[(.int .i64 17),(.int .i64 0)],[(.int .i64 16),(.int .i64 0)],[(.int .i64 15),(.int .i64 0)],[(.int .i64 14),(.int .i64 0)],[(.int .i64 13),(.int .i64 0)],[(.int .i64 12),(.int .i64 0)],[(.int .i64 11),(.int .i64 0)],[(.int .i64 10),(.int .i64 1)],[(.int .i64 9),(.int .i64 2)],[(.int .i64 9),(.int .i64 0)],[(.int .i64 8),(.int .i64 0)],[(.int .i64 7),(.int .i64 0)],[(.int .i64 6),(.int .i64 1)],[(.int .i64 5),(.int .i64 1)],[(.int .i64 4),(.int .i64 0)],[(.int .i64 3),(.int .i64 0)],[(.int .i64 2),(.int .i64 0)],[(.int .i64 1),(.int .i64 1)]]),ko91,(.bool true)],[(.bool true),ko175,ko121,(.imm [[(.int .i64 10)],[(.int .i64 1)]]),(.bool false)],[(.bool true),ko176,ko123,(.imm [[(.int .i64 2)],[(.int .i64 3)],[(.int .i64 4)]]),(.bool false)],[(.bool true),(.imm [[(.int .i64 4)],[(.int .i64 23)]]),(.imm [[(.int .i64 9),(.int .i64 2)]]),.nilSl,(.bool false)],[(.bool true),(.imm [[(.int .i64 5)],[(.int .i64 21)],[(.int .i64 9)]]),(.imm [[(.int .i64 9),(.int .i64 1)]]),.nilSl,(.bool false)],[(.bool false),(.imm [[(.int .i64 7)]]),(.imm [[(.int .i64 9),(.int .i64 1)]]),.nilSl,(.bool false)],[(.bool true),(.imm [[(.int .i64 8)],[(.int .i64 19)]]),ko124,(.imm [[(.int .i64 7)],[(.int .i64 8)],[(.int .i64 9)]]),(.bool false)],[(.bool true),ko171,ko125,(.imm [[(.int .i64 5)],[(.int .i64 6)]]),(.bool false)],[(.bool false),(.imm [[(.int .i64 12)]]),ko160,(.imm [[(.int .i64 5)]]),(.bool false)],[(.bool true),(.imm [[(.int .i64 15)]]),(.imm [[(.int .i64 5),(.int .i64 1)]]),.nilSl,(.bool false)],[(.bool false),(.imm [[(.int .i64 16)]]),ko161,(.imm [[(.int .i64 6)]]),(.bool false)],[(.bool false),(.imm [[(.int .i64 24)]]),ko157,(.imm [[(.int .i64 10)]]),(.bool false)],[(.bool true),(.imm [[(.int .i64 27)]]),ko81,ko94,(.bool true)]]),(.int .i64 0)])⟩
theorem mo322:mm322.Ok Tryz.prog:=known_of (l:=[]) trivial mm322 (by kernel_rfl)
def mm325:Memo:=⟨39,[ko64],(.int .i64 0)⟩
theorem mo325:mm325.Ok Tryz.prog:=known_of (l:=[]) trivial mm325 (by kernel_rfl)
def mm328:Memo:=⟨38,[ko64,(.int .i64 2)],.nilSl⟩
theorem mo328:mm328.Ok Tryz.prog:=known_of (l:=[]) trivial mm328 (by kernel_rfl)
def mm331:Memo:=⟨66,[ko1,(.int .i64 2)],(.int .i64 3)⟩
theorem mo331:mm331.Ok Tryz.prog:=known_of (l:=[]) trivial mm331 (by kernel_rfl)
def mm348:Memo:=⟨77,[ko65],(.tuple [(.imm [[(.bool false),(.imm [[(.int .i64 0)]]),ko159,(.imm [[(.int .i64 1)]]),(.bool false)],[(.bool false),ko144,(.imm [[(.int .i64 0),(.int .i64 0)],[(.int .i64 40),(.int .i64 0)],[(.int .i64 39),(.int .i64 0)],[(.int .i64 38),(.int .i64 0)],[(.int .i64 37),(.int .i64 0)],[(.int .i64 36),(.int .i64 0)],[(.int .i64 35),(.int .i64 0)],[(.int .i64 34),(.int .i64 0)],[(.int .i64 33),(.int .i64 0)],[(.int .i64 32),(.int .i64 0)],[(.int .i64 31),(.int .i64 0)],[(.int .i64 30),(.int .i64 0)],[(.int .i64 29),(.int .i64 0)],[(.int .i64 28),(.int .i64 0)],[(.int .i64 27),(.int .i64 0)],[(.int .i64 26),(.int .i64 0)],[(.int .i64 25),(.int .i64 0)],[(.int .i64 24),(.int .i64 0)],[(.int .i64 23),(.int .i64 0)],[(.int .i64 22),(.int .i64 0)],[(.int .i64 21),(.int .i64 0)],[(.int .i64 20),(.int .i64 0)],[(.int .i64 19),(.int .i64 0)],[(.int .i64 18),(.int .i64 0)],[(.int .i64 17),(.int .i64 0)],[(.int .i64 16),(.int .i64 0)],[(.int .i64 15),(.int .i64 0)],[(.int .i64 14),(.int .i64 0)],[(.int .i64 13),(.int .i64 0)],[(.int .i64 12),(.int .i64 0)],[(.int .i64 11),(.int .i64 0)],[(.int .i64 10),(.int .i64 1)],[(.int .i64 9),(.int .i64 0)],[(.int .i64 8),(.int .i64 0)],[(.int .i64 7),(.int .i64 0)],[(.int .i64 6),(.int .i64 1)],[(.int .i64 5),(.int .i64 1)],[(.int .i64 4),(.int .i64 0)],[(.int .i64 3),(.int .i64 0)],[(.int .i64 2),(.int .i64 2)],[(.int .i64 2),(.int .i64 0)],[(.int .i64 1),(.int .i64 1)]]),ko91,(.bool true)],[(.bool true),ko175,ko120,(.imm [[(.int .i64 10)],[(.int .i64 1)]]),(.bool false)],[(.bool true),(.imm [[(.int .i64 3)],[(.int .i64 20)]]),ko164,(.imm [[(.int .i64 2)]]),(.bool false)],[(.bool true),ko178,ko124,(.imm [[(.int .i64 7)],[(.int .i64 8)],[(.int .i64 9)]]),(.bool false)],[(.bool true),ko179,(.imm [[(.int .i64 2),(.int .i64 1)]]),.nilSl,(.bool false)],[(.bool true),ko174,ko125,(.imm [[(.int .i64 5)],[(.int .i64 6)]]),(.bool false)],[(.bool true),(.imm [[(.int .i64 7)],[(.int .i64 16)]]),ko140,(.imm [[(.int .i64 3)],[(.int .i64 4)]]),(.bool false)],[(.bool false),(.imm [[(.int .i64 8)]]),ko160,(.imm [[(.int .i64 5)]]),(.bool false)],[(.bool true),(.imm [[(.int .i64 11)]]),(.imm [[(.int .i64 5),(.int .i64 1)]]),.nilSl,(.bool false)],[(.bool false),(.imm [[(.int .i64 12)]]),ko161,(.imm [[(.int .i64 6)]]),(.bool false)],[(.bool false),(.imm [[(.int .i64 19)]]),(.imm [[(.int .i64 2),(.int .i64 1)]]),.nilSl,(.bool false)],[(.bool false),(.imm [[(.int .i64 24)]]),ko155,(.imm [[(.int .i64 10)]]),(.bool false)],[(.bool true),(.imm [[(.int .i64 27)]]),ko81,ko94,(.bool true)]]),(.int .i64 0)])⟩
theorem mo348:mm348.Ok Tryz.prog:=known_of (l:=[]) trivial mm348 (by kernel_rfl)
def mm352:Memo:=⟨38,[ko66,(.int .i64 5)],(.imm [[(.int .i64 4),(.int .i64 5)]])⟩
theorem mo352:mm352.Ok Tryz.prog:=known_of (l:=[]) trivial mm352 (by kernel_rfl)
def mm359:Memo:=⟨65,[ko2,(.int .i64 2),(.bool true)],(.int .i64 4)⟩
theorem mo359:mm359.Ok Tryz.prog:=known_of (l:=[]) trivial mm359 (by kernel_rfl)
def mm367:Memo:=⟨39,[ko103],(.int .i64 0)⟩
theorem mo367:mm367.Ok Tryz.prog:=known_of (l:=[]) trivial mm367 (by kernel_rfl)
end Go.Known
end
section
namespace Go.Known
open Go Go.AE Go.Proofs
def mm91:Memo:=⟨17,[(.agg [(.int .i64 1),(.bool false),(.int .i64 2)])],(.str [76,50])⟩
theorem mo91:mm91.Ok Tryz.prog:=known_of (l:=[]) trivial mm91 (by kernel_rfl)
def mm158:Memo:=⟨10,[ko83],(.bool true)⟩
theorem mo158:mm158.Ok Tryz.prog:=known_of (l:=[]) trivial mm158 (by kernel_rfl)
def mm172:Memo:=⟨67,[ko20,(.int .i64 7),(.int .i64 5)],(.bool true)⟩
theorem mo172:mm172.Ok Tryz.prog:=known_of (l:=[]) trivial mm172 (by kernel_rfl)
def mm187:Memo:=⟨77,[ko56],(.tuple [ko17,(.int .i64 0)])⟩
theorem mo187:mm187.Ok Tryz.prog:=known_of (l:=[]) trivial mm187 (by kernel_rfl)
def mm189:Memo:=⟨66,[ko15,(.int .i64 2)],(.int .i64 3)⟩
theorem mo189:mm189.Ok Tryz.prog:=known_of (l:=[]) trivial mm189 (by kernel_rfl)
def mm190:Memo:=⟨67,[ko15,(.int .i64 3),(.int .i64 10)],(.bool true)⟩
theorem mo190:mm190.Ok Tryz.prog:=known_of (l:=[]) trivial mm190 (by kernel_rfl)
def mm199:Memo:=⟨66,[ko20,(.int .i64 2)],(.int .i64 3)⟩
theorem mo199:mm199.Ok Tryz.prog:=known_of (l:=[]) trivial mm199 (by kernel_rfl)
def mm209:Memo:=⟨39,[ko58],(.int .i64 0)⟩
theorem mo209:mm209.Ok Tryz.prog:=known_of (l:=[]) trivial mm209 (by kernel_rfl)
def mm216:Memo:=⟨67,[ko16,(.int .i64 4),(.int .i64 2)],(.bool true)⟩
theorem mo216:mm216.Ok Tryz.prog:=known_of (l:=[]) trivial mm216 (by kernel_rfl)
def mm237:Memo:=⟨38,[ko86,(.int .i64 6)],(.imm [[(.int .i64 4),(.int .i64 5)]])⟩
theorem mo237:mm237.Ok Tryz.prog:=known_of (l:=[]) trivial mm237 (by kernel_rfl)
def mm275:Memo:=⟨77,[ko76],(.tuple [ko12,(.int .i64 0)])⟩
theorem mo275:mm275.Ok Tryz.prog:=known_of (l:=[]) trivial mm275 (by kernel_rfl)
def mm283:Memo:=⟨38,[ko62,(.int .i64 9)],.nilSl⟩
theorem mo283:mm283.Ok Tryz.prog:=known_of (l:=[]) trivial mm283 (by kernel_rfl)
def mm326:Memo:=⟨38,[ko64,(.int .i64 6)],(.imm [[(.int .i64 8),(.int .i64 9)]])⟩
theorem mo326:mm326.Ok Tryz.prog:=known_of (l:=[]) trivial mm326 (by kernel_rfl)
def mm329:Memo:=⟨77,[ko64],(.tuple [ko3,(.int .i64 0)])⟩
theorem mo329:mm329.Ok Tryz.prog:=known_of (l:=[]) trivial mm329 (by kernel_rfl)
def mm333:Memo:=⟨65,[ko1,(.int .i64 10),(.bool true)],(.int .i64 3)⟩
theorem mo333:mm333.Ok Tryz.prog:=known_of (l:=[]) trivial mm333 (by kernel_rfl)
def mm340:Memo:=⟨38,[ko87,(.int .i64 2)],.nilSl⟩
theorem mo340:mm340.Ok Tryz.prog:=known_of (l:=[]) trivial mm340 (by kernel_rfl)
def mm351:Memo:=⟨39,[ko66],(.int .i64 0)⟩
theorem mo351:mm351.Ok Tryz.prog:=known_of (l:=[]) trivial mm351 (by kernel_rfl)
def mm355:Memo:=⟨77,[ko66],(.tuple [ko4,(.int .i64 0)])⟩
theorem mo355:mm355.Ok Tryz.prog:=known_of (l:=[]) trivial mm355 (by kernel_rfl)
end Go.Known
end
section
namespace Go.Known
open Go Go.AE Go.Proofs
def mm103:Memo:=⟨28,[ko95,ko84,.nilSl],(.tuple [ko84,(.int .i64 0),(.int .i64 0)])⟩
theorem mo103:mm103.Ok Tryz.prog:=known_of (l:=[mm2,mm6]) ⟨mo2,mo6,trivial⟩ mm103 (by kernel_rfl)
def mm107:Memo:=⟨48,[ko95,ko84,ko167],(.tuple [(.int .i64 1),(.bool true)])⟩
theorem mo107:mm107.Ok Tryz.prog:=known_of (l:=[mm7]) ⟨mo7,trivial⟩ mm107 (by kernel_rfl)
def mm108:Memo:=⟨48,[ko95,ko84,ko168],(.tuple [(.int .i64 5),(.bool true)])⟩
theorem mo108:mm108.Ok Tryz.prog:=known_of (l:=[mm49]) ⟨mo49,trivial⟩ mm108 (by kernel_rfl)
def mm109:Memo:=⟨141,[ko84,ko135],(.tuple [ko71,(.int .i64 0)])⟩
theorem mo109:mm109.Ok Tryz.prog:=known_of (l:=[mm10]) ⟨mo10,trivial⟩ mm109 (by kernel_rfl)
def mm131:Memo:=⟨68,[ko27,(.int .i64 3),(.int .i64 1)],(.int .i64 2)⟩
theorem mo131:mm131.Ok Tryz.prog:=known_of (l:=[mm14]) ⟨mo14,trivial⟩ mm131 (by kernel_rfl)
def mm132:Memo:=⟨141,[ko84,ko136],(.tuple [ko72,(.int .i64 0)])⟩
theorem mo132:mm132.Ok Tryz.prog:=known_of (l:=[mm10]) ⟨mo10,trivial⟩ mm132 (by kernel_rfl)
def mm152:Memo:=⟨19,[ko95,(.imm [[(.int .i64 2)],[(.int .i64 9)]])],(.tuple [ko100,(.int .i64 0)])⟩
theorem mo152:mm152.Ok Tryz.prog:=known_of (l:=[mm2]) ⟨mo2,trivial⟩ mm152 (by kernel_rfl)
end Go.Known
end
