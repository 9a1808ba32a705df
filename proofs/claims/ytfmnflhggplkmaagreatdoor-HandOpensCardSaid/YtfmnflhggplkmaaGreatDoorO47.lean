/- Part 47 of the proof: Ox0, Ox1. -/
import Derived.Test.YtfmnflhggplkmaaGreatDoorO43
set_option linter.all false
section
namespace Go.Known
open Go Go.AE Go.Proofs
def mm88:Memo:=⟨17,[(.agg [(.int .i64 1),(.bool false),(.int .i64 1)])],(.str [76,49])⟩
theorem mo88:mm88.Ok Tryz.prog:=known_of (l:=[]) trivial mm88 (by kernel_rfl)
def mm97:Memo:=⟨17,[(.agg [(.int .i64 1),(.bool false),(.int .i64 5)])],(.str [76,53])⟩
theorem mo97:mm97.Ok Tryz.prog:=known_of (l:=[]) trivial mm97 (by kernel_rfl)
def mm110:Memo:=⟨77,[ko71],(.tuple [ko26,(.int .i64 0)])⟩
theorem mo110:mm110.Ok Tryz.prog:=known_of (l:=[]) trivial mm110 (by kernel_rfl)
def mm112:Memo:=⟨77,[ko51],(.tuple [(.imm [[(.bool false),(.imm [[(.int .i64 0)]]),ko159,(.imm [[(.int .i64 1)]]),(.bool false)],[(.bool false),ko143,(.imm [[(.int .i64 0),(.int .i64 0)],[(.int .i64 10),(.int .i64 1)],[(.int .i64 9),(.int .i64 2)],[(.int .i64 9),(.int .i64 0)],[(.int .i64 8),(.int .i64 0)],[(.int .i64 7),(.int .i64 0)],[(.int .i64 6),(.int .i64 1)],[(.int .i64 5),(.int .i64 1)],[(.int .i64 4),(.int .i64 0)],[(.int .i64 3),(.int .i64 0)],[(.int .i64 2),(.int .i64 0)],[(.int .i64 1),(.int .i64 1)]]),ko137,(.bool true)],[(.bool true),ko175,ko121,(.imm [[(.int .i64 10)],[(.int .i64 1)]]),(.bool false)],[(.bool true),ko176,ko123,(.imm [[(.int .i64 2)],[(.int .i64 3)],[(.int .i64 4)]]),(.bool false)],[(.bool true),(.imm [[(.int .i64 4)],[(.int .i64 23)]]),(.imm [[(.int .i64 9),(.int .i64 2)]]),.nilSl,(.bool false)],[(.bool true),(.imm [[(.int .i64 5)],[(.int .i64 21)],[(.int .i64 9)]]),(.imm [[(.int .i64 9),(.int .i64 1)]]),.nilSl,(.bool false)],[(.bool false),(.imm [[(.int .i64 7)]]),(.imm [[(.int .i64 9),(.int .i64 1)]]),.nilSl,(.bool false)],[(.bool true),(.imm [[(.int .i64 8)],[(.int .i64 19)]]),ko124,(.imm [[(.int .i64 7)],[(.int .i64 8)],[(.int .i64 9)]]),(.bool false)],[(.bool true),ko171,ko125,(.imm [[(.int .i64 5)],[(.int .i64 6)]]),(.bool false)],[(.bool false),(.imm [[(.int .i64 12)]]),ko160,(.imm [[(.int .i64 5)]]),(.bool false)],[(.bool true),(.imm [[(.int .i64 15)]]),(.imm [[(.int .i64 5),(.int .i64 1)]]),.nilSl,(.bool false)],[(.bool false),(.imm [[(.int .i64 16)]]),ko161,(.imm [[(.int .i64 6)]]),(.bool false)],[(.bool false),(.imm [[(.int .i64 24)]]),ko157,(.imm [[(.int .i64 10)]]),(.bool false)],[(.bool true),(.imm [[(.int .i64 27)]]),ko156,.nilSl,(.bool true)]]),(.int .i64 0)])⟩
theorem mo112:mm112.Ok Tryz.prog:=known_of (l:=[]) trivial mm112 (by kernel_rfl)
def mm139:Memo:=⟨38,[ko54,(.int .i64 5)],(.imm [[(.int .i64 4),(.int .i64 5)]])⟩
theorem mo139:mm139.Ok Tryz.prog:=known_of (l:=[]) trivial mm139 (by kernel_rfl)
def mm161:Memo:=⟨39,[ko85],(.int .i64 0)⟩
theorem mo161:mm161.Ok Tryz.prog:=known_of (l:=[]) trivial mm161 (by kernel_rfl)
def mm168:Memo:=⟨38,[ko85,(.int .i64 9)],.nilSl⟩
theorem mo168:mm168.Ok Tryz.prog:=known_of (l:=[]) trivial mm168 (by kernel_rfl)
def mm173:Memo:=⟨65,[ko20,(.int .i64 5),(.bool true)],(.int .i64 2)⟩
theorem mo173:mm173.Ok Tryz.prog:=known_of (l:=[]) trivial mm173 (by kernel_rfl)
def mm186:Memo:=⟨38,[ko56,(.int .i64 2)],.nilSl⟩
theorem mo186:mm186.Ok Tryz.prog:=known_of (l:=[]) trivial mm186 (by kernel_rfl)
def mm191:Memo:=⟨65,[ko15,(.int .i64 10),(.bool true)],(.int .i64 3)⟩
theorem mo191:mm191.Ok Tryz.prog:=known_of (l:=[]) trivial mm191 (by kernel_rfl)
def mm247:Memo:=⟨65,[ko13,(.int .i64 1),(.bool true)],(.int .i64 2)⟩
theorem mo247:mm247.Ok Tryz.prog:=known_of (l:=[]) trivial mm247 (by kernel_rfl)
def mm255:Memo:=⟨38,[ko60,(.int .i64 6)],(.imm [[(.int .i64 8),(.int .i64 9)]])⟩
theorem mo255:mm255.Ok Tryz.prog:=known_of (l:=[]) trivial mm255 (by kernel_rfl)
def mm277:Memo:=⟨77,[ko61],(.tuple [(.imm [[(.bool false),(.imm [[(.int .i64 0)]]),ko159,(.imm [[(.int .i64 1)]]),(.bool false)],[(.bool false),ko144,(.imm [[(.int .i64 0),(.int .i64 0)],[(.int .i64 30),(.int .i64 0)],[(.int .i64 29),(.int .i64 0)],[(.int .i64 28),(.int .i64 0)],[(.int .i64 27),(.int .i64 0)],[(.int .i64 26),(.int .i64 0)],[(.int .i64 25),(.int .i64 0)],[(.int .i64 24),(.int .i64 0)],[(.int .i64 23),(.int .i64 0)],[(.int .i64 22),(.int .i64 0)],[(.int .i64 21),(.int .i64 0)],[(.int .i64 20),(.int .i64 0)],[(.int .i64 19),(.int .i64 0)],[(.int .i64 18),(.int .i64 0)],[(.int .i64 17),(.int .i64 0)],[(.int .i64 16),(.int .i64 0)],[(.int .i64 15),(.int .i64 0)],[(.int .i64 14),(.int .i64 0)],[(.int .i64 13),(.int .i64 0)],[(.int .i64 12),(.int .i64 0)],[(.int .i64 11),(.int .i64 0)],[(.int .i64 10),(.int .i64 1)],[(.int .i64 9),(.int .i64 0)],[(.int .i64 8),(.int .i64 0)],[(.int .i64 7),(.int .i64 0)],[(.int .i64 6),(.int .i64 1)],[(.int .i64 5),(.int .i64 1)],[(.int .i64 4),(.int .i64 0)],[(.int .i64 3),(.int .i64 0)],[(.int .i64 2),(.int .i64 2)],[(.int .i64 2),(.int .i64 0)],[(.int .i64 1),(.int .i64 1)]]),ko96,(.bool true)],[(.bool true),ko175,ko120,(.imm [[(.int .i64 10)],[(.int .i64 1)]]),(.bool false)],[(.bool true),(.imm [[(.int .i64 3)],[(.int .i64 20)]]),ko164,(.imm [[(.int .i64 2)]]),(.bool false)],[(.bool true),ko178,ko124,(.imm [[(.int .i64 7)],[(.int .i64 8)],[(.int .i64 9)]]),(.bool false)],[(.bool true),ko179,(.imm [[(.int .i64 2),(.int .i64 1)]]),.nilSl,(.bool false)],[(.bool true),ko174,ko125,(.imm [[(.int .i64 5)],[(.int .i64 6)]]),(.bool false)],[(.bool true),(.imm [[(.int .i64 7)],[(.int .i64 16)]]),ko140,(.imm [[(.int .i64 3)],[(.int .i64 4)]]),(.bool false)],[(.bool false),(.imm [[(.int .i64 8)]]),ko160,(.imm [[(.int .i64 5)]]),(.bool false)],[(.bool true),(.imm [[(.int .i64 11)]]),(.imm [[(.int .i64 5),(.int .i64 1)]]),.nilSl,(.bool false)],[(.bool false),(.imm [[(.int .i64 12)]]),ko161,(.imm [[(.int .i64 6)]]),(.bool false)],[(.bool false),(.imm [[(.int .i64 19)]]),(.imm [[(.int .i64 2),(.int .i64 1)]]),.nilSl,(.bool false)],[(.bool false),(.imm [[(.int .i64 24)]]),ko155,(.imm [[(.int .i64 10)]]),(.bool false)],[(.bool true),(.imm [[(.int .i64 27)]]),ko89,ko105,(.bool true)]]),(.int .i64 0)])⟩
theorem mo277:mm277.Ok Tryz.prog:=known_of (l:=[]) trivial mm277 (by kernel_rfl)
def mm311:Memo:=⟨77,[ko87],(.tuple [ko7,(.int .i64 0)])⟩
theorem mo311:mm311.Ok Tryz.prog:=known_of (l:=[]) trivial mm311 (by kernel_rfl)
def mm313:Memo:=⟨66,[ko6,(.int .i64 9)],(.int .i64 7)⟩
theorem mo313:mm313.Ok Tryz.prog:=known_of (l:=[]) trivial mm313 (by kernel_rfl)
def mm335:Memo:=⟨77,[ko41],(.tuple [(.imm [[(.bool false),(.imm [[(.int .i64 0)]]),ko159,(.imm [[(.int .i64 1)]]),(.bool false)],[(.bool false),ko132,(.imm [[(.int .i64 0),(.int .i64 0)],[(.int .i64 40),(.int .i64 0)],[(.int .i64 39),(.int .i64 0)],[(.int .i64 38),(.int .i64 0)],[(.int .i64 37),(.int .i64 0)],[(.int .i64 36),(.int .i64 0)],[(.int .i64 35),(.int .i64 0)],[(.int .i64 34),(.int .i64 0)],[(.int .i64 33),(.int .i64 0)],[(.int .i64 32),(.int .i64 0)],[(.int .i64 31),(.int .i64 0)],[(.int .i64 30),(.int .i64 0)],[(.int .i64 29),(.int .i64 0)],[(.int .i64 28),(.int .i64 0)],[(.int .i64 27),(.int .i64 0)],[(.int .i64 26),(.int .i64 0)],[(.int .i64 25),(.int .i64 0)],[(.int .i64 24),(.int .i64 0)],[(.int .i64 23),(.int .i64 0)],[(.int .i64 22),(.int .i64 0)],[(.int .i64 21),(.int .i64 0)],[(.int .i64 20),(.int .i64 0)],[(.int .i64 19),(.int .i64 0)],[(.int .i64 18),(.int .i64 0)],[(.int .i64 17),(.int .i64 0)],[(.int .i64 16),(.int .i64 0)],[(.int .i64 15),(.int .i64 0)],[(.int .i64 14),(.int .i64 0)],[(.int .i64 13),(.int .i64 0)],[(.int .i64 12),(.int .i64 0)],[(.int .i64 11),(.int .i64 0)],[(.int .i64 10),(.int .i64 1)],[(.int .i64 9),(.int .i64 1)],[(.int .i64 8),(.int .i64 0)],[(.int .i64 7),(.int .i64 0)],[(.int .i64 6),(.int .i64 1)],[(.int .i64 5),(.int .i64 1)],[(.int .i64 4),(.int .i64 0)],[(.int .i64 3),(.int .i64 0)],[(.int .i64 2),(.int .i64 2)],[(.int .i64 2),(.int .i64 0)],[(.int .i64 1),(.int .i64 1)]]),ko92,(.bool true)],[(.bool true),ko177,ko122,(.imm [[(.int .i64 10)],[(.int .i64 1)]]),(.bool false)],[(.bool true),(.imm [[(.int .i64 3)],[(.int .i64 24)]]),ko164,(.imm [[(.int .i64 2)]]),(.bool false)],[(.bool true),(.imm [[(.int .i64 4)],[(.int .i64 27)]]),(.imm [[(.int .i64 9),(.int .i64 1)]]),.nilSl,(.bool false)],[(.bool true),ko150,ko139,(.imm [[(.int .i64 9)]]),(.bool false)],[(.bool false),(.imm [[(.int .i64 7)]]),ko163,(.imm [[(.int .i64 9)]]),(.bool false)],[(.bool true),(.imm [[(.int .i64 8)],[(.int .i64 19)]]),ko138,(.imm [[(.int .i64 7)],[(.int .i64 8)]]),(.bool false)],[(.bool true),ko171,ko125,(.imm [[(.int .i64 5)],[(.int .i64 6)]]),(.bool false)],[(.bool true),(.imm [[(.int .i64 11)],[(.int .i64 20)]]),ko140,(.imm [[(.int .i64 3)],[(.int .i64 4)]]),(.bool false)],[(.bool false),(.imm [[(.int .i64 12)]]),ko160,(.imm [[(.int .i64 5)]]),(.bool false)],[(.bool true),(.imm [[(.int .i64 15)]]),(.imm [[(.int .i64 5),(.int .i64 1)]]),.nilSl,(.bool false)],[(.bool false),(.imm [[(.int .i64 16)]]),ko161,(.imm [[(.int .i64 6)]]),(.bool false)],[(.bool false),(.imm [[(.int .i64 23)]]),(.imm [[(.int .i64 2),(.int .i64 1)]]),.nilSl,(.bool false)],[(.bool false),(.imm [[(.int .i64 28)]]),ko158,(.imm [[(.int .i64 10)]]),(.bool false)],[(.bool true),(.imm [[(.int .i64 31)]]),ko81,ko94,(.bool true)]]),(.int .i64 0)])⟩
theorem mo335:mm335.Ok Tryz.prog:=known_of (l:=[]) trivial mm335 (by kernel_rfl)
def mm342:Memo:=⟨67,[ko6,(.int .i64 3),(.int .i64 1)],(.bool true)⟩
theorem mo342:mm342.Ok Tryz.prog:=known_of (l:=[]) trivial mm342 (by kernel_rfl)
def mm344:Memo:=⟨67,[ko6,(.int .i64 2),(.int .i64 5)],(.bool true)⟩
theorem mo344:mm344.Ok Tryz.prog:=known_of (l:=[]) trivial mm344 (by kernel_rfl)
end Go.Known
end
section
namespace Go.Known
open Go Go.AE Go.Proofs
def mm87:Memo:=⟨17,[(.agg [(.int .i64 1),(.bool true),(.int .i64 0)])],(.str [82,48])⟩
theorem mo87:mm87.Ok Tryz.prog:=known_of (l:=[]) trivial mm87 (by kernel_rfl)
def mm93:Memo:=⟨17,[(.agg [(.int .i64 1),(.bool false),(.int .i64 3)])],(.str [76,51])⟩
theorem mo93:mm93.Ok Tryz.prog:=known_of (l:=[]) trivial mm93 (by kernel_rfl)
def mm116:Memo:=⟨38,[ko52,(.int .i64 6)],(.imm [[(.int .i64 8),(.int .i64 9)]])⟩
theorem mo116:mm116.Ok Tryz.prog:=known_of (l:=[]) trivial mm116 (by kernel_rfl)
def mm118:Memo:=⟨38,[ko52,(.int .i64 2)],.nilSl⟩
theorem mo118:mm118.Ok Tryz.prog:=known_of (l:=[]) trivial mm118 (by kernel_rfl)
def mm119:Memo:=⟨77,[ko52],(.tuple [ko24,(.int .i64 0)])⟩
theorem mo119:mm119.Ok Tryz.prog:=known_of (l:=[]) trivial mm119 (by kernel_rfl)
def mm122:Memo:=⟨67,[ko22,(.int .i64 3),(.int .i64 10)],(.bool true)⟩
theorem mo122:mm122.Ok Tryz.prog:=known_of (l:=[]) trivial mm122 (by kernel_rfl)
def mm130:Memo:=⟨66,[ko27,(.int .i64 2)],(.int .i64 3)⟩
theorem mo130:mm130.Ok Tryz.prog:=known_of (l:=[]) trivial mm130 (by kernel_rfl)
def mm133:Memo:=⟨77,[ko72],(.tuple [ko26,(.int .i64 0)])⟩
theorem mo133:mm133.Ok Tryz.prog:=known_of (l:=[]) trivial mm133 (by kernel_rfl)
def mm145:Memo:=⟨67,[ko23,(.int .i64 4),(.int .i64 2)],(.bool true)⟩
theorem mo145:mm145.Ok Tryz.prog:=known_of (l:=[]) trivial mm145 (by kernel_rfl)
def mm175:Memo:=⟨67,[ko20,(.int .i64 2),(.int .i64 1)],(.bool true)⟩
theorem mo175:mm175.Ok Tryz.prog:=known_of (l:=[]) trivial mm175 (by kernel_rfl)
def mm210:Memo:=⟨38,[ko58,(.int .i64 5)],(.imm [[(.int .i64 4),(.int .i64 5)]])⟩
theorem mo210:mm210.Ok Tryz.prog:=known_of (l:=[]) trivial mm210 (by kernel_rfl)
def mm232:Memo:=⟨39,[ko86],(.int .i64 0)⟩
theorem mo232:mm232.Ok Tryz.prog:=known_of (l:=[]) trivial mm232 (by kernel_rfl)
def mm239:Memo:=⟨38,[ko86,(.int .i64 9)],.nilSl⟩
theorem mo239:mm239.Ok Tryz.prog:=known_of (l:=[]) trivial mm239 (by kernel_rfl)
def mm240:Memo:=⟨77,[ko86],(.tuple [ko14,(.int .i64 0)])⟩
theorem mo240:mm240.Ok Tryz.prog:=known_of (l:=[]) trivial mm240 (by kernel_rfl)
def mm262:Memo:=⟨65,[ko8,(.int .i64 10),(.bool true)],(.int .i64 3)⟩
theorem mo262:mm262.Ok Tryz.prog:=known_of (l:=[]) trivial mm262 (by kernel_rfl)
def mm284:Memo:=⟨77,[ko62],(.tuple [ko11,(.int .i64 0)])⟩
theorem mo284:mm284.Ok Tryz.prog:=known_of (l:=[]) trivial mm284 (by kernel_rfl)
def mm318:Memo:=⟨65,[ko6,(.int .i64 1),(.bool true)],(.int .i64 2)⟩
theorem mo318:mm318.Ok Tryz.prog:=known_of (l:=[]) trivial mm318 (by kernel_rfl)
def mm354:Memo:=⟨38,[ko66,(.int .i64 9)],.nilSl⟩
theorem mo354:mm354.Ok Tryz.prog:=known_of (l:=[]) trivial mm354 (by kernel_rfl)
def mm361:Memo:=⟨77,[ko43],(.tuple [(.imm [[(.bool false),(.imm [[(.int .i64 0)]]),ko159,(.imm [[(.int .i64 1)]]),(.bool false)],[(.bool false),ko132,(.imm [[(.int .i64 0),(.int .i64 0)],[(.int .i64 40),(.int .i64 0)],[(.int .i64 39),(.int .i64 0)],[(.int .i64 38),(.int .i64 0)],[(.int .i64 37),(.int .i64 0)],[(.int .i64 36),(.int .i64 0)],[(.int .i64 35),(.int .i64 0)],[(.int .i64 34),(.int .i64 0)],[(.int .i64 33),(.int .i64 0)],[(.int .i64 32),(.int .i64 0)],[(.int .i64 31),(.int .i64 0)],[(.int .i64 30),(.int .i64 0)],[(.int .i64 29),(.int .i64 0)],[(.int .i64 28),(.int .i64 0)],[(.int .i64 27),(.int .i64 0)],[(.int .i64 26),(.int .i64 0)],[(.int .i64 25),(.int .i64 0)],[(.int .i64 24),(.int .i64 0)],[(.int .i64 23),(.int .i64 0)],[(.int .i64 22),(.int .i64 0)],[(.int .i64 21),(.int .i64 0)],[(.int .i64 20),(.int .i64 0)],[(.int .i64 19),(.int .i64 0)],[(.int .i64 18),(.int .i64 0)],[(.int .i64 17),(.int .i64 0)],[(.int .i64 16),(.int .i64 0)],[(.int .i64 15),(.int .i64 0)],[(.int .i64 14),(.int .i64 0)],[(.int .i64 13),(.int .i64 0)],[(.int .i64 12),(.int .i64 0)],[(.int .i64 11),(.int .i64 0)],[(.int .i64 10),(.int .i64 1)],[(.int .i64 9),(.int .i64 2)],[(.int .i64 9),(.int .i64 0)],[(.int .i64 8),(.int .i64 0)],[(.int .i64 7),(.int .i64 0)],[(.int .i64 6),(.int .i64 1)],[(.int .i64 5),(.int .i64 1)],[(.int .i64 4),(.int .i64 0)],[(.int .i64 3),(.int .i64 0)],[(.int .i64 2),(.int .i64 1)],[(.int .i64 1),(.int .i64 1)]]),ko93,(.bool true)],[(.bool true),ko177,ko121,(.imm [[(.int .i64 10)],[(.int .i64 1)]]),(.bool false)],[(.bool true),(.imm [[(.int .i64 3)],[(.int .i64 24)]]),(.imm [[(.int .i64 1),(.int .i64 1)]]),.nilSl,(.bool false)],[(.bool true),(.imm [[(.int .i64 4)],[(.int .i64 27)]]),(.imm [[(.int .i64 9),(.int .i64 2)]]),.nilSl,(.bool false)],[(.bool true),ko150,ko142,(.imm [[(.int .i64 2)]]),(.bool false)],[(.bool false),(.imm [[(.int .i64 7)]]),(.imm [[(.int .i64 9),(.int .i64 1)]]),.nilSl,(.bool false)],[(.bool true),(.imm [[(.int .i64 8)],[(.int .i64 19)]]),ko124,(.imm [[(.int .i64 7)],[(.int .i64 8)],[(.int .i64 9)]]),(.bool false)],[(.bool true),ko171,ko125,(.imm [[(.int .i64 5)],[(.int .i64 6)]]),(.bool false)],[(.bool true),(.imm [[(.int .i64 11)],[(.int .i64 20)]]),ko141,(.imm [[(.int .i64 3)],[(.int .i64 4)]]),(.bool false)],[(.bool false),(.imm [[(.int .i64 12)]]),ko160,(.imm [[(.int .i64 5)]]),(.bool false)],[(.bool true),(.imm [[(.int .i64 15)]]),(.imm [[(.int .i64 5),(.int .i64 1)]]),.nilSl,(.bool false)],[(.bool false),(.imm [[(.int .i64 16)]]),ko161,(.imm [[(.int .i64 6)]]),(.bool false)],[(.bool false),(.imm [[(.int .i64 23)]]),ko166,(.imm [[(.int .i64 2)]]),(.bool false)],[(.bool false),(.imm [[(.int .i64 28)]]),ko157,(.imm [[(.int .i64 10)]]),(.bool false)],[(.bool true),(.imm [[(.int .i64 31)]]),ko81,ko94,(.bool true)]]),(.int .i64 0)])⟩
theorem mo361:mm361.Ok Tryz.prog:=known_of (l:=[]) trivial mm361 (by kernel_rfl)
end Go.Known
end
