/- Part 48 of the proof: Ox2, Ox3. -/
import Derived.Test.YtfmnflhggplkmaaGreatDoorO43
set_option linter.all false
section
namespace Go.Known
open Go Go.AE Go.Proofs
def mm96:Memo:=⟨17,[(.agg [(.int .i64 1),(.bool true),(.int .i64 4)])],(.str [82,52])⟩
theorem mo96:mm96.Ok Tryz.prog:=known_of (l:=[]) trivial mm96 (by kernel_rfl)
def mm115:Memo:=⟨39,[ko52],(.int .i64 0)⟩
theorem mo115:mm115.Ok Tryz.prog:=known_of (l:=[]) trivial mm115 (by kernel_rfl)
def mm135:Memo:=⟨77,[ko53],(.tuple [(.imm [[(.bool false),(.imm [[(.int .i64 0)]]),ko159,(.imm [[(.int .i64 1)]]),(.bool false)],[(.bool false),ko144,(.imm [[(.int .i64 0),(.int .i64 0)],[(.int .i64 10),(.int .i64 1)],[(.int .i64 9),(.int .i64 0)],[(.int .i64 8),(.int .i64 0)],[(.int .i64 7),(.int .i64 0)],[(.int .i64 6),(.int .i64 1)],[(.int .i64 5),(.int .i64 1)],[(.int .i64 4),(.int .i64 0)],[(.int .i64 3),(.int .i64 0)],[(.int .i64 2),(.int .i64 2)],[(.int .i64 2),(.int .i64 0)],[(.int .i64 1),(.int .i64 1)]]),ko137,(.bool true)],[(.bool true),ko175,ko120,(.imm [[(.int .i64 10)],[(.int .i64 1)]]),(.bool false)],[(.bool true),(.imm [[(.int .i64 3)],[(.int .i64 20)]]),ko164,(.imm [[(.int .i64 2)]]),(.bool false)],[(.bool true),ko178,ko124,(.imm [[(.int .i64 7)],[(.int .i64 8)],[(.int .i64 9)]]),(.bool false)],[(.bool true),ko179,(.imm [[(.int .i64 2),(.int .i64 1)]]),.nilSl,(.bool false)],[(.bool true),ko174,ko125,(.imm [[(.int .i64 5)],[(.int .i64 6)]]),(.bool false)],[(.bool true),(.imm [[(.int .i64 7)],[(.int .i64 16)]]),ko140,(.imm [[(.int .i64 3)],[(.int .i64 4)]]),(.bool false)],[(.bool false),(.imm [[(.int .i64 8)]]),ko160,(.imm [[(.int .i64 5)]]),(.bool false)],[(.bool true),(.imm [[(.int .i64 11)]]),(.imm [[(.int .i64 5),(.int .i64 1)]]),.nilSl,(.bool false)],[(.bool false),(.imm [[(.int .i64 12)]]),ko161,(.imm [[(.int .i64 6)]]),(.bool false)],[(.bool false),(.imm [[(.int .i64 19)]]),(.imm [[(.int .i64 2),(.int .i64 1)]]),.nilSl,(.bool false)],[(.bool false),(.imm [[(.int .i64 24)]]),ko155,(.imm [[(.int .i64 10)]]),(.bool false)],[(.bool true),(.imm [[(.int .i64 27)]]),ko156,.nilSl,(.bool true)]]),(.int .i64 0)])⟩
theorem mo135:mm135.Ok Tryz.prog:=known_of (l:=[]) trivial mm135 (by kernel_rfl)
def mm144:Memo:=⟨66,[ko23,(.int .i64 9)],(.int .i64 4)⟩
theorem mo144:mm144.Ok Tryz.prog:=known_of (l:=[]) trivial mm144 (by kernel_rfl)
def mm146:Memo:=⟨65,[ko23,(.int .i64 2),(.bool true)],(.int .i64 4)⟩
theorem mo146:mm146.Ok Tryz.prog:=known_of (l:=[]) trivial mm146 (by kernel_rfl)
def mm166:Memo:=⟨38,[ko85,(.int .i64 6)],(.imm [[(.int .i64 4),(.int .i64 5)]])⟩
theorem mo166:mm166.Ok Tryz.prog:=known_of (l:=[]) trivial mm166 (by kernel_rfl)
def mm251:Memo:=⟨77,[ko59],(.tuple [(.imm [[(.bool false),(.imm [[(.int .i64 0)]]),ko159,(.imm [[(.int .i64 1)]]),(.bool false)],[(.bool false),ko143,(.imm [[(.int .i64 0),(.int .i64 0)],[(.int .i64 30),(.int .i64 0)],[(.int .i64 29),(.int .i64 0)],[(.int .i64 28),(.int .i64 0)],[(.int .i64 27),(.int .i64 0)],[(.int .i64 26),(.int .i64 0)],[(.int .i64 25),(.int .i64 0)],[(.int .i64 24),(.int .i64 0)],[(.int .i64 23),(.int .i64 0)],[(.int .i64 22),(.int .i64 0)],[(.int .i64 21),(.int .i64 0)],[(.int .i64 20),(.int .i64 0)],[(.int .i64 19),(.int .i64 0)],[(.int .i64 18),(.int .i64 0)],[(.int .i64 17),(.int .i64 0)],[(.int .i64 16),(.int .i64 0)],[(.int .i64 15),(.int .i64 0)],[(.int .i64 14),(.int .i64 0)],[(.int .i64 13),(.int .i64 0)],[(.int .i64 12),(.int .i64 0)],[(.int .i64 11),(.int .i64 0)],[(.int .i64 10),(.int .i64 1)],[(.int .i64 9),(.int .i64 2)],[(.int .i64 9),(.int .i64 0)],[(.int .i64 8),(.int .i64 0)],[(.int .i64 7),(.int .i64 0)],[(.int .i64 6),(.int .i64 1)],[(.int .i64 5),(.int .i64 1)],[(.int .i64 4),(.int .i64 0)],[(.int .i64 3),(.int .i64 0)],[(.int .i64 2),(.int .i64 0)],[(.int .i64 1),(.int .i64 1)]]),ko96,(.bool true)],[(.bool true),ko175,ko121,(.imm [[(.int .i64 10)],[(.int .i64 1)]]),(.bool false)],[(.bool true),ko176,ko123,(.imm [[(.int .i64 2)],[(.int .i64 3)],[(.int .i64 4)]]),(.bool false)],[(.bool true),(.imm [[(.int .i64 4)],[(.int .i64 23)]]),(.imm [[(.int .i64 9),(.int .i64 2)]]),.nilSl,(.bool false)],[(.bool true),(.imm [[(.int .i64 5)],[(.int .i64 21)],[(.int .i64 9)]]),(.imm [[(.int .i64 9),(.int .i64 1)]]),.nilSl,(.bool false)],[(.bool false),(.imm [[(.int .i64 7)]]),(.imm [[(.int .i64 9),(.int .i64 1)]]),.nilSl,(.bool false)],[(.bool true),(.imm [[(.int .i64 8)],[(.int .i64 19)]]),ko124,(.imm [[(.int .i64 7)],[(.int .i64 8)],[(.int .i64 9)]]),(.bool false)],[(.bool true),ko171,ko125,(.imm [[(.int .i64 5)],[(.int .i64 6)]]),(.bool false)],[(.bool false),(.imm [[(.int .i64 12)]]),ko160,(.imm [[(.int .i64 5)]]),(.bool false)],[(.bool true),(.imm [[(.int .i64 15)]]),(.imm [[(.int .i64 5),(.int .i64 1)]]),.nilSl,(.bool false)],[(.bool false),(.imm [[(.int .i64 16)]]),ko161,(.imm [[(.int .i64 6)]]),(.bool false)],[(.bool false),(.imm [[(.int .i64 24)]]),ko157,(.imm [[(.int .i64 10)]]),(.bool false)],[(.bool true),(.imm [[(.int .i64 27)]]),ko89,ko105,(.bool true)]]),(.int .i64 0)])⟩
theorem mo251:mm251.Ok Tryz.prog:=known_of (l:=[]) trivial mm251 (by kernel_rfl)
def mm254:Memo:=⟨39,[ko60],(.int .i64 0)⟩
theorem mo254:mm254.Ok Tryz.prog:=known_of (l:=[]) trivial mm254 (by kernel_rfl)
def mm257:Memo:=⟨38,[ko60,(.int .i64 2)],.nilSl⟩
theorem mo257:mm257.Ok Tryz.prog:=known_of (l:=[]) trivial mm257 (by kernel_rfl)
def mm264:Memo:=⟨77,[ko37],(.tuple [(.imm [[(.bool false),(.imm [[(.int .i64 0)]]),ko159,(.imm [[(.int .i64 1)]]),(.bool false)],[(.bool false),ko132,(.imm [[(.int .i64 0),(.int .i64 0)],[(.int .i64 30),(.int .i64 0)],[(.int .i64 29),(.int .i64 0)],[(.int .i64 28),(.int .i64 0)],[(.int .i64 27),(.int .i64 0)],[(.int .i64 26),(.int .i64 0)],[(.int .i64 25),(.int .i64 0)],[(.int .i64 24),(.int .i64 0)],[(.int .i64 23),(.int .i64 0)],[(.int .i64 22),(.int .i64 0)],[(.int .i64 21),(.int .i64 0)],[(.int .i64 20),(.int .i64 0)],[(.int .i64 19),(.int .i64 0)],[(.int .i64 18),(.int .i64 0)],[(.int .i64 17),(.int .i64 0)],[(.int .i64 16),(.int .i64 0)],[(.int .i64 15),(.int .i64 0)],[(.int .i64 14),(.int .i64 0)],[(.int .i64 13),(.int .i64 0)],[(.int .i64 12),(.int .i64 0)],[(.int .i64 11),(.int .i64 0)],[(.int .i64 10),(.int .i64 1)],[(.int .i64 9),(.int .i64 1)],[(.int .i64 8),(.int .i64 0)],[(.int .i64 7),(.int .i64 0)],[(.int .i64 6),(.int .i64 1)],[(.int .i64 5),(.int .i64 1)],[(.int .i64 4),(.int .i64 0)],[(.int .i64 3),(.int .i64 0)],[(.int .i64 2),(.int .i64 2)],[(.int .i64 2),(.int .i64 0)],[(.int .i64 1),(.int .i64 1)]]),ko97,(.bool true)],[(.bool true),ko177,ko122,(.imm [[(.int .i64 10)],[(.int .i64 1)]]),(.bool false)],[(.bool true),(.imm [[(.int .i64 3)],[(.int .i64 24)]]),ko164,(.imm [[(.int .i64 2)]]),(.bool false)],[(.bool true),(.imm [[(.int .i64 4)],[(.int .i64 27)]]),(.imm [[(.int .i64 9),(.int .i64 1)]]),.nilSl,(.bool false)],[(.bool true),ko150,ko139,(.imm [[(.int .i64 9)]]),(.bool false)],[(.bool false),(.imm [[(.int .i64 7)]]),ko163,(.imm [[(.int .i64 9)]]),(.bool false)],[(.bool true),(.imm [[(.int .i64 8)],[(.int .i64 19)]]),ko138,(.imm [[(.int .i64 7)],[(.int .i64 8)]]),(.bool false)],[(.bool true),ko171,ko125,(.imm [[(.int .i64 5)],[(.int .i64 6)]]),(.bool false)],[(.bool true),(.imm [[(.int .i64 11)],[(.int .i64 20)]]),ko140,(.imm [[(.int .i64 3)],[(.int .i64 4)]]),(.bool false)],[(.bool false),(.imm [[(.int .i64 12)]]),ko160,(.imm [[(.int .i64 5)]]),(.bool false)],[(.bool true),(.imm [[(.int .i64 15)]]),(.imm [[(.int .i64 5),(.int .i64 1)]]),.nilSl,(.bool false)],[(.bool false),(.imm [[(.int .i64 16)]]),ko161,(.imm [[(.int .i64 6)]]),(.bool false)],[(.bool false),(.imm [[(.int .i64 23)]]),(.imm [[(.int .i64 2),(.int .i64 1)]]),.nilSl,(.bool false)],[(.bool false),(.imm [[(.int .i64 28)]]),ko158,(.imm [[(.int .i64 10)]]),(.bool false)],[(.bool true),(.imm [[(.int .i64 31)]]),ko89,ko105,(.bool true)]]),(.int .i64 0)])⟩
theorem mo264:mm264.Ok Tryz.prog:=known_of (l:=[]) trivial mm264 (by kernel_rfl)
def mm269:Memo:=⟨38,[ko86,(.int .i64 2)],.nilSl⟩
theorem mo269:mm269.Ok Tryz.prog:=known_of (l:=[]) trivial mm269 (by kernel_rfl)
def mm286:Memo:=⟨66,[ko9,(.int .i64 9)],(.int .i64 4)⟩
theorem mo286:mm286.Ok Tryz.prog:=known_of (l:=[]) trivial mm286 (by kernel_rfl)
def mm296:Memo:=⟨39,[ko102],(.int .i64 0)⟩
theorem mo296:mm296.Ok Tryz.prog:=known_of (l:=[]) trivial mm296 (by kernel_rfl)
def mm314:Memo:=⟨67,[ko6,(.int .i64 7),(.int .i64 5)],(.bool true)⟩
theorem mo314:mm314.Ok Tryz.prog:=known_of (l:=[]) trivial mm314 (by kernel_rfl)
def mm320:Memo:=⟨77,[ko77],(.tuple [ko5,(.int .i64 0)])⟩
theorem mo320:mm320.Ok Tryz.prog:=known_of (l:=[]) trivial mm320 (by kernel_rfl)
def mm332:Memo:=⟨67,[ko1,(.int .i64 3),(.int .i64 10)],(.bool true)⟩
theorem mo332:mm332.Ok Tryz.prog:=known_of (l:=[]) trivial mm332 (by kernel_rfl)
def mm341:Memo:=⟨66,[ko6,(.int .i64 2)],(.int .i64 3)⟩
theorem mo341:mm341.Ok Tryz.prog:=known_of (l:=[]) trivial mm341 (by kernel_rfl)
def mm358:Memo:=⟨67,[ko2,(.int .i64 4),(.int .i64 2)],(.bool true)⟩
theorem mo358:mm358.Ok Tryz.prog:=known_of (l:=[]) trivial mm358 (by kernel_rfl)
end Go.Known
end
section
namespace Go.Known
open Go Go.AE Go.Proofs
def mm94:Memo:=⟨17,[(.agg [(.int .i64 1),(.bool true),(.int .i64 3)])],(.str [82,51])⟩
theorem mo94:mm94.Ok Tryz.prog:=known_of (l:=[]) trivial mm94 (by kernel_rfl)
def mm123:Memo:=⟨65,[ko22,(.int .i64 10),(.bool true)],(.int .i64 3)⟩
theorem mo123:mm123.Ok Tryz.prog:=known_of (l:=[]) trivial mm123 (by kernel_rfl)
def mm138:Memo:=⟨39,[ko54],(.int .i64 0)⟩
theorem mo138:mm138.Ok Tryz.prog:=known_of (l:=[]) trivial mm138 (by kernel_rfl)
def mm141:Memo:=⟨38,[ko54,(.int .i64 9)],.nilSl⟩
theorem mo141:mm141.Ok Tryz.prog:=known_of (l:=[]) trivial mm141 (by kernel_rfl)
def mm142:Memo:=⟨77,[ko54],(.tuple [ko25,(.int .i64 0)])⟩
theorem mo142:mm142.Ok Tryz.prog:=known_of (l:=[]) trivial mm142 (by kernel_rfl)
def mm176:Memo:=⟨65,[ko20,(.int .i64 1),(.bool true)],(.int .i64 2)⟩
theorem mo176:mm176.Ok Tryz.prog:=known_of (l:=[]) trivial mm176 (by kernel_rfl)
def mm225:Memo:=⟨39,[ko101],(.int .i64 0)⟩
theorem mo225:mm225.Ok Tryz.prog:=known_of (l:=[]) trivial mm225 (by kernel_rfl)
def mm242:Memo:=⟨66,[ko13,(.int .i64 9)],(.int .i64 7)⟩
theorem mo242:mm242.Ok Tryz.prog:=known_of (l:=[]) trivial mm242 (by kernel_rfl)
def mm243:Memo:=⟨67,[ko13,(.int .i64 7),(.int .i64 5)],(.bool true)⟩
theorem mo243:mm243.Ok Tryz.prog:=known_of (l:=[]) trivial mm243 (by kernel_rfl)
def mm258:Memo:=⟨77,[ko60],(.tuple [ko10,(.int .i64 0)])⟩
theorem mo258:mm258.Ok Tryz.prog:=known_of (l:=[]) trivial mm258 (by kernel_rfl)
def mm261:Memo:=⟨67,[ko8,(.int .i64 3),(.int .i64 10)],(.bool true)⟩
theorem mo261:mm261.Ok Tryz.prog:=known_of (l:=[]) trivial mm261 (by kernel_rfl)
def mm280:Memo:=⟨39,[ko62],(.int .i64 0)⟩
theorem mo280:mm280.Ok Tryz.prog:=known_of (l:=[]) trivial mm280 (by kernel_rfl)
def mm287:Memo:=⟨67,[ko9,(.int .i64 4),(.int .i64 2)],(.bool true)⟩
theorem mo287:mm287.Ok Tryz.prog:=known_of (l:=[]) trivial mm287 (by kernel_rfl)
def mm290:Memo:=⟨77,[ko39],(.tuple [(.imm [[(.bool false),(.imm [[(.int .i64 0)]]),ko159,(.imm [[(.int .i64 1)]]),(.bool false)],[(.bool false),ko132,(.imm [[(.int .i64 0),(.int .i64 0)],[(.int .i64 30),(.int .i64 0)],[(.int .i64 29),(.int .i64 0)],[(.int .i64 28),(.int .i64 0)],[(.int .i64 27),(.int .i64 0)],[(.int .i64 26),(.int .i64 0)],[(.int .i64 25),(.int .i64 0)],[(.int .i64 24),(.int .i64 0)],[(.int .i64 23),(.int .i64 0)],[(.int .i64 22),(.int .i64 0)],[(.int .i64 21),(.int .i64 0)],[(.int .i64 20),(.int .i64 0)],[(.int .i64 19),(.int .i64 0)],[(.int .i64 18),(.int .i64 0)],[(.int .i64 17),(.int .i64 0)],[(.int .i64 16),(.int .i64 0)],[(.int .i64 15),(.int .i64 0)],[(.int .i64 14),(.int .i64 0)],[(.int .i64 13),(.int .i64 0)],[(.int .i64 12),(.int .i64 0)],[(.int .i64 11),(.int .i64 0)],[(.int .i64 10),(.int .i64 1)],[(.int .i64 9),(.int .i64 2)],[(.int .i64 9),(.int .i64 0)],[(.int .i64 8),(.int .i64 0)],[(.int .i64 7),(.int .i64 0)],[(.int .i64 6),(.int .i64 1)],[(.int .i64 5),(.int .i64 1)],[(.int .i64 4),(.int .i64 0)],[(.int .i64 3),(.int .i64 0)],[(.int .i64 2),(.int .i64 1)],[(.int .i64 1),(.int .i64 1)]]),ko98,(.bool true)],[(.bool true),ko177,ko121,(.imm [[(.int .i64 10)],[(.int .i64 1)]]),(.bool false)],[(.bool true),(.imm [[(.int .i64 3)],[(.int .i64 24)]]),(.imm [[(.int .i64 1),(.int .i64 1)]]),.nilSl,(.bool false)],[(.bool true),(.imm [[(.int .i64 4)],[(.int .i64 27)]]),(.imm [[(.int .i64 9),(.int .i64 2)]]),.nilSl,(.bool false)],[(.bool true),ko150,ko142,(.imm [[(.int .i64 2)]]),(.bool false)],[(.bool false),(.imm [[(.int .i64 7)]]),(.imm [[(.int .i64 9),(.int .i64 1)]]),.nilSl,(.bool false)],[(.bool true),(.imm [[(.int .i64 8)],[(.int .i64 19)]]),ko124,(.imm [[(.int .i64 7)],[(.int .i64 8)],[(.int .i64 9)]]),(.bool false)],[(.bool true),ko171,ko125,(.imm [[(.int .i64 5)],[(.int .i64 6)]]),(.bool false)],[(.bool true),(.imm [[(.int .i64 11)],[(.int .i64 20)]]),ko141,(.imm [[(.int .i64 3)],[(.int .i64 4)]]),(.bool false)],[(.bool false),(.imm [[(.int .i64 12)]]),ko160,(.imm [[(.int .i64 5)]]),(.bool false)],[(.bool true),(.imm [[(.int .i64 15)]]),(.imm [[(.int .i64 5),(.int .i64 1)]]),.nilSl,(.bool false)],[(.bool false),(.imm [[(.int .i64 16)]]),ko161,(.imm [[(.int .i64 6)]]),(.bool false)],[(.bool false),(.imm [[(.int .i64 23)]]),ko166,(.imm [[(.int .i64 2)]]),(.bool false)],[(.bool false),(.imm [[(.int .i64 28)]]),ko157,(.imm [[(.int .i64 10)]]),(.bool false)],[(.bool true),(.imm [[(.int .i64 31)]]),ko89,ko105,(.bool true)]]),(.int .i64 0)])⟩
theorem mo290:mm290.Ok Tryz.prog:=known_of (l:=[]) trivial mm290 (by kernel_rfl)
def mm308:Memo:=⟨38,[ko87,(.int .i64 6)],(.imm [[(.int .i64 4),(.int .i64 5)]])⟩
theorem mo308:mm308.Ok Tryz.prog:=known_of (l:=[]) trivial mm308 (by kernel_rfl)
def mm346:Memo:=⟨77,[ko78],(.tuple [ko5,(.int .i64 0)])⟩
theorem mo346:mm346.Ok Tryz.prog:=known_of (l:=[]) trivial mm346 (by kernel_rfl)
def mm357:Memo:=⟨66,[ko2,(.int .i64 9)],(.int .i64 4)⟩
theorem mo357:mm357.Ok Tryz.prog:=known_of (l:=[]) trivial mm357 (by kernel_rfl)
end Go.Known
end
