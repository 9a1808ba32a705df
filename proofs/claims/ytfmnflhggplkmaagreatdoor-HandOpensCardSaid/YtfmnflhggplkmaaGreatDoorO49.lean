/- Part 49 of the proof: Ox4, Ox5. -/
import Derived.Test.YtfmnflhggplkmaaGreatDoorO43
set_option linter.all false
section
namespace Go.Known
open Go Go.AE Go.Proofs
def mm95:Memo:=⟨17,[(.agg [(.int .i64 1),(.bool false),(.int .i64 4)])],(.str [76,52])⟩
theorem mo95:mm95.Ok Tryz.prog:=known_of (l:=[]) trivial mm95 (by kernel_rfl)
def mm125:Memo:=⟨77,[ko29],(.tuple [(.imm [[(.bool false),(.imm [[(.int .i64 0)]]),ko159,(.imm [[(.int .i64 1)]]),(.bool false)],[(.bool false),ko132,(.imm [[(.int .i64 0),(.int .i64 0)],[(.int .i64 10),(.int .i64 1)],[(.int .i64 9),(.int .i64 1)],[(.int .i64 8),(.int .i64 0)],[(.int .i64 7),(.int .i64 0)],[(.int .i64 6),(.int .i64 1)],[(.int .i64 5),(.int .i64 1)],[(.int .i64 4),(.int .i64 0)],[(.int .i64 3),(.int .i64 0)],[(.int .i64 2),(.int .i64 2)],[(.int .i64 2),(.int .i64 0)],[(.int .i64 1),(.int .i64 1)]]),ko145,(.bool true)],[(.bool true),ko177,ko122,(.imm [[(.int .i64 10)],[(.int .i64 1)]]),(.bool false)],[(.bool true),(.imm [[(.int .i64 3)],[(.int .i64 24)]]),ko164,(.imm [[(.int .i64 2)]]),(.bool false)],[(.bool true),(.imm [[(.int .i64 4)],[(.int .i64 27)]]),(.imm [[(.int .i64 9),(.int .i64 1)]]),.nilSl,(.bool false)],[(.bool true),ko150,ko139,(.imm [[(.int .i64 9)]]),(.bool false)],[(.bool false),(.imm [[(.int .i64 7)]]),ko163,(.imm [[(.int .i64 9)]]),(.bool false)],[(.bool true),(.imm [[(.int .i64 8)],[(.int .i64 19)]]),ko138,(.imm [[(.int .i64 7)],[(.int .i64 8)]]),(.bool false)],[(.bool true),ko171,ko125,(.imm [[(.int .i64 5)],[(.int .i64 6)]]),(.bool false)],[(.bool true),(.imm [[(.int .i64 11)],[(.int .i64 20)]]),ko140,(.imm [[(.int .i64 3)],[(.int .i64 4)]]),(.bool false)],[(.bool false),(.imm [[(.int .i64 12)]]),ko160,(.imm [[(.int .i64 5)]]),(.bool false)],[(.bool true),(.imm [[(.int .i64 15)]]),(.imm [[(.int .i64 5),(.int .i64 1)]]),.nilSl,(.bool false)],[(.bool false),(.imm [[(.int .i64 16)]]),ko161,(.imm [[(.int .i64 6)]]),(.bool false)],[(.bool false),(.imm [[(.int .i64 23)]]),(.imm [[(.int .i64 2),(.int .i64 1)]]),.nilSl,(.bool false)],[(.bool false),(.imm [[(.int .i64 28)]]),ko158,(.imm [[(.int .i64 10)]]),(.bool false)],[(.bool true),(.imm [[(.int .i64 31)]]),ko156,.nilSl,(.bool true)]]),(.int .i64 0)])⟩
theorem mo125:mm125.Ok Tryz.prog:=known_of (l:=[]) trivial mm125 (by kernel_rfl)
def mm164:Memo:=⟨38,[ko85,(.int .i64 5)],(.imm [[(.int .i64 2),(.int .i64 3)]])⟩
theorem mo164:mm164.Ok Tryz.prog:=known_of (l:=[]) trivial mm164 (by kernel_rfl)
def mm169:Memo:=⟨77,[ko85],(.tuple [ko21,(.int .i64 0)])⟩
theorem mo169:mm169.Ok Tryz.prog:=known_of (l:=[]) trivial mm169 (by kernel_rfl)
def mm178:Memo:=⟨77,[ko73],(.tuple [ko19,(.int .i64 0)])⟩
theorem mo178:mm178.Ok Tryz.prog:=known_of (l:=[]) trivial mm178 (by kernel_rfl)
def mm184:Memo:=⟨38,[ko56,(.int .i64 6)],(.imm [[(.int .i64 8),(.int .i64 9)]])⟩
theorem mo184:mm184.Ok Tryz.prog:=known_of (l:=[]) trivial mm184 (by kernel_rfl)
def mm193:Memo:=⟨77,[ko33],(.tuple [(.imm [[(.bool false),(.imm [[(.int .i64 0)]]),ko159,(.imm [[(.int .i64 1)]]),(.bool false)],[(.bool false),ko132,(.imm [[(.int .i64 0),(.int .i64 0)],[(.int .i64 20),(.int .i64 0)],[(.int .i64 19),(.int .i64 0)],[(.int .i64 18),(.int .i64 0)],[(.int .i64 17),(.int .i64 0)],[(.int .i64 16),(.int .i64 0)],[(.int .i64 15),(.int .i64 0)],[(.int .i64 14),(.int .i64 0)],[(.int .i64 13),(.int .i64 0)],[(.int .i64 12),(.int .i64 0)],[(.int .i64 11),(.int .i64 0)],[(.int .i64 10),(.int .i64 1)],[(.int .i64 9),(.int .i64 1)],[(.int .i64 8),(.int .i64 0)],[(.int .i64 7),(.int .i64 0)],[(.int .i64 6),(.int .i64 1)],[(.int .i64 5),(.int .i64 1)],[(.int .i64 4),(.int .i64 0)],[(.int .i64 3),(.int .i64 0)],[(.int .i64 2),(.int .i64 2)],[(.int .i64 2),(.int .i64 0)],[(.int .i64 1),(.int .i64 1)]]),ko112,(.bool true)],[(.bool true),ko177,ko122,(.imm [[(.int .i64 10)],[(.int .i64 1)]]),(.bool false)],[(.bool true),(.imm [[(.int .i64 3)],[(.int .i64 24)]]),ko164,(.imm [[(.int .i64 2)]]),(.bool false)],[(.bool true),(.imm [[(.int .i64 4)],[(.int .i64 27)]]),(.imm [[(.int .i64 9),(.int .i64 1)]]),.nilSl,(.bool false)],[(.bool true),ko150,ko139,(.imm [[(.int .i64 9)]]),(.bool false)],[(.bool false),(.imm [[(.int .i64 7)]]),ko163,(.imm [[(.int .i64 9)]]),(.bool false)],[(.bool true),(.imm [[(.int .i64 8)],[(.int .i64 19)]]),ko138,(.imm [[(.int .i64 7)],[(.int .i64 8)]]),(.bool false)],[(.bool true),ko171,ko125,(.imm [[(.int .i64 5)],[(.int .i64 6)]]),(.bool false)],[(.bool true),(.imm [[(.int .i64 11)],[(.int .i64 20)]]),ko140,(.imm [[(.int .i64 3)],[(.int .i64 4)]]),(.bool false)],[(.bool false),(.imm [[(.int .i64 12)]]),ko160,(.imm [[(.int .i64 5)]]),(.bool false)],[(.bool true),(.imm [[(.int .i64 15)]]),(.imm [[(.int .i64 5),(.int .i64 1)]]),.nilSl,(.bool false)],[(.bool false),(.imm [[(.int .i64 16)]]),ko161,(.imm [[(.int .i64 6)]]),(.bool false)],[(.bool false),(.imm [[(.int .i64 23)]]),(.imm [[(.int .i64 2),(.int .i64 1)]]),.nilSl,(.bool false)],[(.bool false),(.imm [[(.int .i64 28)]]),ko158,(.imm [[(.int .i64 10)]]),(.bool false)],[(.bool true),(.imm [[(.int .i64 31)]]),ko99,ko119,(.bool true)]]),(.int .i64 0)])⟩
theorem mo193:mm193.Ok Tryz.prog:=known_of (l:=[]) trivial mm193 (by kernel_rfl)
def mm198:Memo:=⟨38,[ko85,(.int .i64 2)],.nilSl⟩
theorem mo198:mm198.Ok Tryz.prog:=known_of (l:=[]) trivial mm198 (by kernel_rfl)
def mm206:Memo:=⟨77,[ko57],(.tuple [(.imm [[(.bool false),(.imm [[(.int .i64 0)]]),ko159,(.imm [[(.int .i64 1)]]),(.bool false)],[(.bool false),ko144,(.imm [[(.int .i64 0),(.int .i64 0)],[(.int .i64 20),(.int .i64 0)],[(.int .i64 19),(.int .i64 0)],[(.int .i64 18),(.int .i64 0)],[(.int .i64 17),(.int .i64 0)],[(.int .i64 16),(.int .i64 0)],[(.int .i64 15),(.int .i64 0)],[(.int .i64 14),(.int .i64 0)],[(.int .i64 13),(.int .i64 0)],[(.int .i64 12),(.int .i64 0)],[(.int .i64 11),(.int .i64 0)],[(.int .i64 10),(.int .i64 1)],[(.int .i64 9),(.int .i64 0)],[(.int .i64 8),(.int .i64 0)],[(.int .i64 7),(.int .i64 0)],[(.int .i64 6),(.int .i64 1)],[(.int .i64 5),(.int .i64 1)],[(.int .i64 4),(.int .i64 0)],[(.int .i64 3),(.int .i64 0)],[(.int .i64 2),(.int .i64 2)],[(.int .i64 2),(.int .i64 0)],[(.int .i64 1),(.int .i64 1)]]),ko111,(.bool true)],[(.bool true),ko175,ko120,(.imm [[(.int .i64 10)],[(.int .i64 1)]]),(.bool false)],[(.bool true),(.imm [[(.int .i64 3)],[(.int .i64 20)]]),ko164,(.imm [[(.int .i64 2)]]),(.bool false)],[(.bool true),ko178,ko124,(.imm [[(.int .i64 7)],[(.int .i64 8)],[(.int .i64 9)]]),(.bool false)],[(.bool true),ko179,(.imm [[(.int .i64 2),(.int .i64 1)]]),.nilSl,(.bool false)],[(.bool true),ko174,ko125,(.imm [[(.int .i64 5)],[(.int .i64 6)]]),(.bool false)],[(.bool true),(.imm [[(.int .i64 7)],[(.int .i64 16)]]),ko140,(.imm [[(.int .i64 3)],[(.int .i64 4)]]),(.bool false)],[(.bool false),(.imm [[(.int .i64 8)]]),ko160,(.imm [[(.int .i64 5)]]),(.bool false)],[(.bool true),(.imm [[(.int .i64 11)]]),(.imm [[(.int .i64 5),(.int .i64 1)]]),.nilSl,(.bool false)],[(.bool false),(.imm [[(.int .i64 12)]]),ko161,(.imm [[(.int .i64 6)]]),(.bool false)],[(.bool false),(.imm [[(.int .i64 19)]]),(.imm [[(.int .i64 2),(.int .i64 1)]]),.nilSl,(.bool false)],[(.bool false),(.imm [[(.int .i64 24)]]),ko155,(.imm [[(.int .i64 10)]]),(.bool false)],[(.bool true),(.imm [[(.int .i64 27)]]),ko99,ko119,(.bool true)]]),(.int .i64 0)])⟩
theorem mo206:mm206.Ok Tryz.prog:=known_of (l:=[]) trivial mm206 (by kernel_rfl)
def mm212:Memo:=⟨38,[ko58,(.int .i64 9)],.nilSl⟩
theorem mo212:mm212.Ok Tryz.prog:=known_of (l:=[]) trivial mm212 (by kernel_rfl)
def mm244:Memo:=⟨65,[ko13,(.int .i64 5),(.bool true)],(.int .i64 2)⟩
theorem mo244:mm244.Ok Tryz.prog:=known_of (l:=[]) trivial mm244 (by kernel_rfl)
def mm271:Memo:=⟨67,[ko13,(.int .i64 3),(.int .i64 1)],(.bool true)⟩
theorem mo271:mm271.Ok Tryz.prog:=known_of (l:=[]) trivial mm271 (by kernel_rfl)
def mm273:Memo:=⟨67,[ko13,(.int .i64 2),(.int .i64 5)],(.bool true)⟩
theorem mo273:mm273.Ok Tryz.prog:=known_of (l:=[]) trivial mm273 (by kernel_rfl)
def mm281:Memo:=⟨38,[ko62,(.int .i64 5)],(.imm [[(.int .i64 4),(.int .i64 5)]])⟩
theorem mo281:mm281.Ok Tryz.prog:=known_of (l:=[]) trivial mm281 (by kernel_rfl)
def mm288:Memo:=⟨65,[ko9,(.int .i64 2),(.bool true)],(.int .i64 4)⟩
theorem mo288:mm288.Ok Tryz.prog:=known_of (l:=[]) trivial mm288 (by kernel_rfl)
def mm303:Memo:=⟨39,[ko87],(.int .i64 0)⟩
theorem mo303:mm303.Ok Tryz.prog:=known_of (l:=[]) trivial mm303 (by kernel_rfl)
def mm317:Memo:=⟨67,[ko6,(.int .i64 2),(.int .i64 1)],(.bool true)⟩
theorem mo317:mm317.Ok Tryz.prog:=known_of (l:=[]) trivial mm317 (by kernel_rfl)
end Go.Known
end
section
namespace Go.Known
open Go Go.AE Go.Proofs
def mm92:Memo:=⟨17,[(.agg [(.int .i64 1),(.bool true),(.int .i64 2)])],(.str [82,50])⟩
theorem mo92:mm92.Ok Tryz.prog:=known_of (l:=[]) trivial mm92 (by kernel_rfl)
def mm148:Memo:=⟨77,[ko31],(.tuple [(.imm [[(.bool false),(.imm [[(.int .i64 0)]]),ko159,(.imm [[(.int .i64 1)]]),(.bool false)],[(.bool false),ko132,(.imm [[(.int .i64 0),(.int .i64 0)],[(.int .i64 10),(.int .i64 1)],[(.int .i64 9),(.int .i64 2)],[(.int .i64 9),(.int .i64 0)],[(.int .i64 8),(.int .i64 0)],[(.int .i64 7),(.int .i64 0)],[(.int .i64 6),(.int .i64 1)],[(.int .i64 5),(.int .i64 1)],[(.int .i64 4),(.int .i64 0)],[(.int .i64 3),(.int .i64 0)],[(.int .i64 2),(.int .i64 1)],[(.int .i64 1),(.int .i64 1)]]),ko146,(.bool true)],[(.bool true),ko177,ko121,(.imm [[(.int .i64 10)],[(.int .i64 1)]]),(.bool false)],[(.bool true),(.imm [[(.int .i64 3)],[(.int .i64 24)]]),(.imm [[(.int .i64 1),(.int .i64 1)]]),.nilSl,(.bool false)],[(.bool true),(.imm [[(.int .i64 4)],[(.int .i64 27)]]),(.imm [[(.int .i64 9),(.int .i64 2)]]),.nilSl,(.bool false)],[(.bool true),ko150,ko142,(.imm [[(.int .i64 2)]]),(.bool false)],[(.bool false),(.imm [[(.int .i64 7)]]),(.imm [[(.int .i64 9),(.int .i64 1)]]),.nilSl,(.bool false)],[(.bool true),(.imm [[(.int .i64 8)],[(.int .i64 19)]]),ko124,(.imm [[(.int .i64 7)],[(.int .i64 8)],[(.int .i64 9)]]),(.bool false)],[(.bool true),ko171,ko125,(.imm [[(.int .i64 5)],[(.int .i64 6)]]),(.bool false)],[(.bool true),(.imm [[(.int .i64 11)],[(.int .i64 20)]]),ko141,(.imm [[(.int .i64 3)],[(.int .i64 4)]]),(.bool false)],[(.bool false),(.imm [[(.int .i64 12)]]),ko160,(.imm [[(.int .i64 5)]]),(.bool false)],[(.bool true),(.imm [[(.int .i64 15)]]),(.imm [[(.int .i64 5),(.int .i64 1)]]),.nilSl,(.bool false)],[(.bool false),(.imm [[(.int .i64 16)]]),ko161,(.imm [[(.int .i64 6)]]),(.bool false)],[(.bool false),(.imm [[(.int .i64 23)]]),ko166,(.imm [[(.int .i64 2)]]),(.bool false)],[(.bool false),(.imm [[(.int .i64 28)]]),ko157,(.imm [[(.int .i64 10)]]),(.bool false)],[(.bool true),(.imm [[(.int .i64 31)]]),ko156,.nilSl,(.bool true)]]),(.int .i64 0)])⟩
theorem mo148:mm148.Ok Tryz.prog:=known_of (l:=[]) trivial mm148 (by kernel_rfl)
def mm154:Memo:=⟨39,[ko100],(.int .i64 0)⟩
theorem mo154:mm154.Ok Tryz.prog:=known_of (l:=[]) trivial mm154 (by kernel_rfl)
def mm200:Memo:=⟨67,[ko20,(.int .i64 3),(.int .i64 1)],(.bool true)⟩
theorem mo200:mm200.Ok Tryz.prog:=known_of (l:=[]) trivial mm200 (by kernel_rfl)
def mm202:Memo:=⟨67,[ko20,(.int .i64 2),(.int .i64 5)],(.bool true)⟩
theorem mo202:mm202.Ok Tryz.prog:=known_of (l:=[]) trivial mm202 (by kernel_rfl)
def mm204:Memo:=⟨77,[ko74],(.tuple [ko19,(.int .i64 0)])⟩
theorem mo204:mm204.Ok Tryz.prog:=known_of (l:=[]) trivial mm204 (by kernel_rfl)
def mm213:Memo:=⟨77,[ko58],(.tuple [ko18,(.int .i64 0)])⟩
theorem mo213:mm213.Ok Tryz.prog:=known_of (l:=[]) trivial mm213 (by kernel_rfl)
def mm215:Memo:=⟨66,[ko16,(.int .i64 9)],(.int .i64 4)⟩
theorem mo215:mm215.Ok Tryz.prog:=known_of (l:=[]) trivial mm215 (by kernel_rfl)
def mm217:Memo:=⟨65,[ko16,(.int .i64 2),(.bool true)],(.int .i64 4)⟩
theorem mo217:mm217.Ok Tryz.prog:=known_of (l:=[]) trivial mm217 (by kernel_rfl)
def mm219:Memo:=⟨77,[ko35],(.tuple [(.imm [[(.bool false),(.imm [[(.int .i64 0)]]),ko159,(.imm [[(.int .i64 1)]]),(.bool false)],[(.bool false),ko132,(.imm [[(.int .i64 0),(.int .i64 0)],[(.int .i64 20),(.int .i64 0)],[(.int .i64 19),(.int .i64 0)],[(.int .i64 18),(.int .i64 0)],[(.int .i64 17),(.int .i64 0)],[(.int .i64 16),(.int .i64 0)],[(.int .i64 15),(.int .i64 0)],[(.int .i64 14),(.int .i64 0)],[(.int .i64 13),(.int .i64 0)],[(.int .i64 12),(.int .i64 0)],[(.int .i64 11),(.int .i64 0)],[(.int .i64 10),(.int .i64 1)],[(.int .i64 9),(.int .i64 2)],[(.int .i64 9),(.int .i64 0)],[(.int .i64 8),(.int .i64 0)],[(.int .i64 7),(.int .i64 0)],[(.int .i64 6),(.int .i64 1)],[(.int .i64 5),(.int .i64 1)],[(.int .i64 4),(.int .i64 0)],[(.int .i64 3),(.int .i64 0)],[(.int .i64 2),(.int .i64 1)],[(.int .i64 1),(.int .i64 1)]]),ko113,(.bool true)],[(.bool true),ko177,ko121,(.imm [[(.int .i64 10)],[(.int .i64 1)]]),(.bool false)],[(.bool true),(.imm [[(.int .i64 3)],[(.int .i64 24)]]),(.imm [[(.int .i64 1),(.int .i64 1)]]),.nilSl,(.bool false)],[(.bool true),(.imm [[(.int .i64 4)],[(.int .i64 27)]]),(.imm [[(.int .i64 9),(.int .i64 2)]]),.nilSl,(.bool false)],[(.bool true),ko150,ko142,(.imm [[(.int .i64 2)]]),(.bool false)],[(.bool false),(.imm [[(.int .i64 7)]]),(.imm [[(.int .i64 9),(.int .i64 1)]]),.nilSl,(.bool false)],[(.bool true),(.imm [[(.int .i64 8)],[(.int .i64 19)]]),ko124,(.imm [[(.int .i64 7)],[(.int .i64 8)],[(.int .i64 9)]]),(.bool false)],[(.bool true),ko171,ko125,(.imm [[(.int .i64 5)],[(.int .i64 6)]]),(.bool false)],[(.bool true),(.imm [[(.int .i64 11)],[(.int .i64 20)]]),ko141,(.imm [[(.int .i64 3)],[(.int .i64 4)]]),(.bool false)],[(.bool false),(.imm [[(.int .i64 12)]]),ko160,(.imm [[(.int .i64 5)]]),(.bool false)],[(.bool true),(.imm [[(.int .i64 15)]]),(.imm [[(.int .i64 5),(.int .i64 1)]]),.nilSl,(.bool false)],[(.bool false),(.imm [[(.int .i64 16)]]),ko161,(.imm [[(.int .i64 6)]]),(.bool false)],[(.bool false),(.imm [[(.int .i64 23)]]),ko166,(.imm [[(.int .i64 2)]]),(.bool false)],[(.bool false),(.imm [[(.int .i64 28)]]),ko157,(.imm [[(.int .i64 10)]]),(.bool false)],[(.bool true),(.imm [[(.int .i64 31)]]),ko99,ko119,(.bool true)]]),(.int .i64 0)])⟩
theorem mo219:mm219.Ok Tryz.prog:=known_of (l:=[]) trivial mm219 (by kernel_rfl)
def mm229:Memo:=⟨10,[ko49],(.bool true)⟩
theorem mo229:mm229.Ok Tryz.prog:=known_of (l:=[]) trivial mm229 (by kernel_rfl)
def mm235:Memo:=⟨38,[ko86,(.int .i64 5)],(.imm [[(.int .i64 2),(.int .i64 3)]])⟩
theorem mo235:mm235.Ok Tryz.prog:=known_of (l:=[]) trivial mm235 (by kernel_rfl)
def mm246:Memo:=⟨67,[ko13,(.int .i64 2),(.int .i64 1)],(.bool true)⟩
theorem mo246:mm246.Ok Tryz.prog:=known_of (l:=[]) trivial mm246 (by kernel_rfl)
def mm260:Memo:=⟨66,[ko8,(.int .i64 2)],(.int .i64 3)⟩
theorem mo260:mm260.Ok Tryz.prog:=known_of (l:=[]) trivial mm260 (by kernel_rfl)
def mm270:Memo:=⟨66,[ko13,(.int .i64 2)],(.int .i64 3)⟩
theorem mo270:mm270.Ok Tryz.prog:=known_of (l:=[]) trivial mm270 (by kernel_rfl)
def mm300:Memo:=⟨10,[ko28],(.bool true)⟩
theorem mo300:mm300.Ok Tryz.prog:=known_of (l:=[]) trivial mm300 (by kernel_rfl)
def mm310:Memo:=⟨38,[ko87,(.int .i64 9)],.nilSl⟩
theorem mo310:mm310.Ok Tryz.prog:=known_of (l:=[]) trivial mm310 (by kernel_rfl)
end Go.Known
end
