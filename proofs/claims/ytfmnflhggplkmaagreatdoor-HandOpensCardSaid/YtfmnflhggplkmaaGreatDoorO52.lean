/- Part 52 of the proof: Oy3. -/
import Derived.Test.YtfmnflhggplkmaaGreatDoorO41
import Derived.Test.YtfmnflhggplkmaaGreatDoorO43
import Derived.Test.YtfmnflhggplkmaaGreatDoorO47
import Derived.Test.YtfmnflhggplkmaaGreatDoorO48
import Derived.Test.YtfmnflhggplkmaaGreatDoorO49
import Derived.Test.YtfmnflhggplkmaaGreatDoorO50
set_option linter.all false
namespace Go.Known
open Go Go.AE Go.Proofs
def mm89:Memo:=⟨15,[(.str [76,49])],(.tuple [(.agg [(.int .i64 1),(.bool false),(.int .i64 1)]),(.int .i64 0)])⟩
theorem mo89:mm89.Ok Tryz.prog:=known_of (l:=[mm86,mm87,mm88]) ⟨mo86,mo87,mo88,trivial⟩ mm89 (by kernel_rfl)
def mm98:Memo:=⟨15,[(.str [76,53])],(.tuple [(.agg [(.int .i64 1),(.bool false),(.int .i64 5)]),(.int .i64 0)])⟩
theorem mo98:mm98.Ok Tryz.prog:=known_of (l:=[mm86,mm87,mm88,mm90,mm91,mm92,mm93,mm94,mm95,mm96,mm97]) ⟨mo86,mo87,mo88,mo90,mo91,mo92,mo93,mo94,mo95,mo96,mo97,trivial⟩ mm98 (by kernel_rfl)
def mm100:Memo:=⟨15,[(.str [82,53])],(.tuple [(.agg [(.int .i64 1),(.bool true),(.int .i64 5)]),(.int .i64 0)])⟩
theorem mo100:mm100.Ok Tryz.prog:=known_of (l:=[mm86,mm87,mm88,mm90,mm91,mm92,mm93,mm94,mm95,mm96,mm97,mm99]) ⟨mo86,mo87,mo88,mo90,mo91,mo92,mo93,mo94,mo95,mo96,mo97,mo99,trivial⟩ mm100 (by kernel_rfl)
def mm101:Memo:=⟨15,[(.str [82,49])],(.tuple [(.agg [(.int .i64 1),(.bool true),(.int .i64 1)]),(.int .i64 0)])⟩
theorem mo101:mm101.Ok Tryz.prog:=known_of (l:=[mm86,mm87,mm88,mm90]) ⟨mo86,mo87,mo88,mo90,trivial⟩ mm101 (by kernel_rfl)
def mm102:Memo:=⟨25,[ko95,(.int .i64 1)],(.tuple [ko84,.nilSl,(.int .i64 0)])⟩
theorem mo102:mm102.Ok Tryz.prog:=known_of (l:=[mm2,mm89,mm98,mm100,mm101,mm3]) ⟨mo2,mo89,mo98,mo100,mo101,mo3,trivial⟩ mm102 (by kernel_rfl)
def mm104:Memo:=⟨15,[(.str [76,50])],(.tuple [(.agg [(.int .i64 1),(.bool false),(.int .i64 2)]),(.int .i64 0)])⟩
theorem mo104:mm104.Ok Tryz.prog:=known_of (l:=[mm86,mm87,mm88,mm90,mm91]) ⟨mo86,mo87,mo88,mo90,mo91,trivial⟩ mm104 (by kernel_rfl)
def mm105:Memo:=⟨15,[(.str [82,50])],(.tuple [(.agg [(.int .i64 1),(.bool true),(.int .i64 2)]),(.int .i64 0)])⟩
theorem mo105:mm105.Ok Tryz.prog:=known_of (l:=[mm86,mm87,mm88,mm90,mm91,mm92]) ⟨mo86,mo87,mo88,mo90,mo91,mo92,trivial⟩ mm105 (by kernel_rfl)
def mm106:Memo:=⟨25,[ko95,(.int .i64 2)],(.tuple [ko84,ko109,(.int .i64 0)])⟩
theorem mo106:mm106.Ok Tryz.prog:=known_of (l:=[mm2,mm89,mm104,mm98,mm100,mm105,mm101,mm3]) ⟨mo2,mo89,mo104,mo98,mo100,mo105,mo101,mo3,trivial⟩ mm106 (by kernel_rfl)
def mm111:Memo:=⟨141,[ko71,ko133],(.tuple [ko51,(.int .i64 0)])⟩
theorem mo111:mm111.Ok Tryz.prog:=known_of (l:=[mm110]) ⟨mo110,trivial⟩ mm111 (by kernel_rfl)
def mm113:Memo:=⟨141,[ko51,ko130],(.tuple [ko52,(.int .i64 0)])⟩
theorem mo113:mm113.Ok Tryz.prog:=known_of (l:=[mm112]) ⟨mo112,trivial⟩ mm113 (by kernel_rfl)
def mm114:Memo:=⟨30,[ko95,ko84,ko117],(.tuple [ko52,ko108,(.int .i64 0)])⟩
theorem mo114:mm114.Ok Tryz.prog:=known_of (l:=[mm2,mm6,mm107,mm108,mm53,mm11,mm58,mm66,mm67,mm72,mm14,mm109,mm111,mm113]) ⟨mo2,mo6,mo107,mo108,mo53,mo11,mo58,mo66,mo67,mo72,mo14,mo109,mo111,mo113,trivial⟩ mm114 (by kernel_rfl)
def mm117:Memo:=⟨48,[ko95,ko52,ko169],(.tuple [(.int .i64 10),(.bool true)])⟩
theorem mo117:mm117.Ok Tryz.prog:=known_of (l:=[mm116]) ⟨mo116,trivial⟩ mm117 (by kernel_rfl)
def mm120:Memo:=⟨63,[ko52],ko22⟩
theorem mo120:mm120.Ok Tryz.prog:=known_of (l:=[mm119]) ⟨mo119,trivial⟩ mm120 (by kernel_rfl)
def mm124:Memo:=⟨141,[ko52,ko131],(.tuple [ko29,(.int .i64 0)])⟩
theorem mo124:mm124.Ok Tryz.prog:=known_of (l:=[mm119]) ⟨mo119,trivial⟩ mm124 (by kernel_rfl)
def mm126:Memo:=⟨141,[ko29,ko128],(.tuple [ko30,(.int .i64 0)])⟩
theorem mo126:mm126.Ok Tryz.prog:=known_of (l:=[mm125]) ⟨mo125,trivial⟩ mm126 (by kernel_rfl)
def mm127:Memo:=⟨30,[ko95,ko52,ko126],(.tuple [ko30,ko115,(.int .i64 0)])⟩
theorem mo127:mm127.Ok Tryz.prog:=known_of (l:=[mm2,mm115,mm117,mm118,mm120,mm121,mm122,mm123,mm124,mm126]) ⟨mo2,mo115,mo117,mo118,mo120,mo121,mo122,mo123,mo124,mo126,trivial⟩ mm127 (by kernel_rfl)
def mm128:Memo:=⟨28,[ko95,ko84,ko109],(.tuple [ko30,(.int .i64 2),(.int .i64 0)])⟩
theorem mo128:mm128.Ok Tryz.prog:=known_of (l:=[mm2,mm6,mm114,mm127]) ⟨mo2,mo6,mo114,mo127,trivial⟩ mm128 (by kernel_rfl)
def mm129:Memo:=⟨25,[ko95,(.int .i64 3)],(.tuple [ko84,ko110,(.int .i64 0)])⟩
theorem mo129:mm129.Ok Tryz.prog:=known_of (l:=[mm2,mm89,mm104,mm98,mm100,mm105,mm101,mm3]) ⟨mo2,mo89,mo104,mo98,mo100,mo105,mo101,mo3,trivial⟩ mm129 (by kernel_rfl)
def mm134:Memo:=⟨141,[ko72,ko134],(.tuple [ko53,(.int .i64 0)])⟩
theorem mo134:mm134.Ok Tryz.prog:=known_of (l:=[mm133]) ⟨mo133,trivial⟩ mm134 (by kernel_rfl)
def mm136:Memo:=⟨141,[ko53,ko129],(.tuple [ko54,(.int .i64 0)])⟩
theorem mo136:mm136.Ok Tryz.prog:=known_of (l:=[mm135]) ⟨mo135,trivial⟩ mm136 (by kernel_rfl)
def mm137:Memo:=⟨30,[ko95,ko84,ko118],(.tuple [ko54,ko107,(.int .i64 0)])⟩
theorem mo137:mm137.Ok Tryz.prog:=known_of (l:=[mm2,mm6,mm108,mm107,mm46,mm11,mm130,mm13,mm131,mm59,mm60,mm132,mm134,mm136]) ⟨mo2,mo6,mo108,mo107,mo46,mo11,mo130,mo13,mo131,mo59,mo60,mo132,mo134,mo136,trivial⟩ mm137 (by kernel_rfl)
def mm140:Memo:=⟨48,[ko95,ko54,ko170],(.tuple [(.int .i64 2),(.bool true)])⟩
theorem mo140:mm140.Ok Tryz.prog:=known_of (l:=[mm139]) ⟨mo139,trivial⟩ mm140 (by kernel_rfl)
def mm143:Memo:=⟨63,[ko54],ko23⟩
theorem mo143:mm143.Ok Tryz.prog:=known_of (l:=[mm142]) ⟨mo142,trivial⟩ mm143 (by kernel_rfl)
def mm147:Memo:=⟨141,[ko54,ko133],(.tuple [ko31,(.int .i64 0)])⟩
theorem mo147:mm147.Ok Tryz.prog:=known_of (l:=[mm142]) ⟨mo142,trivial⟩ mm147 (by kernel_rfl)
def mm149:Memo:=⟨141,[ko31,ko130],(.tuple [ko32,(.int .i64 0)])⟩
theorem mo149:mm149.Ok Tryz.prog:=known_of (l:=[mm148]) ⟨mo148,trivial⟩ mm149 (by kernel_rfl)
def mm150:Memo:=⟨30,[ko95,ko54,ko127],(.tuple [ko32,ko116,(.int .i64 0)])⟩
theorem mo150:mm150.Ok Tryz.prog:=known_of (l:=[mm2,mm138,mm140,mm141,mm143,mm144,mm145,mm146,mm147,mm149]) ⟨mo2,mo138,mo140,mo141,mo143,mo144,mo145,mo146,mo147,mo149,trivial⟩ mm150 (by kernel_rfl)
def mm151:Memo:=⟨28,[ko95,ko84,ko110],(.tuple [ko32,(.int .i64 2),(.int .i64 0)])⟩
theorem mo151:mm151.Ok Tryz.prog:=known_of (l:=[mm2,mm6,mm137,mm150]) ⟨mo2,mo6,mo137,mo150,trivial⟩ mm151 (by kernel_rfl)
def mm153:Memo:=⟨25,[ko95,(.int .i64 4)],(.tuple [ko100,.nilSl,(.int .i64 0)])⟩
theorem mo153:mm153.Ok Tryz.prog:=known_of (l:=[mm2,mm104,mm105,mm152]) ⟨mo2,mo104,mo105,mo152,trivial⟩ mm153 (by kernel_rfl)
def mm159:Memo:=⟨19,[ko83,ko154],(.tuple [ko85,(.int .i64 0)])⟩
theorem mo159:mm159.Ok Tryz.prog:=known_of (l:=[mm158]) ⟨mo158,trivial⟩ mm159 (by kernel_rfl)
def mm160:Memo:=⟨25,[ko83,(.int .i64 1)],(.tuple [ko85,.nilSl,(.int .i64 0)])⟩
theorem mo160:mm160.Ok Tryz.prog:=known_of (l:=[mm158,mm89,mm98,mm100,mm101,mm159]) ⟨mo158,mo89,mo98,mo100,mo101,mo159,trivial⟩ mm160 (by kernel_rfl)
def mm163:Memo:=⟨25,[ko83,(.int .i64 2)],(.tuple [ko85,ko109,(.int .i64 0)])⟩
theorem mo163:mm163.Ok Tryz.prog:=known_of (l:=[mm158,mm89,mm104,mm98,mm100,mm105,mm101,mm159]) ⟨mo158,mo89,mo104,mo98,mo100,mo105,mo101,mo159,trivial⟩ mm163 (by kernel_rfl)
def mm197:Memo:=⟨25,[ko83,(.int .i64 3)],(.tuple [ko85,ko110,(.int .i64 0)])⟩
theorem mo197:mm197.Ok Tryz.prog:=known_of (l:=[mm158,mm89,mm104,mm98,mm100,mm105,mm101,mm159]) ⟨mo158,mo89,mo104,mo98,mo100,mo105,mo101,mo159,trivial⟩ mm197 (by kernel_rfl)
def mm223:Memo:=⟨19,[ko83,(.imm [[(.int .i64 2)],[(.int .i64 9)]])],(.tuple [ko101,(.int .i64 0)])⟩
theorem mo223:mm223.Ok Tryz.prog:=known_of (l:=[mm158]) ⟨mo158,trivial⟩ mm223 (by kernel_rfl)
def mm224:Memo:=⟨25,[ko83,(.int .i64 4)],(.tuple [ko101,.nilSl,(.int .i64 0)])⟩
theorem mo224:mm224.Ok Tryz.prog:=known_of (l:=[mm158,mm104,mm105,mm223]) ⟨mo158,mo104,mo105,mo223,trivial⟩ mm224 (by kernel_rfl)
def mm230:Memo:=⟨19,[ko49,ko154],(.tuple [ko86,(.int .i64 0)])⟩
theorem mo230:mm230.Ok Tryz.prog:=known_of (l:=[mm229]) ⟨mo229,trivial⟩ mm230 (by kernel_rfl)
def mm231:Memo:=⟨25,[ko49,(.int .i64 1)],(.tuple [ko86,.nilSl,(.int .i64 0)])⟩
theorem mo231:mm231.Ok Tryz.prog:=known_of (l:=[mm229,mm89,mm98,mm100,mm101,mm230]) ⟨mo229,mo89,mo98,mo100,mo101,mo230,trivial⟩ mm231 (by kernel_rfl)
def mm234:Memo:=⟨25,[ko49,(.int .i64 2)],(.tuple [ko86,ko109,(.int .i64 0)])⟩
theorem mo234:mm234.Ok Tryz.prog:=known_of (l:=[mm229,mm89,mm104,mm98,mm100,mm105,mm101,mm230]) ⟨mo229,mo89,mo104,mo98,mo100,mo105,mo101,mo230,trivial⟩ mm234 (by kernel_rfl)
def mm268:Memo:=⟨25,[ko49,(.int .i64 3)],(.tuple [ko86,ko110,(.int .i64 0)])⟩
theorem mo268:mm268.Ok Tryz.prog:=known_of (l:=[mm229,mm89,mm104,mm98,mm100,mm105,mm101,mm230]) ⟨mo229,mo89,mo104,mo98,mo100,mo105,mo101,mo230,trivial⟩ mm268 (by kernel_rfl)
def mm294:Memo:=⟨19,[ko49,(.imm [[(.int .i64 2)],[(.int .i64 9)]])],(.tuple [ko102,(.int .i64 0)])⟩
theorem mo294:mm294.Ok Tryz.prog:=known_of (l:=[mm229]) ⟨mo229,trivial⟩ mm294 (by kernel_rfl)
def mm295:Memo:=⟨25,[ko49,(.int .i64 4)],(.tuple [ko102,.nilSl,(.int .i64 0)])⟩
theorem mo295:mm295.Ok Tryz.prog:=known_of (l:=[mm229,mm104,mm105,mm294]) ⟨mo229,mo104,mo105,mo294,trivial⟩ mm295 (by kernel_rfl)
def mm301:Memo:=⟨19,[ko28,ko154],(.tuple [ko87,(.int .i64 0)])⟩
theorem mo301:mm301.Ok Tryz.prog:=known_of (l:=[mm300]) ⟨mo300,trivial⟩ mm301 (by kernel_rfl)
def mm302:Memo:=⟨25,[ko28,(.int .i64 1)],(.tuple [ko87,.nilSl,(.int .i64 0)])⟩
theorem mo302:mm302.Ok Tryz.prog:=known_of (l:=[mm300,mm89,mm98,mm100,mm101,mm301]) ⟨mo300,mo89,mo98,mo100,mo101,mo301,trivial⟩ mm302 (by kernel_rfl)
def mm305:Memo:=⟨25,[ko28,(.int .i64 2)],(.tuple [ko87,ko109,(.int .i64 0)])⟩
theorem mo305:mm305.Ok Tryz.prog:=known_of (l:=[mm300,mm89,mm104,mm98,mm100,mm105,mm101,mm301]) ⟨mo300,mo89,mo104,mo98,mo100,mo105,mo101,mo301,trivial⟩ mm305 (by kernel_rfl)
def mm339:Memo:=⟨25,[ko28,(.int .i64 3)],(.tuple [ko87,ko110,(.int .i64 0)])⟩
theorem mo339:mm339.Ok Tryz.prog:=known_of (l:=[mm300,mm89,mm104,mm98,mm100,mm105,mm101,mm301]) ⟨mo300,mo89,mo104,mo98,mo100,mo105,mo101,mo301,trivial⟩ mm339 (by kernel_rfl)
def mm365:Memo:=⟨19,[ko28,(.imm [[(.int .i64 2)],[(.int .i64 9)]])],(.tuple [ko103,(.int .i64 0)])⟩
theorem mo365:mm365.Ok Tryz.prog:=known_of (l:=[mm300]) ⟨mo300,trivial⟩ mm365 (by kernel_rfl)
def mm366:Memo:=⟨25,[ko28,(.int .i64 4)],(.tuple [ko103,.nilSl,(.int .i64 0)])⟩
theorem mo366:mm366.Ok Tryz.prog:=known_of (l:=[mm300,mm104,mm105,mm365]) ⟨mo300,mo104,mo105,mo365,trivial⟩ mm366 (by kernel_rfl)
end Go.Known
