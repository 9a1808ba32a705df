/- Part 51 of the proof: Oy0, Oy1, Oy2. -/
import Derived.Test.YtfmnflhggplkmaaGreatDoorO41
import Derived.Test.YtfmnflhggplkmaaGreatDoorO43
import Derived.Test.YtfmnflhggplkmaaGreatDoorO47
import Derived.Test.YtfmnflhggplkmaaGreatDoorO48
import Derived.Test.YtfmnflhggplkmaaGreatDoorO49
import Derived.Test.YtfmnflhggplkmaaGreatDoorO50
set_option linter.all false
section
namespace Go.Known
open Go Go.AE Go.Proofs
def mm155:Memo:=⟨28,[ko95,ko100,.nilSl],(.tuple [ko100,(.int .i64 0),(.int .i64 0)])⟩
theorem mo155:mm155.Ok Tryz.prog:=known_of (l:=[mm2,mm154]) ⟨mo2,mo154,trivial⟩ mm155 (by kernel_rfl)
def mm162:Memo:=⟨28,[ko83,ko85,.nilSl],(.tuple [ko85,(.int .i64 0),(.int .i64 0)])⟩
theorem mo162:mm162.Ok Tryz.prog:=known_of (l:=[mm158,mm161]) ⟨mo158,mo161,trivial⟩ mm162 (by kernel_rfl)
def mm165:Memo:=⟨48,[ko83,ko85,ko167],(.tuple [(.int .i64 1),(.bool true)])⟩
theorem mo165:mm165.Ok Tryz.prog:=known_of (l:=[mm164]) ⟨mo164,trivial⟩ mm165 (by kernel_rfl)
def mm167:Memo:=⟨48,[ko83,ko85,ko168],(.tuple [(.int .i64 5),(.bool true)])⟩
theorem mo167:mm167.Ok Tryz.prog:=known_of (l:=[mm166]) ⟨mo166,trivial⟩ mm167 (by kernel_rfl)
def mm170:Memo:=⟨63,[ko85],ko20⟩
theorem mo170:mm170.Ok Tryz.prog:=known_of (l:=[mm169]) ⟨mo169,trivial⟩ mm170 (by kernel_rfl)
def mm174:Memo:=⟨68,[ko20,(.int .i64 7),(.int .i64 5)],(.int .i64 2)⟩
theorem mo174:mm174.Ok Tryz.prog:=known_of (l:=[mm173]) ⟨mo173,trivial⟩ mm174 (by kernel_rfl)
def mm177:Memo:=⟨141,[ko85,ko135],(.tuple [ko73,(.int .i64 0)])⟩
theorem mo177:mm177.Ok Tryz.prog:=known_of (l:=[mm169]) ⟨mo169,trivial⟩ mm177 (by kernel_rfl)
def mm179:Memo:=⟨141,[ko73,ko133],(.tuple [ko55,(.int .i64 0)])⟩
theorem mo179:mm179.Ok Tryz.prog:=known_of (l:=[mm178]) ⟨mo178,trivial⟩ mm179 (by kernel_rfl)
def mm181:Memo:=⟨141,[ko55,ko130],(.tuple [ko56,(.int .i64 0)])⟩
theorem mo181:mm181.Ok Tryz.prog:=known_of (l:=[mm180]) ⟨mo180,trivial⟩ mm181 (by kernel_rfl)
def mm182:Memo:=⟨30,[ko83,ko85,ko117],(.tuple [ko56,ko108,(.int .i64 0)])⟩
theorem mo182:mm182.Ok Tryz.prog:=known_of (l:=[mm158,mm161,mm165,mm167,mm168,mm170,mm171,mm172,mm174,mm175,mm176,mm177,mm179,mm181]) ⟨mo158,mo161,mo165,mo167,mo168,mo170,mo171,mo172,mo174,mo175,mo176,mo177,mo179,mo181,trivial⟩ mm182 (by kernel_rfl)
def mm185:Memo:=⟨48,[ko83,ko56,ko169],(.tuple [(.int .i64 10),(.bool true)])⟩
theorem mo185:mm185.Ok Tryz.prog:=known_of (l:=[mm184]) ⟨mo184,trivial⟩ mm185 (by kernel_rfl)
def mm188:Memo:=⟨63,[ko56],ko15⟩
theorem mo188:mm188.Ok Tryz.prog:=known_of (l:=[mm187]) ⟨mo187,trivial⟩ mm188 (by kernel_rfl)
def mm192:Memo:=⟨141,[ko56,ko131],(.tuple [ko33,(.int .i64 0)])⟩
theorem mo192:mm192.Ok Tryz.prog:=known_of (l:=[mm187]) ⟨mo187,trivial⟩ mm192 (by kernel_rfl)
def mm194:Memo:=⟨141,[ko33,ko128],(.tuple [ko34,(.int .i64 0)])⟩
theorem mo194:mm194.Ok Tryz.prog:=known_of (l:=[mm193]) ⟨mo193,trivial⟩ mm194 (by kernel_rfl)
def mm195:Memo:=⟨30,[ko83,ko56,ko126],(.tuple [ko34,ko115,(.int .i64 0)])⟩
theorem mo195:mm195.Ok Tryz.prog:=known_of (l:=[mm158,mm183,mm185,mm186,mm188,mm189,mm190,mm191,mm192,mm194]) ⟨mo158,mo183,mo185,mo186,mo188,mo189,mo190,mo191,mo192,mo194,trivial⟩ mm195 (by kernel_rfl)
def mm196:Memo:=⟨28,[ko83,ko85,ko109],(.tuple [ko34,(.int .i64 2),(.int .i64 0)])⟩
theorem mo196:mm196.Ok Tryz.prog:=known_of (l:=[mm158,mm161,mm182,mm195]) ⟨mo158,mo161,mo182,mo195,trivial⟩ mm196 (by kernel_rfl)
def mm201:Memo:=⟨68,[ko20,(.int .i64 3),(.int .i64 1)],(.int .i64 2)⟩
theorem mo201:mm201.Ok Tryz.prog:=known_of (l:=[mm176]) ⟨mo176,trivial⟩ mm201 (by kernel_rfl)
def mm203:Memo:=⟨141,[ko85,ko136],(.tuple [ko74,(.int .i64 0)])⟩
theorem mo203:mm203.Ok Tryz.prog:=known_of (l:=[mm169]) ⟨mo169,trivial⟩ mm203 (by kernel_rfl)
def mm205:Memo:=⟨141,[ko74,ko134],(.tuple [ko57,(.int .i64 0)])⟩
theorem mo205:mm205.Ok Tryz.prog:=known_of (l:=[mm204]) ⟨mo204,trivial⟩ mm205 (by kernel_rfl)
def mm207:Memo:=⟨141,[ko57,ko129],(.tuple [ko58,(.int .i64 0)])⟩
theorem mo207:mm207.Ok Tryz.prog:=known_of (l:=[mm206]) ⟨mo206,trivial⟩ mm207 (by kernel_rfl)
def mm208:Memo:=⟨30,[ko83,ko85,ko118],(.tuple [ko58,ko107,(.int .i64 0)])⟩
theorem mo208:mm208.Ok Tryz.prog:=known_of (l:=[mm158,mm161,mm167,mm165,mm198,mm170,mm199,mm200,mm201,mm202,mm173,mm203,mm205,mm207]) ⟨mo158,mo161,mo167,mo165,mo198,mo170,mo199,mo200,mo201,mo202,mo173,mo203,mo205,mo207,trivial⟩ mm208 (by kernel_rfl)
def mm211:Memo:=⟨48,[ko83,ko58,ko170],(.tuple [(.int .i64 2),(.bool true)])⟩
theorem mo211:mm211.Ok Tryz.prog:=known_of (l:=[mm210]) ⟨mo210,trivial⟩ mm211 (by kernel_rfl)
def mm214:Memo:=⟨63,[ko58],ko16⟩
theorem mo214:mm214.Ok Tryz.prog:=known_of (l:=[mm213]) ⟨mo213,trivial⟩ mm214 (by kernel_rfl)
def mm218:Memo:=⟨141,[ko58,ko133],(.tuple [ko35,(.int .i64 0)])⟩
theorem mo218:mm218.Ok Tryz.prog:=known_of (l:=[mm213]) ⟨mo213,trivial⟩ mm218 (by kernel_rfl)
def mm220:Memo:=⟨141,[ko35,ko130],(.tuple [ko36,(.int .i64 0)])⟩
theorem mo220:mm220.Ok Tryz.prog:=known_of (l:=[mm219]) ⟨mo219,trivial⟩ mm220 (by kernel_rfl)
def mm221:Memo:=⟨30,[ko83,ko58,ko127],(.tuple [ko36,ko116,(.int .i64 0)])⟩
theorem mo221:mm221.Ok Tryz.prog:=known_of (l:=[mm158,mm209,mm211,mm212,mm214,mm215,mm216,mm217,mm218,mm220]) ⟨mo158,mo209,mo211,mo212,mo214,mo215,mo216,mo217,mo218,mo220,trivial⟩ mm221 (by kernel_rfl)
def mm222:Memo:=⟨28,[ko83,ko85,ko110],(.tuple [ko36,(.int .i64 2),(.int .i64 0)])⟩
theorem mo222:mm222.Ok Tryz.prog:=known_of (l:=[mm158,mm161,mm208,mm221]) ⟨mo158,mo161,mo208,mo221,trivial⟩ mm222 (by kernel_rfl)
def mm368:Memo:=⟨28,[ko28,ko103,.nilSl],(.tuple [ko103,(.int .i64 0),(.int .i64 0)])⟩
theorem mo368:mm368.Ok Tryz.prog:=known_of (l:=[mm300,mm367]) ⟨mo300,mo367,trivial⟩ mm368 (by kernel_rfl)
end Go.Known
end
section
namespace Go.Known
open Go Go.AE Go.Proofs
def mm226:Memo:=⟨28,[ko83,ko101,.nilSl],(.tuple [ko101,(.int .i64 0),(.int .i64 0)])⟩
theorem mo226:mm226.Ok Tryz.prog:=known_of (l:=[mm158,mm225]) ⟨mo158,mo225,trivial⟩ mm226 (by kernel_rfl)
def mm233:Memo:=⟨28,[ko49,ko86,.nilSl],(.tuple [ko86,(.int .i64 0),(.int .i64 0)])⟩
theorem mo233:mm233.Ok Tryz.prog:=known_of (l:=[mm229,mm232]) ⟨mo229,mo232,trivial⟩ mm233 (by kernel_rfl)
def mm236:Memo:=⟨48,[ko49,ko86,ko167],(.tuple [(.int .i64 1),(.bool true)])⟩
theorem mo236:mm236.Ok Tryz.prog:=known_of (l:=[mm235]) ⟨mo235,trivial⟩ mm236 (by kernel_rfl)
def mm238:Memo:=⟨48,[ko49,ko86,ko168],(.tuple [(.int .i64 5),(.bool true)])⟩
theorem mo238:mm238.Ok Tryz.prog:=known_of (l:=[mm237]) ⟨mo237,trivial⟩ mm238 (by kernel_rfl)
def mm241:Memo:=⟨63,[ko86],ko13⟩
theorem mo241:mm241.Ok Tryz.prog:=known_of (l:=[mm240]) ⟨mo240,trivial⟩ mm241 (by kernel_rfl)
def mm245:Memo:=⟨68,[ko13,(.int .i64 7),(.int .i64 5)],(.int .i64 2)⟩
theorem mo245:mm245.Ok Tryz.prog:=known_of (l:=[mm244]) ⟨mo244,trivial⟩ mm245 (by kernel_rfl)
def mm248:Memo:=⟨141,[ko86,ko135],(.tuple [ko75,(.int .i64 0)])⟩
theorem mo248:mm248.Ok Tryz.prog:=known_of (l:=[mm240]) ⟨mo240,trivial⟩ mm248 (by kernel_rfl)
def mm250:Memo:=⟨141,[ko75,ko133],(.tuple [ko59,(.int .i64 0)])⟩
theorem mo250:mm250.Ok Tryz.prog:=known_of (l:=[mm249]) ⟨mo249,trivial⟩ mm250 (by kernel_rfl)
def mm252:Memo:=⟨141,[ko59,ko130],(.tuple [ko60,(.int .i64 0)])⟩
theorem mo252:mm252.Ok Tryz.prog:=known_of (l:=[mm251]) ⟨mo251,trivial⟩ mm252 (by kernel_rfl)
def mm253:Memo:=⟨30,[ko49,ko86,ko117],(.tuple [ko60,ko108,(.int .i64 0)])⟩
theorem mo253:mm253.Ok Tryz.prog:=known_of (l:=[mm229,mm232,mm236,mm238,mm239,mm241,mm242,mm243,mm245,mm246,mm247,mm248,mm250,mm252]) ⟨mo229,mo232,mo236,mo238,mo239,mo241,mo242,mo243,mo245,mo246,mo247,mo248,mo250,mo252,trivial⟩ mm253 (by kernel_rfl)
def mm256:Memo:=⟨48,[ko49,ko60,ko169],(.tuple [(.int .i64 10),(.bool true)])⟩
theorem mo256:mm256.Ok Tryz.prog:=known_of (l:=[mm255]) ⟨mo255,trivial⟩ mm256 (by kernel_rfl)
def mm259:Memo:=⟨63,[ko60],ko8⟩
theorem mo259:mm259.Ok Tryz.prog:=known_of (l:=[mm258]) ⟨mo258,trivial⟩ mm259 (by kernel_rfl)
def mm263:Memo:=⟨141,[ko60,ko131],(.tuple [ko37,(.int .i64 0)])⟩
theorem mo263:mm263.Ok Tryz.prog:=known_of (l:=[mm258]) ⟨mo258,trivial⟩ mm263 (by kernel_rfl)
def mm265:Memo:=⟨141,[ko37,ko128],(.tuple [ko38,(.int .i64 0)])⟩
theorem mo265:mm265.Ok Tryz.prog:=known_of (l:=[mm264]) ⟨mo264,trivial⟩ mm265 (by kernel_rfl)
def mm266:Memo:=⟨30,[ko49,ko60,ko126],(.tuple [ko38,ko115,(.int .i64 0)])⟩
theorem mo266:mm266.Ok Tryz.prog:=known_of (l:=[mm229,mm254,mm256,mm257,mm259,mm260,mm261,mm262,mm263,mm265]) ⟨mo229,mo254,mo256,mo257,mo259,mo260,mo261,mo262,mo263,mo265,trivial⟩ mm266 (by kernel_rfl)
def mm267:Memo:=⟨28,[ko49,ko86,ko109],(.tuple [ko38,(.int .i64 2),(.int .i64 0)])⟩
theorem mo267:mm267.Ok Tryz.prog:=known_of (l:=[mm229,mm232,mm253,mm266]) ⟨mo229,mo232,mo253,mo266,trivial⟩ mm267 (by kernel_rfl)
def mm272:Memo:=⟨68,[ko13,(.int .i64 3),(.int .i64 1)],(.int .i64 2)⟩
theorem mo272:mm272.Ok Tryz.prog:=known_of (l:=[mm247]) ⟨mo247,trivial⟩ mm272 (by kernel_rfl)
def mm274:Memo:=⟨141,[ko86,ko136],(.tuple [ko76,(.int .i64 0)])⟩
theorem mo274:mm274.Ok Tryz.prog:=known_of (l:=[mm240]) ⟨mo240,trivial⟩ mm274 (by kernel_rfl)
def mm276:Memo:=⟨141,[ko76,ko134],(.tuple [ko61,(.int .i64 0)])⟩
theorem mo276:mm276.Ok Tryz.prog:=known_of (l:=[mm275]) ⟨mo275,trivial⟩ mm276 (by kernel_rfl)
def mm278:Memo:=⟨141,[ko61,ko129],(.tuple [ko62,(.int .i64 0)])⟩
theorem mo278:mm278.Ok Tryz.prog:=known_of (l:=[mm277]) ⟨mo277,trivial⟩ mm278 (by kernel_rfl)
def mm279:Memo:=⟨30,[ko49,ko86,ko118],(.tuple [ko62,ko107,(.int .i64 0)])⟩
theorem mo279:mm279.Ok Tryz.prog:=known_of (l:=[mm229,mm232,mm238,mm236,mm269,mm241,mm270,mm271,mm272,mm273,mm244,mm274,mm276,mm278]) ⟨mo229,mo232,mo238,mo236,mo269,mo241,mo270,mo271,mo272,mo273,mo244,mo274,mo276,mo278,trivial⟩ mm279 (by kernel_rfl)
def mm282:Memo:=⟨48,[ko49,ko62,ko170],(.tuple [(.int .i64 2),(.bool true)])⟩
theorem mo282:mm282.Ok Tryz.prog:=known_of (l:=[mm281]) ⟨mo281,trivial⟩ mm282 (by kernel_rfl)
def mm285:Memo:=⟨63,[ko62],ko9⟩
theorem mo285:mm285.Ok Tryz.prog:=known_of (l:=[mm284]) ⟨mo284,trivial⟩ mm285 (by kernel_rfl)
def mm289:Memo:=⟨141,[ko62,ko133],(.tuple [ko39,(.int .i64 0)])⟩
theorem mo289:mm289.Ok Tryz.prog:=known_of (l:=[mm284]) ⟨mo284,trivial⟩ mm289 (by kernel_rfl)
def mm291:Memo:=⟨141,[ko39,ko130],(.tuple [ko40,(.int .i64 0)])⟩
theorem mo291:mm291.Ok Tryz.prog:=known_of (l:=[mm290]) ⟨mo290,trivial⟩ mm291 (by kernel_rfl)
def mm292:Memo:=⟨30,[ko49,ko62,ko127],(.tuple [ko40,ko116,(.int .i64 0)])⟩
theorem mo292:mm292.Ok Tryz.prog:=known_of (l:=[mm229,mm280,mm282,mm283,mm285,mm286,mm287,mm288,mm289,mm291]) ⟨mo229,mo280,mo282,mo283,mo285,mo286,mo287,mo288,mo289,mo291,trivial⟩ mm292 (by kernel_rfl)
def mm293:Memo:=⟨28,[ko49,ko86,ko110],(.tuple [ko40,(.int .i64 2),(.int .i64 0)])⟩
theorem mo293:mm293.Ok Tryz.prog:=known_of (l:=[mm229,mm232,mm279,mm292]) ⟨mo229,mo232,mo279,mo292,trivial⟩ mm293 (by kernel_rfl)
end Go.Known
end
section
namespace Go.Known
open Go Go.AE Go.Proofs
def mm297:Memo:=⟨28,[ko49,ko102,.nilSl],(.tuple [ko102,(.int .i64 0),(.int .i64 0)])⟩
theorem mo297:mm297.Ok Tryz.prog:=known_of (l:=[mm229,mm296]) ⟨mo229,mo296,trivial⟩ mm297 (by kernel_rfl)
def mm304:Memo:=⟨28,[ko28,ko87,.nilSl],(.tuple [ko87,(.int .i64 0),(.int .i64 0)])⟩
theorem mo304:mm304.Ok Tryz.prog:=known_of (l:=[mm300,mm303]) ⟨mo300,mo303,trivial⟩ mm304 (by kernel_rfl)
def mm307:Memo:=⟨48,[ko28,ko87,ko167],(.tuple [(.int .i64 1),(.bool true)])⟩
theorem mo307:mm307.Ok Tryz.prog:=known_of (l:=[mm306]) ⟨mo306,trivial⟩ mm307 (by kernel_rfl)
def mm309:Memo:=⟨48,[ko28,ko87,ko168],(.tuple [(.int .i64 5),(.bool true)])⟩
theorem mo309:mm309.Ok Tryz.prog:=known_of (l:=[mm308]) ⟨mo308,trivial⟩ mm309 (by kernel_rfl)
def mm312:Memo:=⟨63,[ko87],ko6⟩
theorem mo312:mm312.Ok Tryz.prog:=known_of (l:=[mm311]) ⟨mo311,trivial⟩ mm312 (by kernel_rfl)
def mm316:Memo:=⟨68,[ko6,(.int .i64 7),(.int .i64 5)],(.int .i64 2)⟩
theorem mo316:mm316.Ok Tryz.prog:=known_of (l:=[mm315]) ⟨mo315,trivial⟩ mm316 (by kernel_rfl)
def mm319:Memo:=⟨141,[ko87,ko135],(.tuple [ko77,(.int .i64 0)])⟩
theorem mo319:mm319.Ok Tryz.prog:=known_of (l:=[mm311]) ⟨mo311,trivial⟩ mm319 (by kernel_rfl)
def mm321:Memo:=⟨141,[ko77,ko133],(.tuple [ko63,(.int .i64 0)])⟩
theorem mo321:mm321.Ok Tryz.prog:=known_of (l:=[mm320]) ⟨mo320,trivial⟩ mm321 (by kernel_rfl)
def mm323:Memo:=⟨141,[ko63,ko130],(.tuple [ko64,(.int .i64 0)])⟩
theorem mo323:mm323.Ok Tryz.prog:=known_of (l:=[mm322]) ⟨mo322,trivial⟩ mm323 (by kernel_rfl)
def mm324:Memo:=⟨30,[ko28,ko87,ko117],(.tuple [ko64,ko108,(.int .i64 0)])⟩
theorem mo324:mm324.Ok Tryz.prog:=known_of (l:=[mm300,mm303,mm307,mm309,mm310,mm312,mm313,mm314,mm316,mm317,mm318,mm319,mm321,mm323]) ⟨mo300,mo303,mo307,mo309,mo310,mo312,mo313,mo314,mo316,mo317,mo318,mo319,mo321,mo323,trivial⟩ mm324 (by kernel_rfl)
def mm327:Memo:=⟨48,[ko28,ko64,ko169],(.tuple [(.int .i64 10),(.bool true)])⟩
theorem mo327:mm327.Ok Tryz.prog:=known_of (l:=[mm326]) ⟨mo326,trivial⟩ mm327 (by kernel_rfl)
def mm330:Memo:=⟨63,[ko64],ko1⟩
theorem mo330:mm330.Ok Tryz.prog:=known_of (l:=[mm329]) ⟨mo329,trivial⟩ mm330 (by kernel_rfl)
def mm334:Memo:=⟨141,[ko64,ko131],(.tuple [ko41,(.int .i64 0)])⟩
theorem mo334:mm334.Ok Tryz.prog:=known_of (l:=[mm329]) ⟨mo329,trivial⟩ mm334 (by kernel_rfl)
def mm336:Memo:=⟨141,[ko41,ko128],(.tuple [ko42,(.int .i64 0)])⟩
theorem mo336:mm336.Ok Tryz.prog:=known_of (l:=[mm335]) ⟨mo335,trivial⟩ mm336 (by kernel_rfl)
def mm337:Memo:=⟨30,[ko28,ko64,ko126],(.tuple [ko42,ko115,(.int .i64 0)])⟩
theorem mo337:mm337.Ok Tryz.prog:=known_of (l:=[mm300,mm325,mm327,mm328,mm330,mm331,mm332,mm333,mm334,mm336]) ⟨mo300,mo325,mo327,mo328,mo330,mo331,mo332,mo333,mo334,mo336,trivial⟩ mm337 (by kernel_rfl)
def mm338:Memo:=⟨28,[ko28,ko87,ko109],(.tuple [ko42,(.int .i64 2),(.int .i64 0)])⟩
theorem mo338:mm338.Ok Tryz.prog:=known_of (l:=[mm300,mm303,mm324,mm337]) ⟨mo300,mo303,mo324,mo337,trivial⟩ mm338 (by kernel_rfl)
def mm343:Memo:=⟨68,[ko6,(.int .i64 3),(.int .i64 1)],(.int .i64 2)⟩
theorem mo343:mm343.Ok Tryz.prog:=known_of (l:=[mm318]) ⟨mo318,trivial⟩ mm343 (by kernel_rfl)
def mm345:Memo:=⟨141,[ko87,ko136],(.tuple [ko78,(.int .i64 0)])⟩
theorem mo345:mm345.Ok Tryz.prog:=known_of (l:=[mm311]) ⟨mo311,trivial⟩ mm345 (by kernel_rfl)
def mm347:Memo:=⟨141,[ko78,ko134],(.tuple [ko65,(.int .i64 0)])⟩
theorem mo347:mm347.Ok Tryz.prog:=known_of (l:=[mm346]) ⟨mo346,trivial⟩ mm347 (by kernel_rfl)
def mm349:Memo:=⟨141,[ko65,ko129],(.tuple [ko66,(.int .i64 0)])⟩
theorem mo349:mm349.Ok Tryz.prog:=known_of (l:=[mm348]) ⟨mo348,trivial⟩ mm349 (by kernel_rfl)
def mm350:Memo:=⟨30,[ko28,ko87,ko118],(.tuple [ko66,ko107,(.int .i64 0)])⟩
theorem mo350:mm350.Ok Tryz.prog:=known_of (l:=[mm300,mm303,mm309,mm307,mm340,mm312,mm341,mm342,mm343,mm344,mm315,mm345,mm347,mm349]) ⟨mo300,mo303,mo309,mo307,mo340,mo312,mo341,mo342,mo343,mo344,mo315,mo345,mo347,mo349,trivial⟩ mm350 (by kernel_rfl)
def mm353:Memo:=⟨48,[ko28,ko66,ko170],(.tuple [(.int .i64 2),(.bool true)])⟩
theorem mo353:mm353.Ok Tryz.prog:=known_of (l:=[mm352]) ⟨mo352,trivial⟩ mm353 (by kernel_rfl)
def mm356:Memo:=⟨63,[ko66],ko2⟩
theorem mo356:mm356.Ok Tryz.prog:=known_of (l:=[mm355]) ⟨mo355,trivial⟩ mm356 (by kernel_rfl)
def mm360:Memo:=⟨141,[ko66,ko133],(.tuple [ko43,(.int .i64 0)])⟩
theorem mo360:mm360.Ok Tryz.prog:=known_of (l:=[mm355]) ⟨mo355,trivial⟩ mm360 (by kernel_rfl)
def mm362:Memo:=⟨141,[ko43,ko130],(.tuple [ko44,(.int .i64 0)])⟩
theorem mo362:mm362.Ok Tryz.prog:=known_of (l:=[mm361]) ⟨mo361,trivial⟩ mm362 (by kernel_rfl)
def mm363:Memo:=⟨30,[ko28,ko66,ko127],(.tuple [ko44,ko116,(.int .i64 0)])⟩
theorem mo363:mm363.Ok Tryz.prog:=known_of (l:=[mm300,mm351,mm353,mm354,mm356,mm357,mm358,mm359,mm360,mm362]) ⟨mo300,mo351,mo353,mo354,mo356,mo357,mo358,mo359,mo360,mo362,trivial⟩ mm363 (by kernel_rfl)
def mm364:Memo:=⟨28,[ko28,ko87,ko110],(.tuple [ko44,(.int .i64 2),(.int .i64 0)])⟩
theorem mo364:mm364.Ok Tryz.prog:=known_of (l:=[mm300,mm303,mm350,mm363]) ⟨mo300,mo303,mo350,mo363,trivial⟩ mm364 (by kernel_rfl)
end Go.Known
end
