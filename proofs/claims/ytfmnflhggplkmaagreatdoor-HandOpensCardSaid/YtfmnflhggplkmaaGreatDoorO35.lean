/- Part 35 of the proof: Km2, Km0, Km1. -/
import Derived.Test.YtfmnflhggplkmaaGreatDoorO29
set_option linter.all false
section
namespace Go.Known
open Go Go.AE Go.Proofs
def mm1:Memo:=⟨9,[(.int .i64 1)],(.tuple [kv9,(.int .i64 0)])⟩
theorem mo1:mm1.Ok Tryz.prog:=known_of (l:=[]) trivial mm1 (by kernel_rfl)
def mm7:Memo:=⟨38,[kv5,(.int .i64 5)],(.imm [[(.int .i64 2),(.int .i64 3)]])⟩
theorem mo7:mm7.Ok Tryz.prog:=known_of (l:=[]) trivial mm7 (by kernel_rfl)
def mm8:Memo:=⟨48,[kv9,kv5,kv33],(.tuple [(.int .i64 1),(.bool true)])⟩
theorem mo8:mm8.Ok Tryz.prog:=known_of (l:=[mm7]) ⟨mo7,trivial⟩ mm8 (by kernel_rfl)
def mm12:Memo:=⟨66,[kv1,(.int .i64 3)],(.int .i64 3)⟩
theorem mo12:mm12.Ok Tryz.prog:=known_of (l:=[]) trivial mm12 (by kernel_rfl)
def mm14:Memo:=⟨65,[kv1,(.int .i64 1),(.bool true)],(.int .i64 2)⟩
theorem mo14:mm14.Ok Tryz.prog:=known_of (l:=[]) trivial mm14 (by kernel_rfl)
def mm23:Memo:=⟨77,[kv12],(.tuple [(.imm [[(.bool false),(.imm [[(.int .i64 0)]]),(.imm [[(.int .i64 1),(.int .i64 1)]]),.nilSl,(.bool false)],[(.bool false),(.imm [[(.int .i64 1)],[(.int .i64 5)]]),kv13,kv19,(.bool true)],[(.bool true),(.imm [[(.int .i64 2)],[(.int .i64 6)]]),kv24,(.imm [[(.int .i64 10)]]),(.bool false)],[(.bool true),(.imm [[(.int .i64 3)]]),kv14,kv20,(.bool false)],[(.bool false),(.imm [[(.int .i64 4)]]),kv27,(.imm [[(.int .i64 10)]]),(.bool false)],[(.bool true),(.imm [[(.int .i64 7)]]),kv25,(.imm [[(.int .i64 1)]]),(.bool true)]]),(.int .i64 0)])⟩
theorem mo23:mm23.Ok Tryz.prog:=known_of (l:=[]) trivial mm23 (by kernel_rfl)
def mm24:Memo:=⟨141,[kv12,(.agg [(.int .i64 5),(.int .i64 0),(.int .i64 0),(.int .i64 0),(.bool false),(.bool true),(.int .i64 1)])],(.tuple [kv6,(.int .i64 0)])⟩
theorem mo24:mm24.Ok Tryz.prog:=known_of (l:=[mm23]) ⟨mo23,trivial⟩ mm24 (by kernel_rfl)
def mm25:Memo:=⟨77,[kv6],(.tuple [(.imm [[(.bool false),(.imm [[(.int .i64 0)],[(.int .i64 4)]]),(.imm [[(.int .i64 1),(.int .i64 1)]]),.nilSl,(.bool false)],[(.bool false),(.imm [[(.int .i64 1)],[(.int .i64 9)],[(.int .i64 5)],[(.int .i64 2)]]),kv13,kv19,(.bool true)],[(.bool false),(.imm [[(.int .i64 3)]]),.nilSl,.nilSl,(.bool false)],[(.bool true),(.imm [[(.int .i64 6)],[(.int .i64 10)]]),kv24,(.imm [[(.int .i64 10)]]),(.bool false)],[(.bool true),(.imm [[(.int .i64 7)]]),kv14,kv20,(.bool false)],[(.bool false),(.imm [[(.int .i64 8)]]),kv27,(.imm [[(.int .i64 10)]]),(.bool false)],[(.bool true),(.imm [[(.int .i64 11)]]),kv25,(.imm [[(.int .i64 1)]]),(.bool true)]]),(.int .i64 0)])⟩
theorem mo25:mm25.Ok Tryz.prog:=known_of (l:=[]) trivial mm25 (by kernel_rfl)
def mm26:Memo:=⟨141,[kv6,(.agg [(.int .i64 3),(.int .i64 0),(.int .i64 2),(.int .i64 0),(.bool false),(.bool false),(.int .i64 0)])],(.tuple [kv7,(.int .i64 0)])⟩
theorem mo26:mm26.Ok Tryz.prog:=known_of (l:=[mm25]) ⟨mo25,trivial⟩ mm26 (by kernel_rfl)
def mm27:Memo:=⟨77,[kv7],(.tuple [(.imm [[(.bool false),(.imm [[(.int .i64 0)],[(.int .i64 7)]]),kv13,kv19,(.bool true)],[(.bool false),(.imm [[(.int .i64 1)]]),(.imm [[(.int .i64 1),(.int .i64 1)]]),.nilSl,(.bool false)],[(.bool true),(.imm [[(.int .i64 2)],[(.int .i64 9)]]),kv25,(.imm [[(.int .i64 1)]]),(.bool true)],[(.bool true),(.imm [[(.int .i64 3)],[(.int .i64 11)]]),(.imm [[(.int .i64 1),(.int .i64 1)]]),.nilSl,(.bool false)],[(.bool true),(.imm [[(.int .i64 4)],[(.int .i64 8)]]),(.imm [[(.int .i64 9),(.int .i64 1)],[(.int .i64 10),(.int .i64 0)]]),(.imm [[(.int .i64 10)]]),(.bool false)],[(.bool true),(.imm [[(.int .i64 5)],[(.int .i64 10)]]),kv14,kv20,(.bool false)],[(.bool false),(.imm [[(.int .i64 6)]]),kv27,(.imm [[(.int .i64 10)]]),(.bool false)]]),(.int .i64 0)])⟩
theorem mo27:mm27.Ok Tryz.prog:=known_of (l:=[]) trivial mm27 (by kernel_rfl)
def mm28:Memo:=⟨141,[kv7,(.agg [(.int .i64 10),(.int .i64 1),(.int .i64 0),(.int .i64 0),(.bool false),(.bool false),(.int .i64 0)])],(.tuple [kv8,(.int .i64 0)])⟩
theorem mo28:mm28.Ok Tryz.prog:=known_of (l:=[mm27]) ⟨mo27,trivial⟩ mm28 (by kernel_rfl)
def mm39:Memo:=⟨77,[kv16],(.tuple [(.imm [[(.bool false),(.imm [[(.int .i64 0)]]),(.imm [[(.int .i64 1),(.int .i64 1)]]),.nilSl,(.bool false)],[(.bool false),(.imm [[(.int .i64 1)]]),(.imm [[(.int .i64 1),(.int .i64 0)],[(.int .i64 0),(.int .i64 0)],[(.int .i64 10),(.int .i64 0)],[(.int .i64 9),(.int .i64 0)],[(.int .i64 8),(.int .i64 0)],[(.int .i64 7),(.int .i64 0)],[(.int .i64 6),(.int .i64 0)],[(.int .i64 5),(.int .i64 0)],[(.int .i64 4),(.int .i64 0)],[(.int .i64 3),(.int .i64 0)],[(.int .i64 2),(.int .i64 0)],[(.int .i64 1),(.int .i64 2)]]),(.imm [[(.int .i64 1)],[(.int .i64 10)],[(.int .i64 9)],[(.int .i64 8)],[(.int .i64 7)],[(.int .i64 6)],[(.int .i64 5)],[(.int .i64 4)],[(.int .i64 3)],[(.int .i64 2)]]),(.bool true)],[(.bool true),(.imm [[(.int .i64 2)]]),(.imm [[(.int .i64 1),(.int .i64 1)]]),.nilSl,(.bool false)],[(.bool true),(.imm [[(.int .i64 3)]]),(.imm [[(.int .i64 1),(.int .i64 2)],[(.int .i64 2),(.int .i64 0)],[(.int .i64 3),(.int .i64 0)],[(.int .i64 4),(.int .i64 0)],[(.int .i64 5),(.int .i64 0)],[(.int .i64 6),(.int .i64 0)],[(.int .i64 7),(.int .i64 0)],[(.int .i64 8),(.int .i64 0)],[(.int .i64 9),(.int .i64 0)],[(.int .i64 10),(.int .i64 0)],[(.int .i64 0),(.int .i64 0)],[(.int .i64 1),(.int .i64 0)]]),(.imm [[(.int .i64 2)],[(.int .i64 3)],[(.int .i64 4)],[(.int .i64 5)],[(.int .i64 6)],[(.int .i64 7)],[(.int .i64 8)],[(.int .i64 9)],[(.int .i64 10)],[(.int .i64 1)]]),(.bool true)]]),(.int .i64 0)])⟩
theorem mo39:mm39.Ok Tryz.prog:=known_of (l:=[]) trivial mm39 (by kernel_rfl)
def mm40:Memo:=⟨141,[kv16,(.agg [(.int .i64 1),(.int .i64 0),(.int .i64 0),(.int .i64 0),(.bool false),(.bool false),(.int .i64 0)])],(.tuple [(.agg [(.int .i64 10),.nilSl]),(.int .i64 0)])⟩
theorem mo40:mm40.Ok Tryz.prog:=known_of (l:=[mm39]) ⟨mo39,trivial⟩ mm40 (by kernel_rfl)
def mm47:Memo:=⟨38,[kv5,(.int .i64 4)],.nilSl⟩
theorem mo47:mm47.Ok Tryz.prog:=known_of (l:=[]) trivial mm47 (by kernel_rfl)
def mm53:Memo:=⟨38,[kv5,(.int .i64 9)],.nilSl⟩
theorem mo53:mm53.Ok Tryz.prog:=known_of (l:=[]) trivial mm53 (by kernel_rfl)
def mm54:Memo:=⟨38,[kv5,(.int .i64 10)],(.imm [[(.int .i64 6),(.int .i64 7)]])⟩
theorem mo54:mm54.Ok Tryz.prog:=known_of (l:=[]) trivial mm54 (by kernel_rfl)
def mm56:Memo:=⟨78,[(.agg [(.int .i64 10),(.int .i64 1),(.bool false),(.int .i64 0)]),(.agg [(.int .i64 1),(.int .i64 1),(.bool false),(.int .i64 0)])],(.int .i64 9)⟩
theorem mo56:mm56.Ok Tryz.prog:=known_of (l:=[]) trivial mm56 (by kernel_rfl)
def mm57:Memo:=⟨65,[kv1,(.int .i64 1),(.bool false)],(.int .i64 3)⟩
theorem mo57:mm57.Ok Tryz.prog:=known_of (l:=[]) trivial mm57 (by kernel_rfl)
def mm64:Memo:=⟨67,[kv1,(.int .i64 7),(.int .i64 3)],(.bool false)⟩
theorem mo64:mm64.Ok Tryz.prog:=known_of (l:=[]) trivial mm64 (by kernel_rfl)
def mm66:Memo:=⟨67,[kv1,(.int .i64 7),(.int .i64 5)],(.bool true)⟩
theorem mo66:mm66.Ok Tryz.prog:=known_of (l:=[]) trivial mm66 (by kernel_rfl)
def mm72:Memo:=⟨67,[kv1,(.int .i64 2),(.int .i64 1)],(.bool true)⟩
theorem mo72:mm72.Ok Tryz.prog:=known_of (l:=[]) trivial mm72 (by kernel_rfl)
def mm73:Memo:=⟨68,[kv1,(.int .i64 2),(.int .i64 1)],(.int .i64 3)⟩
theorem mo73:mm73.Ok Tryz.prog:=known_of (l:=[mm14,mm57]) ⟨mo14,mo57,trivial⟩ mm73 (by kernel_rfl)
def mm75:Memo:=⟨65,[kv1,(.int .i64 7),(.bool true)],(.int .i64 2)⟩
theorem mo75:mm75.Ok Tryz.prog:=known_of (l:=[]) trivial mm75 (by kernel_rfl)
def mm76:Memo:=⟨65,[kv1,(.int .i64 7),(.bool false)],(.int .i64 9)⟩
theorem mo76:mm76.Ok Tryz.prog:=known_of (l:=[]) trivial mm76 (by kernel_rfl)
def mm77:Memo:=⟨68,[kv1,(.int .i64 2),(.int .i64 7)],(.int .i64 9)⟩
theorem mo77:mm77.Ok Tryz.prog:=known_of (l:=[mm75,mm76]) ⟨mo75,mo76,trivial⟩ mm77 (by kernel_rfl)
end Go.Known
end
section
namespace Go.Known
open Go Go.AE Go.Proofs
def mm13:Memo:=⟨67,[kv1,(.int .i64 3),(.int .i64 1)],(.bool true)⟩
theorem mo13:mm13.Ok Tryz.prog:=known_of (l:=[]) trivial mm13 (by kernel_rfl)
def mm16:Memo:=⟨77,[kv3],(.tuple [(.imm [[(.bool false),(.imm [[(.int .i64 0)]]),kv29,(.imm [[(.int .i64 1)]]),(.bool false)],[(.bool false),(.imm [[(.int .i64 1)],[(.int .i64 17)],[(.int .i64 13)],[(.int .i64 9)],[(.int .i64 5)]]),(.imm [[(.int .i64 0),(.int .i64 0)],[(.int .i64 10),(.int .i64 1)],[(.int .i64 9),(.int .i64 0)],[(.int .i64 8),(.int .i64 0)],[(.int .i64 7),(.int .i64 0)],[(.int .i64 6),(.int .i64 1)],[(.int .i64 5),(.int .i64 1)],[(.int .i64 4),(.int .i64 0)],[(.int .i64 3),(.int .i64 2)],[(.int .i64 3),(.int .i64 0)],[(.int .i64 2),(.int .i64 0)],[(.int .i64 1),(.int .i64 1)]]),kv23,(.bool true)],[(.bool true),(.imm [[(.int .i64 2)],[(.int .i64 6)],[(.int .i64 10)],[(.int .i64 14)],[(.int .i64 18)]]),(.imm [[(.int .i64 3),(.int .i64 1)],[(.int .i64 4),(.int .i64 1)],[(.int .i64 5),(.int .i64 0)],[(.int .i64 5),(.int .i64 2)],[(.int .i64 6),(.int .i64 0)],[(.int .i64 9),(.int .i64 1)],[(.int .i64 10),(.int .i64 0)],[(.int .i64 0),(.int .i64 1)],[(.int .i64 1),(.int .i64 0)]]),kv26,(.bool false)],[(.bool true),(.imm [[(.int .i64 3)]]),(.imm [[(.int .i64 1),(.int .i64 1)],[(.int .i64 2),(.int .i64 0)],[(.int .i64 3),(.int .i64 0)]]),(.imm [[(.int .i64 2)],[(.int .i64 3)]]),(.bool false)],[(.bool false),(.imm [[(.int .i64 4)]]),(.imm [[(.int .i64 3),(.int .i64 1)]]),.nilSl,(.bool false)],[(.bool true),(.imm [[(.int .i64 7)]]),(.imm [[(.int .i64 3),(.int .i64 2)],[(.int .i64 4),(.int .i64 0)]]),(.imm [[(.int .i64 4)]]),(.bool false)],[(.bool false),(.imm [[(.int .i64 8)]]),kv30,(.imm [[(.int .i64 5)]]),(.bool false)],[(.bool true),(.imm [[(.int .i64 11)]]),(.imm [[(.int .i64 5),(.int .i64 1)]]),.nilSl,(.bool false)],[(.bool false),(.imm [[(.int .i64 12)]]),kv31,(.imm [[(.int .i64 6)]]),(.bool false)],[(.bool true),(.imm [[(.int .i64 15)]]),kv21,(.imm [[(.int .i64 7)],[(.int .i64 8)],[(.int .i64 9)]]),(.bool false)],[(.bool false),(.imm [[(.int .i64 16)]]),kv27,(.imm [[(.int .i64 10)]]),(.bool false)],[(.bool true),(.imm [[(.int .i64 19)]]),kv28,.nilSl,(.bool true)]]),(.int .i64 0)])⟩
theorem mo16:mm16.Ok Tryz.prog:=known_of (l:=[]) trivial mm16 (by kernel_rfl)
def mm17:Memo:=⟨141,[kv3,(.agg [(.int .i64 10),(.int .i64 2),(.int .i64 0),(.int .i64 0),(.bool false),(.bool false),(.int .i64 0)])],(.tuple [kv4,(.int .i64 0)])⟩
theorem mo17:mm17.Ok Tryz.prog:=known_of (l:=[mm16]) ⟨mo16,trivial⟩ mm17 (by kernel_rfl)
def mm30:Memo:=⟨38,[kv11,(.int .i64 10)],(.imm [[(.int .i64 2),(.int .i64 3)]])⟩
theorem mo30:mm30.Ok Tryz.prog:=known_of (l:=[]) trivial mm30 (by kernel_rfl)
def mm32:Memo:=⟨77,[kv10],(.tuple [(.imm [[(.bool false),(.imm [[(.int .i64 0)]]),kv29,(.imm [[(.int .i64 1)]]),(.bool false)],[(.bool false),(.imm [[(.int .i64 1)],[(.int .i64 5)]]),(.imm [[(.int .i64 0),(.int .i64 0)],[(.int .i64 10),(.int .i64 2)],[(.int .i64 10),(.int .i64 0)],[(.int .i64 9),(.int .i64 0)],[(.int .i64 8),(.int .i64 0)],[(.int .i64 7),(.int .i64 0)],[(.int .i64 6),(.int .i64 0)],[(.int .i64 5),(.int .i64 0)],[(.int .i64 4),(.int .i64 0)],[(.int .i64 3),(.int .i64 0)],[(.int .i64 2),(.int .i64 0)],[(.int .i64 1),(.int .i64 1)]]),kv17,(.bool true)],[(.bool true),(.imm [[(.int .i64 2)],[(.int .i64 6)]]),(.imm [[(.int .i64 10),(.int .i64 1)],[(.int .i64 0),(.int .i64 1)],[(.int .i64 1),(.int .i64 0)]]),(.imm [[(.int .i64 1)]]),(.bool false)],[(.bool true),(.imm [[(.int .i64 3)]]),(.imm [[(.int .i64 1),(.int .i64 1)],[(.int .i64 2),(.int .i64 0)],[(.int .i64 3),(.int .i64 0)],[(.int .i64 4),(.int .i64 0)],[(.int .i64 5),(.int .i64 0)],[(.int .i64 6),(.int .i64 0)],[(.int .i64 7),(.int .i64 0)],[(.int .i64 8),(.int .i64 0)],[(.int .i64 9),(.int .i64 0)],[(.int .i64 10),(.int .i64 0)]]),kv18,(.bool false)],[(.bool false),(.imm [[(.int .i64 4)]]),(.imm [[(.int .i64 10),(.int .i64 1)]]),.nilSl,(.bool false)],[(.bool true),(.imm [[(.int .i64 7)]]),(.imm [[(.int .i64 10),(.int .i64 2)],[(.int .i64 0),(.int .i64 0)]]),.nilSl,(.bool true)]]),(.int .i64 0)])⟩
theorem mo32:mm32.Ok Tryz.prog:=known_of (l:=[]) trivial mm32 (by kernel_rfl)
def mm33:Memo:=⟨141,[kv10,(.agg [(.int .i64 1),(.int .i64 2),(.int .i64 0),(.int .i64 0),(.bool false),(.bool false),(.int .i64 0)])],(.tuple [kv15,(.int .i64 0)])⟩
theorem mo33:mm33.Ok Tryz.prog:=known_of (l:=[mm32]) ⟨mo32,trivial⟩ mm33 (by kernel_rfl)
def mm35:Memo:=⟨39,[kv15],(.int .i64 0)⟩
theorem mo35:mm35.Ok Tryz.prog:=known_of (l:=[]) trivial mm35 (by kernel_rfl)
def mm37:Memo:=⟨77,[kv15],(.tuple [(.imm [[(.bool false),(.imm [[(.int .i64 0)]]),kv29,(.imm [[(.int .i64 1)]]),(.bool false)],[(.bool false),(.imm [[(.int .i64 1)]]),(.imm [[(.int .i64 0),(.int .i64 0)],[(.int .i64 10),(.int .i64 0)],[(.int .i64 9),(.int .i64 0)],[(.int .i64 8),(.int .i64 0)],[(.int .i64 7),(.int .i64 0)],[(.int .i64 6),(.int .i64 0)],[(.int .i64 5),(.int .i64 0)],[(.int .i64 4),(.int .i64 0)],[(.int .i64 3),(.int .i64 0)],[(.int .i64 2),(.int .i64 0)],[(.int .i64 1),(.int .i64 1)]]),kv17,(.bool true)],[(.bool true),(.imm [[(.int .i64 2)]]),(.imm [[(.int .i64 0),(.int .i64 1)],[(.int .i64 1),(.int .i64 0)]]),(.imm [[(.int .i64 1)]]),(.bool false)],[(.bool true),(.imm [[(.int .i64 3)]]),(.imm [[(.int .i64 1),(.int .i64 1)],[(.int .i64 2),(.int .i64 0)],[(.int .i64 3),(.int .i64 0)],[(.int .i64 4),(.int .i64 0)],[(.int .i64 5),(.int .i64 0)],[(.int .i64 6),(.int .i64 0)],[(.int .i64 7),(.int .i64 0)],[(.int .i64 8),(.int .i64 0)],[(.int .i64 9),(.int .i64 0)],[(.int .i64 10),(.int .i64 0)],[(.int .i64 0),(.int .i64 0)]]),kv18,(.bool true)]]),(.int .i64 0)])⟩
theorem mo37:mm37.Ok Tryz.prog:=known_of (l:=[]) trivial mm37 (by kernel_rfl)
def mm38:Memo:=⟨141,[kv15,kv22],(.tuple [kv16,(.int .i64 0)])⟩
theorem mo38:mm38.Ok Tryz.prog:=known_of (l:=[mm37]) ⟨mo37,trivial⟩ mm38 (by kernel_rfl)
def mm43:Memo:=⟨29,[kv4],(.str [49,48,58,32,48,46,49,32,49,46,49,32,50,46,49,32,51,46,49,32,52,46,49,32,53,46,49,32,53,46,50,32,54,46,49,32,57,46,49,32,49,48,46,49])⟩
theorem mo43:mm43.Ok Tryz.prog:=known_of (l:=[]) trivial mm43 (by kernel_rfl)
def mm45:Memo:=⟨38,[kv5,(.int .i64 1)],(.imm [[(.int .i64 0),(.int .i64 1)]])⟩
theorem mo45:mm45.Ok Tryz.prog:=known_of (l:=[]) trivial mm45 (by kernel_rfl)
def mm46:Memo:=⟨38,[kv5,(.int .i64 2)],.nilSl⟩
theorem mo46:mm46.Ok Tryz.prog:=known_of (l:=[]) trivial mm46 (by kernel_rfl)
def mm48:Memo:=⟨78,[(.agg [(.int .i64 5),(.int .i64 1),(.bool false),(.int .i64 0)]),(.agg [(.int .i64 1),(.int .i64 1),(.bool true),(.int .i64 0)])],(.int .i64 4)⟩
theorem mo48:mm48.Ok Tryz.prog:=known_of (l:=[]) trivial mm48 (by kernel_rfl)
def mm49:Memo:=⟨38,[kv5,(.int .i64 6)],(.imm [[(.int .i64 4),(.int .i64 5)]])⟩
theorem mo49:mm49.Ok Tryz.prog:=known_of (l:=[]) trivial mm49 (by kernel_rfl)
def mm52:Memo:=⟨38,[kv5,(.int .i64 8)],.nilSl⟩
theorem mo52:mm52.Ok Tryz.prog:=known_of (l:=[]) trivial mm52 (by kernel_rfl)
def mm60:Memo:=⟨65,[kv1,(.int .i64 5),(.bool true)],(.int .i64 2)⟩
theorem mo60:mm60.Ok Tryz.prog:=known_of (l:=[]) trivial mm60 (by kernel_rfl)
def mm61:Memo:=⟨65,[kv1,(.int .i64 5),(.bool false)],(.int .i64 7)⟩
theorem mo61:mm61.Ok Tryz.prog:=known_of (l:=[]) trivial mm61 (by kernel_rfl)
def mm62:Memo:=⟨68,[kv1,(.int .i64 2),(.int .i64 5)],(.int .i64 7)⟩
theorem mo62:mm62.Ok Tryz.prog:=known_of (l:=[mm60,mm61]) ⟨mo60,mo61,trivial⟩ mm62 (by kernel_rfl)
def mm63:Memo:=⟨67,[kv1,(.int .i64 7),(.int .i64 7)],(.bool false)⟩
theorem mo63:mm63.Ok Tryz.prog:=known_of (l:=[]) trivial mm63 (by kernel_rfl)
def mm67:Memo:=⟨68,[kv1,(.int .i64 7),(.int .i64 5)],(.int .i64 2)⟩
theorem mo67:mm67.Ok Tryz.prog:=known_of (l:=[mm60]) ⟨mo60,trivial⟩ mm67 (by kernel_rfl)
def mm68:Memo:=⟨67,[kv1,(.int .i64 2),(.int .i64 3)],(.bool true)⟩
theorem mo68:mm68.Ok Tryz.prog:=known_of (l:=[]) trivial mm68 (by kernel_rfl)
def mm69:Memo:=⟨65,[kv1,(.int .i64 3),(.bool true)],(.int .i64 2)⟩
theorem mo69:mm69.Ok Tryz.prog:=known_of (l:=[]) trivial mm69 (by kernel_rfl)
def mm70:Memo:=⟨65,[kv1,(.int .i64 3),(.bool false)],(.int .i64 5)⟩
theorem mo70:mm70.Ok Tryz.prog:=known_of (l:=[]) trivial mm70 (by kernel_rfl)
def mm71:Memo:=⟨68,[kv1,(.int .i64 2),(.int .i64 3)],(.int .i64 5)⟩
theorem mo71:mm71.Ok Tryz.prog:=known_of (l:=[mm69,mm70]) ⟨mo69,mo70,trivial⟩ mm71 (by kernel_rfl)
def mm74:Memo:=⟨67,[kv1,(.int .i64 2),(.int .i64 7)],(.bool true)⟩
theorem mo74:mm74.Ok Tryz.prog:=known_of (l:=[]) trivial mm74 (by kernel_rfl)
end Go.Known
end
section
namespace Go.Known
open Go Go.AE Go.Proofs
def mm2:Memo:=⟨10,[kv9],(.bool true)⟩
theorem mo2:mm2.Ok Tryz.prog:=known_of (l:=[]) trivial mm2 (by kernel_rfl)
def mm3:Memo:=⟨19,[kv9,(.imm [[(.int .i64 1)],[(.int .i64 5)],[(.int .i64 6)],[(.int .i64 10)]])],(.tuple [kv5,(.int .i64 0)])⟩
theorem mo3:mm3.Ok Tryz.prog:=known_of (l:=[mm2]) ⟨mo2,trivial⟩ mm3 (by kernel_rfl)
def mm4:Memo:=⟨19,[kv9,(.imm [[(.int .i64 1)],[(.int .i64 10)]])],(.tuple [kv11,(.int .i64 0)])⟩
theorem mo4:mm4.Ok Tryz.prog:=known_of (l:=[mm2]) ⟨mo2,trivial⟩ mm4 (by kernel_rfl)
def mm5:Memo:=⟨29,[kv5],(.str [49,48,58,32,48,46,49,32,49,46,49,32,52,46,49,32,53,46,49,32,53,46,50,32,54,46,49,32,57,46,49,32,49,48,46,49])⟩
theorem mo5:mm5.Ok Tryz.prog:=known_of (l:=[]) trivial mm5 (by kernel_rfl)
def mm6:Memo:=⟨39,[kv5],(.int .i64 0)⟩
theorem mo6:mm6.Ok Tryz.prog:=known_of (l:=[]) trivial mm6 (by kernel_rfl)
def mm9:Memo:=⟨38,[kv5,(.int .i64 3)],.nilSl⟩
theorem mo9:mm9.Ok Tryz.prog:=known_of (l:=[]) trivial mm9 (by kernel_rfl)
def mm10:Memo:=⟨77,[kv5],(.tuple [kv2,(.int .i64 0)])⟩
theorem mo10:mm10.Ok Tryz.prog:=known_of (l:=[]) trivial mm10 (by kernel_rfl)
def mm11:Memo:=⟨63,[kv5],kv1⟩
theorem mo11:mm11.Ok Tryz.prog:=known_of (l:=[mm10]) ⟨mo10,trivial⟩ mm11 (by kernel_rfl)
def mm15:Memo:=⟨141,[kv5,(.agg [(.int .i64 2),(.int .i64 1),(.int .i64 3),(.int .i64 0),(.bool false),(.bool false),(.int .i64 0)])],(.tuple [kv3,(.int .i64 0)])⟩
theorem mo15:mm15.Ok Tryz.prog:=known_of (l:=[mm10]) ⟨mo10,trivial⟩ mm15 (by kernel_rfl)
def mm19:Memo:=⟨39,[kv11],(.int .i64 0)⟩
theorem mo19:mm19.Ok Tryz.prog:=known_of (l:=[]) trivial mm19 (by kernel_rfl)
def mm20:Memo:=⟨38,[kv11,(.int .i64 1)],(.imm [[(.int .i64 0),(.int .i64 1)]])⟩
theorem mo20:mm20.Ok Tryz.prog:=known_of (l:=[]) trivial mm20 (by kernel_rfl)
def mm21:Memo:=⟨77,[kv11],(.tuple [(.imm [[(.bool false),(.imm [[(.int .i64 0)]]),kv29,(.imm [[(.int .i64 1)]]),(.bool false)],[(.bool false),(.imm [[(.int .i64 1)],[(.int .i64 5)]]),(.imm [[(.int .i64 0),(.int .i64 0)],[(.int .i64 10),(.int .i64 1)],[(.int .i64 9),(.int .i64 0)],[(.int .i64 8),(.int .i64 0)],[(.int .i64 7),(.int .i64 0)],[(.int .i64 6),(.int .i64 0)],[(.int .i64 5),(.int .i64 0)],[(.int .i64 4),(.int .i64 0)],[(.int .i64 3),(.int .i64 0)],[(.int .i64 2),(.int .i64 0)],[(.int .i64 1),(.int .i64 1)]]),(.imm [[(.int .i64 9)],[(.int .i64 8)],[(.int .i64 7)],[(.int .i64 6)],[(.int .i64 5)],[(.int .i64 4)],[(.int .i64 3)],[(.int .i64 2)]]),(.bool true)],[(.bool true),(.imm [[(.int .i64 2)],[(.int .i64 6)]]),(.imm [[(.int .i64 9),(.int .i64 1)],[(.int .i64 10),(.int .i64 0)],[(.int .i64 0),(.int .i64 1)],[(.int .i64 1),(.int .i64 0)]]),(.imm [[(.int .i64 10)],[(.int .i64 1)]]),(.bool false)],[(.bool true),(.imm [[(.int .i64 3)]]),(.imm [[(.int .i64 1),(.int .i64 1)],[(.int .i64 2),(.int .i64 0)],[(.int .i64 3),(.int .i64 0)],[(.int .i64 4),(.int .i64 0)],[(.int .i64 5),(.int .i64 0)],[(.int .i64 6),(.int .i64 0)],[(.int .i64 7),(.int .i64 0)],[(.int .i64 8),(.int .i64 0)],[(.int .i64 9),(.int .i64 0)]]),kv20,(.bool false)],[(.bool false),(.imm [[(.int .i64 4)]]),kv27,(.imm [[(.int .i64 10)]]),(.bool false)],[(.bool true),(.imm [[(.int .i64 7)]]),kv28,.nilSl,(.bool true)]]),(.int .i64 0)])⟩
theorem mo21:mm21.Ok Tryz.prog:=known_of (l:=[]) trivial mm21 (by kernel_rfl)
def mm22:Memo:=⟨141,[kv11,kv22],(.tuple [kv12,(.int .i64 0)])⟩
theorem mo22:mm22.Ok Tryz.prog:=known_of (l:=[mm21]) ⟨mo21,trivial⟩ mm22 (by kernel_rfl)
def mm31:Memo:=⟨141,[kv11,(.agg [(.int .i64 9),(.int .i64 2),(.int .i64 0),(.int .i64 0),(.bool false),(.bool false),(.int .i64 0)])],(.tuple [kv10,(.int .i64 0)])⟩
theorem mo31:mm31.Ok Tryz.prog:=known_of (l:=[mm21]) ⟨mo21,trivial⟩ mm31 (by kernel_rfl)
def mm36:Memo:=⟨38,[kv15,(.int .i64 1)],(.imm [[(.int .i64 0),(.int .i64 1)]])⟩
theorem mo36:mm36.Ok Tryz.prog:=known_of (l:=[]) trivial mm36 (by kernel_rfl)
def mm44:Memo:=⟨29,[kv8],(.str [49,48,58,32,49,46,49,32,48,46,49,32,49,117,43,32,57,46,49,32,49,48,46,49,32,49,111,43])⟩
theorem mo44:mm44.Ok Tryz.prog:=known_of (l:=[]) trivial mm44 (by kernel_rfl)
def mm50:Memo:=⟨78,[(.agg [(.int .i64 6),(.int .i64 1),(.bool true),(.int .i64 0)]),(.agg [(.int .i64 5),(.int .i64 1),(.bool true),(.int .i64 0)])],(.int .i64 1)⟩
theorem mo50:mm50.Ok Tryz.prog:=known_of (l:=[]) trivial mm50 (by kernel_rfl)
def mm51:Memo:=⟨38,[kv5,(.int .i64 7)],.nilSl⟩
theorem mo51:mm51.Ok Tryz.prog:=known_of (l:=[]) trivial mm51 (by kernel_rfl)
def mm55:Memo:=⟨78,[(.agg [(.int .i64 10),(.int .i64 1),(.bool true),(.int .i64 0)]),(.agg [(.int .i64 6),(.int .i64 1),(.bool false),(.int .i64 0)])],(.int .i64 4)⟩
theorem mo55:mm55.Ok Tryz.prog:=known_of (l:=[]) trivial mm55 (by kernel_rfl)
def mm58:Memo:=⟨66,[kv1,(.int .i64 9)],(.int .i64 7)⟩
theorem mo58:mm58.Ok Tryz.prog:=known_of (l:=[]) trivial mm58 (by kernel_rfl)
def mm59:Memo:=⟨67,[kv1,(.int .i64 2),(.int .i64 5)],(.bool true)⟩
theorem mo59:mm59.Ok Tryz.prog:=known_of (l:=[]) trivial mm59 (by kernel_rfl)
def mm65:Memo:=⟨67,[kv1,(.int .i64 7),(.int .i64 1)],(.bool false)⟩
theorem mo65:mm65.Ok Tryz.prog:=known_of (l:=[]) trivial mm65 (by kernel_rfl)
end Go.Known
end
