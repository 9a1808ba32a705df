/- Part 41 of the proof: Kr2, Km3. -/
import Derived.Test.YtfmnflhggplkmaaGreatDoorN39
import Derived.Test.YtfmnflhggplkmaaGreatDoorN40
set_option linter.all false
section
namespace Go.Known
open Go Go.AE Go.Proofs
theorem mo78:mm78.Ok Tryz.prog:=
 memo_two hm rtC_ok (runFN_ok hm tab_ok rtC_ok 100) (e:=mm78) (af:=aq49) Tryz.func49 cq49 (by kernel_rfl) (by kernel_rfl)
  (r1:=sqL (rtB Tryz.f49)) (r2:=sqL (rtS Tryz.f49)) (r3:=sqL (rtT Tryz.f49)) (r5:=sqL (sqR (rtU Tryz.f49))) (r6:=sqL (sqR (sqR (rtU Tryz.f49)))) (rM:=sqL (sqR (sqR (sqR (sqR (rtU Tryz.f49)))))) (rT:=sqR (sqR (sqR (sqR (sqR (rtU Tryz.f49)))))) (id:=rtI Tryz.f49) (ops:=rtO Tryz.f49) (lb:=0) (by kernel_rfl) (x:=4) (y:=8) (by decide) .data rt_perm
  (a1:=rt1) (a2:=rt2) (a3:=rt3) (a5:=rt5) (a6:=rt6) (aM:=rt7) (aT:=rt8) (oA:=rtA Tryz.prog Tryz.f49) (oB:=rtZ Tryz.prog Tryz.f49) (by kernel_rfl) (by kernel_rfl) (by kernel_rfl) (by kernel_rfl) (by kernel_rfl) (by kernel_rfl) (by kernel_rfl)
  (by kernel_rfl) (by kernel_rfl) (by kernel_rfl) (by kernel_rfl) (by kernel_rfl) (by kernel_rfl) (by kernel_rfl) (by kernel_rfl) (by kernel_rfl) (by kernel_rfl) (by kernel_rfl) (by kernel_rfl) 4 8 (by decide)
  (fun i hi=>match i,hi with
    | 0,_=>rtk0|1,_=>rtk1|2,_=>rtk2|3,_=>rtk3|4,_=>rtk4|5,_=>rtk5|6,_=>rtk6|7,_=>rtk7
    | k+8,h=>absurd h (by omega))
end Go.Known
end
section
namespace Go.Known
open Go Go.AE Go.Proofs
def mm18:Memo:=⟨30,[kv9,kv5,(.agg [(.int .i64 3),(.int .i64 3),(.int .i64 5),(.int .i64 0),(.bool false),(.int .i64 0),.nilSl,(.bool false)])],(.tuple [kv4,(.imm [[(.int .i64 2),(.int .i64 1),(.int .i64 3),(.int .i64 0),(.bool false),(.bool false),(.int .i64 0)],[(.int .i64 10),(.int .i64 2),(.int .i64 0),(.int .i64 0),(.bool false),(.bool false),(.int .i64 0)]]),(.int .i64 0)])⟩
theorem mo18:mm18.Ok Tryz.prog:=known_of (l:=[mm2,mm6,mm8,mm9,mm11,mm12,mm13,mm14,mm15,mm17]) ⟨mo2,mo6,mo8,mo9,mo11,mo12,mo13,mo14,mo15,mo17,trivial⟩ mm18 (by kernel_rfl)
def mm29:Memo:=⟨30,[kv9,kv11,(.agg [(.int .i64 4),(.int .i64 1),(.int .i64 0),(.int .i64 0),(.bool false),(.int .i64 0),.nilSl,(.bool true)])],(.tuple [kv8,(.imm [[(.int .i64 9),(.int .i64 0),(.int .i64 0),(.int .i64 0),(.bool false),(.bool false),(.int .i64 0)],[(.int .i64 5),(.int .i64 0),(.int .i64 0),(.int .i64 0),(.bool false),(.bool true),(.int .i64 1)],[(.int .i64 3),(.int .i64 0),(.int .i64 2),(.int .i64 0),(.bool false),(.bool false),(.int .i64 0)],[(.int .i64 10),(.int .i64 1),(.int .i64 0),(.int .i64 0),(.bool false),(.bool false),(.int .i64 0)]]),(.int .i64 0)])⟩
theorem mo29:mm29.Ok Tryz.prog:=known_of (l:=[mm2,mm19,mm20,mm22,mm24,mm26,mm28]) ⟨mo2,mo19,mo20,mo22,mo24,mo26,mo28,trivial⟩ mm29 (by kernel_rfl)
def mm34:Memo:=⟨30,[kv9,kv11,(.agg [(.int .i64 1),(.int .i64 10),(.int .i64 0),(.int .i64 0),(.bool false),(.int .i64 0),.nilSl,(.bool false)])],(.tuple [kv15,(.imm [[(.int .i64 9),(.int .i64 2),(.int .i64 0),(.int .i64 0),(.bool false),(.bool false),(.int .i64 0)],[(.int .i64 1),(.int .i64 2),(.int .i64 0),(.int .i64 0),(.bool false),(.bool false),(.int .i64 0)]]),(.int .i64 0)])⟩
theorem mo34:mm34.Ok Tryz.prog:=known_of (l:=[mm2,mm19,mm30,mm31,mm33]) ⟨mo2,mo19,mo30,mo31,mo33,trivial⟩ mm34 (by kernel_rfl)
def mm41:Memo:=⟨30,[kv9,kv15,(.agg [(.int .i64 1),(.int .i64 1),(.int .i64 0),(.int .i64 0),(.bool false),(.int .i64 0),.nilSl,(.bool false)])],(.tuple [(.agg [(.int .i64 10),.nilSl]),(.imm [[(.int .i64 9),(.int .i64 0),(.int .i64 0),(.int .i64 0),(.bool false),(.bool false),(.int .i64 0)],[(.int .i64 1),(.int .i64 0),(.int .i64 0),(.int .i64 0),(.bool false),(.bool false),(.int .i64 0)]]),(.int .i64 0)])⟩
theorem mo41:mm41.Ok Tryz.prog:=known_of (l:=[mm2,mm35,mm36,mm38,mm40]) ⟨mo2,mo35,mo36,mo38,mo40,trivial⟩ mm41 (by kernel_rfl)
def mm42:Memo:=⟨28,[kv9,kv11,(.imm [[(.int .i64 1),(.int .i64 10),(.int .i64 0),(.int .i64 0),(.bool false),(.int .i64 0),.nilSl,(.bool false)],[(.int .i64 1),(.int .i64 1),(.int .i64 0),(.int .i64 0),(.bool false),(.int .i64 0),.nilSl,(.bool false)]])],(.tuple [(.agg [(.int .i64 10),.nilSl]),(.int .i64 2),(.int .i64 0)])⟩
theorem mo42:mm42.Ok Tryz.prog:=known_of (l:=[mm2,mm19,mm34,mm41]) ⟨mo2,mo19,mo34,mo41,trivial⟩ mm42 (by kernel_rfl)
def mm79:Memo:=⟨31,[kv9,kv5,(.int .i64 9),kv33],(.tuple [kv32,(.int .i64 0)])⟩
theorem mo79:mm79.Ok Tryz.prog:=known_of (l:=[mm2,mm6,mm8,mm78]) ⟨mo2,mo6,mo8,mo78,trivial⟩ mm79 (by kernel_rfl)
def mm80:Memo:=⟨17,[(.agg [(.int .i64 2),(.bool true),(.int .i64 5)])],(.str [50,82,53])⟩
theorem mo80:mm80.Ok Tryz.prog:=known_of (l:=[]) trivial mm80 (by kernel_rfl)
def mm81:Memo:=⟨8,[],(.bool true)⟩
theorem mo81:mm81.Ok Tryz.prog:=known_of (l:=[mm1,mm3,mm4,mm5,mm18,mm29,mm42,mm43,mm44,mm79,mm80]) ⟨mo1,mo3,mo4,mo5,mo18,mo29,mo42,mo43,mo44,mo79,mo80,trivial⟩ mm81 (by kernel_rfl)
end Go.Known
end
