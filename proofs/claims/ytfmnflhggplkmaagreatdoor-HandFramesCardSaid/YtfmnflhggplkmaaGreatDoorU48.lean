/- Part 48 of the proof: Sy, Km3. -/
import Derived.Test.YtfmnflhggplkmaaGreatDoorU47
set_option linter.all false
section
namespace Go.Known
open Go Go.AE Go.Proofs
open Go.Plain
theorem fi_lt {x:Fg} {l:List Fg}:fiG x l<l.length ↔ ∃ j,j<l.length∧fgAt l j=x:=by
 constructor
 ·intro h
  refine⟨fiG x l,h,?_⟩
  have:=List.findIdx_getElem (p:=fun y=>decide (y=x)) (xs:=l) (w:=h)
  rw[fgAt_eq h]
  exact of_decide_eq_true this
 ·rintro⟨j,hj,rfl⟩
  refine List.findIdx_lt_length_of_exists ⟨l[j],List.getElem_mem hj,?_⟩
  rw[fgAt_eq hj]
  simp
theorem fg_take {fs:List Fg} {i j:Nat} (hj:j<i):fgAt (fs.take i) j=fgAt fs j:=by
 unfold fgAt List.getD
 rw[List.getElem?_take,if_pos hj]
theorem fi_take {fs:List Fg} {i:Nat} (h:i<fs.length):fiG (fgAt fs i) (fs.take i)<(fs.take i).length↔fiG (fgAt fs i) fs≠i:=by
 rw[fi_lt]
 have hl:(fs.take i).length=i:=by rw[List.length_take]; omega
 rw[hl]
 constructor
 ·rintro⟨j,hj,e⟩ hi
  rw[fg_take hj]at e
  have:=List.findIdx_eq (p:=fun y=>decide (y=fgAt fs i)) h
  unfold fiG at hi
  have h2:=(this.1 hi).2 j hj
  rw[← fgAt_eq (by omega),e]at h2
  simp at h2
 ·intro hne
  refine Classical.byContradiction fun hc=>hne (fi_eq h rfl fun j hj e=>hc ⟨j,hj,?_⟩)
  rw[fg_take hj,e]
def ThereP (x:Fg):Prop:=1≤x.p∧x.p≤9∧0≤x.d∧x.d≤6
instance (x:Fg):Decidable (ThereP x):=by unfold ThereP; infer_instance
def FrV (fs:List Fg) (re lo:Int):Prop:=fs.length≤40∧0≤re∧re≤40∧1≤lo∧lo≤20 ∧ ∀ i,i<fs.length→ThereP (fgAt fs i)∧fiG (fgAt fs i) fs=i
open Classical in
noncomputable def frB (fs:List Fg) (re lo:Int):Bool:=decide (FrV fs re lo)
theorem frB_true {fs:List Fg} {re lo:Int} (h:FrV fs re lo):frB fs re lo=true:=by unfold frB; simp[h]
theorem frB_false {fs:List Fg} {re lo:Int} (h:¬FrV fs re lo):frB fs re lo=false:=by unfold frB; simp[h]
set_option maxRecDepth 100000 in
set_option maxHeartbeats 4000000 in
theorem c119 (x:Fg) (fs:List Fg) (h:fs.length≤1000):PCall Tryz.prog 33 [.imm (fs.map rowG),.agg (rowG x)] (.bool (decide (fiG x fs<fs.length))):=by
 refine PCall_1 hm Tryz.func33 cf119 rfl rfl (by simp[closedL,AVal.closed,closed_rowG,rowG]) trivial fun K hK=>?_
 have h150:=c150 x fs h
 have hrr:∀ q,renLL q (fs.map rowG)=fs.map rowG:=fun q=>renLL_closed q _ (closed_rowG fs)
 have hle:=fi_le x fs
 generalize fs.map rowG=rows at *
 unfold rowG at *
 simp
 refine SC_pure h150 ?_
 by_cases hlt:fiG x fs<fs.length
 ·have:fiI x fs=(fiG x fs:Int):=by unfold fiI; rw[if_pos hlt]
  rw[decide_eq_true hlt]at hK
  simp[this]
  exact endK hK [] (by simp)
 ·have:fiI x fs = -1:=by unfold fiI; rw[if_neg hlt]
  rw[decide_eq_false hlt]at hK
  simp[this]
  exact endK hK [] (by simp)
theorem c118 (x:Fg):PCall Tryz.prog 32 [.agg (rowG x)] (.bool (decide (ThereP x))):=by
 refine PCall_1 hm Tryz.func32 cf118 rfl rfl (by simp[closedL,AVal.closed,rowG]) trivial fun K hK=>?_
 by_cases h1:1≤x.p
 ·by_cases h2:x.p≤9
  ·by_cases h3:0≤x.d
   ·by_cases h4:x.d≤6
    ·simp[rowG,h1,h2,h3,h4]
     exact endK hK [] (by simp[ThereP,h1,h2,h3,h4])
    ·simp[rowG,h1,h2,h3,h4]
     exact endK hK [] (by simp[ThereP,h1,h2,h3,h4])
   ·simp[rowG,h1,h2,h3]
    exact endK hK [] (by simp[ThereP,h1,h2,h3])
  ·simp[rowG,h1,h2]
   exact endK hK [] (by simp[ThereP,h1,h2])
 ·simp[rowG,h1]
  exact endK hK [] (by simp[ThereP,h1])
end Go.Known
end
section
namespace Go.Known
open Go Go.AE Go.Proofs
def mm18:Memo:=⟨30,[kv9,kv5,(.agg [(.int .i64 3),(.int .i64 3),(.int .i64 5),(.int .i64 0),(.bool false),(.int .i64 0),.nilSl,(.bool false)])],(.tuple [kv4,(.imm [[(.int .i64 2),(.int .i64 1),(.int .i64 3),(.int .i64 0),(.bool false),(.bool false),(.int .i64 0)],[(.int .i64 10),(.int .i64 2),(.int .i64 0),(.int .i64 0),(.bool false),(.bool false),(.int .i64 0)]]),(.int .i64 0)])⟩
theorem mo18:mm18.Ok Tryz.prog:=known_of (l:=[mm2,mm6,mm8,mm9,mm11,mm12,mm13,mm14,mm15,mm17]) ⟨mo2,mo6,mo8,mo9,mo11,mo12,mo13,mo14,mo15,mo17,trivial⟩ mm18 (by kernel_rfl)
def mm29:Memo:=⟨30,[kv9,kv11,(.agg [(.int .i64 4),(.int .i64 1),(.int .i64 0),(.int .i64 0),(.bool false),(.int .i64 0),.nilSl,(.bool true)])],(.tuple [kv8,(.imm [[(.int .i64 9),(.int .i64 0),(.int .i64 0),(.int .i64 0),(.bool false),(.bool false),(.int .i64 0)],[(.int .i64 5),(.int .i64 0),(.int .i64 0),(.int .i64 0),(.bool false),(.bool true),(.int .i64 1)],[(.int .i64 3),(.int .i64 0),(.int .i64 2),(.int .i64 0),(.bool false),(.bool false),(.int .i64 0)],[(.int .i64 10),(.int .i64 1),(.int .i64 0),(.int .i64 0),(.bool false),(.bool false),(.int .i64 0)]]),(.int .i64 0)])⟩
theorem mo29:mm29.Ok Tryz.prog:=known_of (l:=[mm2,mm19,mm20,mm22,mm24,mm26,mm28]) ⟨mo2,mo19,mo20,mo22,mo24,mo26,mo28,trivial⟩ mm29 (by kernel_rfl)
def mm34:Memo:=⟨30,[kv9,kv11,(.agg [(.int .i64 1),(.int .i64 10),(.int .i64 0),(.int .i64 0),(.bool false),(.int .i64 0),.nilSl,(.bool false)])],(.tuple [kv15,(.imm [[(.int .i64 9),(.int .i64 2),(.int .i64 0),(.int .i64 0),(.bool false),(.bool false),(.int .i64 0)],[(.int .i64 1),(.int .i64 2),(.int .i64 0),(.int .i64 0),(.bool false),(.bool false),(.int .i64 0)]]),(.int .i64 0)])⟩
theorem mo34:mm34.Ok Tryz.prog:=known_of (l:=[mm2,mm19,mm30,mm31,mm33]) ⟨mo2,mo19,mo30,mo31,mo33,trivial⟩ mm34 (by kernel_rfl)
def mm41:Memo:=⟨30,[kv9,kv15,(.agg [(.int .i64 1),(.int .i64 1),(.int .i64 0),(.int .i64 0),(.bool false),(.int .i64 0),.nilSl,(.bool false)])],(.tuple [(.agg [(.int .i64 10),.nilSl]),(.imm [[(.int .i64 9),(.int .i64 0),(.int .i64 0),(.int .i64 0),(.bool false),(.bool false),(.int .i64 0)],[(.int .i64 1),(.int .i64 0),(.int .i64 0),(.int .i64 0),(.bool false),(.bool false),(.int .i64 0)]]),(.int .i64 0)])⟩
theorem mo41:mm41.Ok Tryz.prog:=known_of (l:=[mm2,mm35,mm36,mm38,mm40]) ⟨mo2,mo35,mo36,mo38,mo40,trivial⟩ mm41 (by kernel_rfl)
def mm42:Memo:=⟨28,[kv9,kv11,(.imm [[(.int .i64 1),(.int .i64 10),(.int .i64 0),(.int .i64 0),(.bool false),(.int .i64 0),.nilSl,(.bool false)],[(.int .i64 1),(.int .i64 1),(.int .i64 0),(.int .i64 0),(.bool false),(.int .i64 0),.nilSl,(.bool false)]])],(.tuple [(.agg [(.int .i64 10),.nilSl]),(.int .i64 2),(.int .i64 0)])⟩
theorem mo42:mm42.Ok Tryz.prog:=known_of (l:=[mm2,mm19,mm34,mm41]) ⟨mo2,mo19,mo34,mo41,trivial⟩ mm42 (by kernel_rfl)
def mm79:Memo:=⟨31,[kv9,kv5,(.int .i64 9),kv33],(.tuple [kv32,(.int .i64 0)])⟩
theorem mo79:mm79.Ok Tryz.prog:=known_of (l:=[mm2,mm6,mm8,mm78]) ⟨mo2,mo6,mo8,mo78,trivial⟩ mm79 (by kernel_rfl)
def mm80:Memo:=⟨17,[(.agg [(.int .i64 2),(.bool true),(.int .i64 5)])],(.str [50,82,53])⟩
theorem mo80:mm80.Ok Tryz.prog:=known_of (l:=[]) trivial mm80 (by kernel_rfl)
def mm81:Memo:=⟨8,[],(.bool true)⟩
theorem mo81:mm81.Ok Tryz.prog:=known_of (l:=[mm1,mm3,mm4,mm5,mm18,mm29,mm42,mm43,mm44,mm79,mm80]) ⟨mo1,mo3,mo4,mo5,mo18,mo29,mo42,mo43,mo44,mo79,mo80,trivial⟩ mm81 (by kernel_rfl)
end Go.Known
end
