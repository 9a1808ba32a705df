/- Part 41 of the proof: Hl, Kr2, Km3, Hb, Ob, Hz. -/
import Derived.Test.YtfmnflhggplkmaaGreatDoorO20
import Derived.Test.YtfmnflhggplkmaaGreatDoorO21
import Derived.Test.YtfmnflhggplkmaaGreatDoorO22
import Derived.Test.YtfmnflhggplkmaaGreatDoorO30
import Derived.Test.YtfmnflhggplkmaaGreatDoorO31
import Derived.Test.YtfmnflhggplkmaaGreatDoorO32
import Derived.Test.YtfmnflhggplkmaaGreatDoorO33
import Derived.Test.YtfmnflhggplkmaaGreatDoorO36
import Derived.Test.YtfmnflhggplkmaaGreatDoorO38
import Derived.Test.YtfmnflhggplkmaaGreatDoorO40
set_option linter.all false
section
namespace Go.Known
open Go Go.AE Go.Proofs
open Go.Plain
def stdL:Nat→List Fg
 | 0=>[]
 | n+1=>stdL n++(([1,2,3,4,5].map fun d=>⟨((n+1:Nat):Int),false,d⟩)++[5,4,3,2,1].map fun d=>⟨((n+1:Nat):Int),true,d⟩)
def stdV (n:Nat):AVal:=.agg [imV ((stdL n).map rowG),.int .i64 6,.int .i64 4]
theorem std_runs:((List.range 5).all fun n=>okRun ⟨9,[.int .i64 (n:Nat)],.tuple [stdV n,.int .i64 0]⟩)=true:=by kernel_rfl
theorem cStd {n:Nat} (h:n<5):PCall Tryz.prog 9 [.int .i64 (n:Nat)] (.tuple [stdV n,.int .i64 0]):=
 known_of (l:=[]) trivial ⟨9,[.int .i64 (n:Nat)],.tuple [stdV n,.int .i64 0]⟩ (List.all_eq_true.1 std_runs n (List.mem_range.2 h))
theorem cStdE {n:Int} (h:n<0∨4<n):PCall Tryz.prog 9 [.int .i64 n] (.tuple [.agg [.nilSl,.int .i64 0,.int .i64 0],.int .i64 2]):=by
 refine PCall_F hm 4 Tryz.func9 cq9 rfl rfl rfl rfl fun K hK=>?_
 have hKv:=hK (.tuple [.agg [.nilSl,.int .i64 0,.int .i64 0],.int .i64 2]) ⟨[],1⟩ rfl
 clear hK
 rcases h with h|h
 ·simp[h]
  exact endK hKv [] (by simp)
 ·have h':¬n<0:=by omega
  simp[h,h']
  exact endK hKv [] (by simp)
theorem cShort6 (fs:List Fg) (re lo:Int):PCall Tryz.prog 7 [frV fs re lo] (.bool (decide (fs.length≤60))):=by
 refine PCall_1 hm Tryz.func7 chShort rfl rfl (by simp[closedL,AVal.closed,closed_rowG,frV]) trivial fun K hK=>?_
 have hlenG:(fs.map rowG).length=fs.length:=List.length_map ..
 unfold frV
 generalize fs.map rowG=rowsG at *
 by_cases h1:fs.length≤60
 ·have h1':(fs.length:Int)≤60:=by omega
  rw[decide_eq_true h1]at hK
  simp[hlenG,h1']
  exact endK hK [] (by simp)
 ·have h1':¬(fs.length:Int)≤60:=by omega
  rw[decide_eq_false h1]at hK
  simp[hlenG,h1']
  exact endK hK [] (by simp)
theorem cIndex6 (x:Fg) (fs:List Fg) (re lo:Int) (h:fs.length≤1000):PCall Tryz.prog 12 [frV fs re lo,.agg (rowG x)] (.int .i64 (fiR x fs)):=by
 refine PCall_1 hm Tryz.func12 chIndex rfl rfl (by simp[closedL,AVal.closed,closed_rowG,rowG,frV]) trivial fun K hK=>?_
 have h1:=c150 x fs h
 have hle:=fi_le x fs
 unfold frV
 generalize fs.map rowG=rowsG at *
 unfold rowG at *
 simp
 refine SC_pure h1 ?_
 by_cases hlt:fiG x fs<fs.length
 ·have hw:IntKind.i64.wrap ((fiG x fs:Int)+1)=(fiG x fs:Int)+1:=wrap64 (by omega) (by omega)
  simp only[fiR,if_pos hlt]at hK
  simp[fiI,hlt,hw]
  exact endK hK [] (by simp)
 ·have hw:IntKind.i64.wrap 0=0:=rfl
  simp only[fiR,if_neg hlt]at hK
  simp[fiI,hlt,hw]
  exact endK hK [] (by simp)
end Go.Known
end
section
namespace Go.Known
open Go Go.AE Go.Proofs
theorem mo78:mm78.Ok Tryz.prog:=
 memo_two hm rtC_ok (runFN_ok hm tab_ok rtC_ok 100) (e:=mm78) (af:=aq49) Tryz.func49 cq49 (by kernel_rfl) (by kernel_rfl)
  (r1:=sqL (rtB Tryz.f49)) (r2:=sqL (rtS Tryz.f49)) (r3:=sqL (rtT Tryz.f49)) (r5:=sqL (sqR (rtU Tryz.f49))) (r6:=sqL (sqR (sqR (rtU Tryz.f49)))) (rM:=sqL (sqR (sqR (sqR (sqR (rtU Tryz.f49)))))) (rT:=sqR (sqR (sqR (sqR (sqR (rtU Tryz.f49)))))) (id:=rtI Tryz.f49) (ops:=rtO Tryz.f49) (lb:=0) (by kernel_rfl) (x:=4) (y:=8) (by decide) .data rt_perm
  (a1:=rt1) (a2:=rt2) (a3:=rt3) (a5:=rt5) (a6:=rt6) (aM:=rt7) (aT:=rt8) (oA:=rtA Tryz.prog Tryz.f49) (oB:=rtZ Tryz.prog Tryz.f49) (by kernel_rfl) (by kernel_rfl) (by kernel_rfl) (by kernel_rfl) (by kernel_rfl) (by kernel_rfl) (by kernel_rfl)
  (by kernel_rfl) (by kernel_rfl) (by kernel_rfl) (by kernel_rfl) (by kernel_rfl) (by kernel_rfl) (by kernel_rfl) (by kernel_rfl) (by kernel_rfl) (by kernel_rfl) (by kernel_rfl) (by kernel_rfl) 4 8 (by decide)
  (fun i hi=>match i,hi with
    | 0,_=>rtk0|1,_=>rtk1|2,_=>rtk2|3,_=>rtk3|4,_=>rtk4|5,_=>rtk5|6,_=>rtk6|7,_=>rtk7
    | k+8,h=>absurd h (by omega))
end Go.Known
end
section
namespace Go.Known
open Go Go.AE Go.Proofs
def mm18:Memo:=⟨30,[kv9,kv5,(.agg [(.int .i64 3),(.int .i64 3),(.int .i64 5),(.int .i64 0),(.bool false),(.int .i64 0),.nilSl,(.bool false)])],(.tuple [kv4,(.imm [[(.int .i64 2),(.int .i64 1),(.int .i64 3),(.int .i64 0),(.bool false),(.bool false),(.int .i64 0)],[(.int .i64 10),(.int .i64 2),(.int .i64 0),(.int .i64 0),(.bool false),(.bool false),(.int .i64 0)]]),(.int .i64 0)])⟩
theorem mo18:mm18.Ok Tryz.prog:=known_of (l:=[mm2,mm6,mm8,mm9,mm11,mm12,mm13,mm14,mm15,mm17]) ⟨mo2,mo6,mo8,mo9,mo11,mo12,mo13,mo14,mo15,mo17,trivial⟩ mm18 (by kernel_rfl)
def mm29:Memo:=⟨30,[kv9,kv11,(.agg [(.int .i64 4),(.int .i64 1),(.int .i64 0),(.int .i64 0),(.bool false),(.int .i64 0),.nilSl,(.bool true)])],(.tuple [kv8,(.imm [[(.int .i64 9),(.int .i64 0),(.int .i64 0),(.int .i64 0),(.bool false),(.bool false),(.int .i64 0)],[(.int .i64 5),(.int .i64 0),(.int .i64 0),(.int .i64 0),(.bool false),(.bool true),(.int .i64 1)],[(.int .i64 3),(.int .i64 0),(.int .i64 2),(.int .i64 0),(.bool false),(.bool false),(.int .i64 0)],[(.int .i64 10),(.int .i64 1),(.int .i64 0),(.int .i64 0),(.bool false),(.bool false),(.int .i64 0)]]),(.int .i64 0)])⟩
theorem mo29:mm29.Ok Tryz.prog:=known_of (l:=[mm2,mm19,mm20,mm22,mm24,mm26,mm28]) ⟨mo2,mo19,mo20,mo22,mo24,mo26,mo28,trivial⟩ mm29 (by kernel_rfl)
def mm34:Memo:=⟨30,[kv9,kv11,(.agg [(.int .i64 1),(.int .i64 10),(.int .i64 0),(.int .i64 0),(.bool false),(.int .i64 0),.nilSl,(.bool false)])],(.tuple [kv15,(.imm [[(.int .i64 9),(.int .i64 2),(.int .i64 0),(.int .i64 0),(.bool false),(.bool false),(.int .i64 0)],[(.int .i64 1),(.int .i64 2),(.int .i64 0),(.int .i64 0),(.bool false),(.bool false),(.int .i64 0)]]),(.int .i64 0)])⟩
theorem mo34:mm34.Ok Tryz.prog:=known_of (l:=[mm2,mm19,mm30,mm31,mm33]) ⟨mo2,mo19,mo30,mo31,mo33,trivial⟩ mm34 (by kernel_rfl)
def mm41:Memo:=⟨30,[kv9,kv15,(.agg [(.int .i64 1),(.int .i64 1),(.int .i64 0),(.int .i64 0),(.bool false),(.int .i64 0),.nilSl,(.bool false)])],(.tuple [(.agg [(.int .i64 10),.nilSl]),(.imm [[(.int .i64 9),(.int .i64 0),(.int .i64 0),(.int .i64 0),(.bool false),(.bool false),(.int .i64 0)],[(.int .i64 1),(.int .i64 0),(.int .i64 0),(.int .i64 0),(.bool false),(.bool false),(.int .i64 0)]]),(.int .i64 0)])⟩
theorem mo41:mm41.Ok Tryz.prog:=known_of (l:=[mm2,mm35,mm36,mm38,mm40]) ⟨mo2,mo35,mo36,mo38,mo40,trivial⟩ mm41 (by kernel_rfl)
def mm42:Memo:=⟨28,[kv9,kv11,(.imm [[(.int .i64 1),(.int .i64 10),(.int .i64 0),(.int .i64 0),(.bool false),(.int .i64 0),.nilSl,(.bool false)],[(.int .i64 1),(.int .i64 1),(.int .i64 0),(.int .i64 0),(.bool false),(.int .i64 0),.nilSl,(.bool false)]])],(.tuple [(.agg [(.int .i64 10),.nilSl]),(.int .i64 2),(.int .i64 0)])⟩
theorem mo42:mm42.Ok Tryz.prog:=known_of (l:=[mm2,mm19,mm34,mm41]) ⟨mo2,mo19,mo34,mo41,trivial⟩ mm42 (by kernel_rfl)
def mm79:Memo:=⟨31,[kv9,kv5,(.int .i64 9),kv33],(.tuple [kv32,(.int .i64 0)])⟩
theorem mo79:mm79.Ok Tryz.prog:=known_of (l:=[mm2,mm6,mm8,mm78]) ⟨mo2,mo6,mo8,mo78,trivial⟩ mm79 (by kernel_rfl)
def mm80:Memo:=⟨17,[(.agg [(.int .i64 2),(.bool true),(.int .i64 5)])],(.str [50,82,53])⟩
theorem mo80:mm80.Ok Tryz.prog:=known_of (l:=[]) trivial mm80 (by kernel_rfl)
def mm81:Memo:=⟨8,[],(.bool true)⟩
theorem mo81:mm81.Ok Tryz.prog:=known_of (l:=[mm1,mm3,mm4,mm5,mm18,mm29,mm42,mm43,mm44,mm79,mm80]) ⟨mo1,mo3,mo4,mo5,mo18,mo29,mo42,mo43,mo44,mo79,mo80,trivial⟩ mm81 (by kernel_rfl)
end Go.Known
end
section
namespace Go.Known
open Go Go.AE Go.Proofs
open Go.Plain
theorem known6:PCall Tryz.prog 8 [] (.bool true):=mo81
end Go.Known
end
section
namespace Go.AE
open Go
theorem lookB_lessS {ks:List Nat} {b:Nat}:∀ {l:List (Nat×ABlk)},lookB (lessB ks l) b=if b∈ks then none else lookB l b
 | []=>by simp[lessB,lookB]
 | (c,y) :: r=>by
  simp only[lessB]
  by_cases hc:c∈ks
  ·rw[memN_iff.2 hc,cond_true,lookB_lessS]
   by_cases hb:b∈ks
   ·rw[if_pos hb,if_pos hb]
   ·rw[if_neg hb,if_neg hb]
    have:c≠b:=fun e=>hb (e ▸ hc)
    simp[lookB,this,Ne.symm this]
  ·have hm:memN c ks=false:=by
    cases h:memN c ks with
    | false=>rfl
    | true=>exact absurd (memN_iff.1 h) hc
   rw[hm,cond_false]
   simp only[lookB]
   by_cases he:b=c
   ·subst he
    simp[hc]
   ·have he':c≠b:=fun e=>he e.symm
    simp[he,he',lookB_lessS]
theorem SC_frz {P:Program} {g:FuncId} {args0 args:List AVal} {v0:AVal} (h:PCall P g args0 v0) {m:SMem} (S:List Nat) {n:Nat} (ha:mapO (freezeV (fun c=>bif mem1 c S then m.get c else none) n) args=some args0) {id:Nat} {K:AVal→SMem→Prop} (hK:K v0 ⟨lessB S m.bl,m.next⟩):SC P g args m id K:=by
 have hm:(⟨lessB S m.bl,m.next⟩:SMem).mem=m.mem.less S:=by
  refine Mem.ext' (fun c=>?_) rfl
  show lookB (lessB S m.bl) c=if c∈S then none else lookB m.bl c
  exact lookB_lessS
 exact(memo_frozen (e:=⟨g,args0,v0⟩) h (m:=m.mem) (L:=S) ha [id]).mono fun r m' hr=>by
  obtain⟨rfl,rfl⟩:=hr
  exact⟨_,hm.symm,hK⟩
end Go.AE
end
section
namespace Go.Known
open Go.Plain
def hgL:Int→List Int→List Lt
 | _,[]=>[]
 | p,f :: r=>⟨1,f - 1,if p=f - 1 then 2 else 1,0,0,false⟩ :: ⟨1,f,1,0,0,false⟩ :: hgL f r
def incB (hi:Int):Int→List Int→Bool
 | _,[]=>true
 | lo,f :: r=>decide (lo<f)&&decide (f≤hi)&&incB hi f r
theorem hgL_len:∀ (fs:List Int) (p:Int),(hgL p fs).length=2*fs.length
 | [],_=>rfl
 | f :: r,p=>by simp only[hgL,List.length_cons,hgL_len r f]; omega
theorem incB_cons {hi lo f:Int} {r:List Int} (h:incB hi lo (f :: r)=true):lo<f∧f≤hi∧incB hi f r=true:=by
 simp only[incB,Bool.and_eq_true,decide_eq_true_eq]at h
 exact⟨h.1.1,h.1.2,h.2⟩
end Go.Known
end
