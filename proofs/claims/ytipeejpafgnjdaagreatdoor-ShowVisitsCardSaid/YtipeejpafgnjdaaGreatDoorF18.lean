/- Part 18 of the proof: La. -/
import Derived.Test.YtipeejpafgnjdaaGreatDoorF11
import Derived.Test.YtipeejpafgnjdaaGreatDoorF15
import Derived.Test.YtipeejpafgnjdaaGreatDoorF17
set_option linter.all false
namespace Go.Known
open Go Go.AE Go.Proofs
open Go.Plain
attribute [local simp] wS_skip wS_region wS_dregion wS_seq wS_cond wS_block wS_exit wS_ret thenS_normal thenS_ret thenS_exit blockS_normal blockS_ret blockS_exit sops_nil sops_cons wantedE evE Env.get putE argE stepD SMem.at SMem.app SMem.get lookB AVal.cells AVal.one addA loadD rowAtD sliceLen asNat binA binInt unA eqA storeD setRow retS calleeE aundef sdops_nil sdops_cons indepL FT.indep apartL apart1 belowL subL in1 footWD footRD blkOf SubS SubE SubB
def rowL (l:Lt):List AVal:=[.int .i64 l.k,.int .i64 l.g,.int .i64 l.r,.int .i64 l.i,.int .i64 l.s,.bool l.o]
abbrev cV (f:Int) (ls:List Lt):AVal:=.agg [.int .i64 f,.imm (ls.map rowL)]
theorem closed_rows:∀ (ls:List Lt),closedLL (ls.map rowL)=true
 | []=>rfl
 | l :: r=>by simp only [List.map_cons,closedLL,closed_rows r,Bool.and_true]; rfl
theorem closed_cV (f:Int) (ls:List Lt):(cV f ls).closed=true:=by
 simp only [AVal.closed,closedL,closed_rows,Bool.and_self]
theorem wrap64 {x:Int} (h1 : -9223372036854775808≤x) (h2:x<9223372036854775808):IntKind.i64.wrap x=x:=by
 simp only [IntKind.wrap,IntKind.bits,IntKind.signed]
 first | omega | (simp; omega)
structure Rows (ls:List Lt) (rows:List (List AVal)):Prop where
 len:rows.length=ls.length
 row:∀ i,i<ls.length→rows[i]? = some (rowL (at' ls i))
theorem rows_of (ls:List Lt):Rows ls (ls.map rowL):=⟨by simp,fun i h=>by
 rw [List.getElem?_map,List.getElem?_eq_getElem h,at',List.getD,List.getElem?_eq_getElem h]
 rfl⟩
theorem cntP_take {p:Lt→Bool} {ls:List Lt} {i:Nat} (h:i<ls.length):cntP p (ls.take (i+1))=cntP p (ls.take i)+(if p (at' ls i) then 1 else 0):=by
 rw [List.take_add_one,cntP_append,at',List.getD,List.getElem?_eq_getElem h]
 simp [cntP,List.filter_cons]
 split<;>rfl
theorem cntP_le {p:Lt→Bool} {ls:List Lt} (i:Nat):cntP p (ls.take i)≤i:=by
 have h1:cntP p (ls.take i)≤(ls.take i).length:=cntP_le_one
 rw [List.length_take] at h1
 omega
theorem tmod2 (a:Nat):Int.tmod (a:Int) 2=((a % 2:Nat):Int):=rfl
theorem tdiv2 (a:Nat):Int.tdiv (a:Int) 2=((a / 2:Nat):Int):=rfl
def alongN (n i:Nat) (fw:Bool):Nat:=if fw then 2*i else 2*((i+n - 1) % n)+1
def otherN (ls:List Lt) (i:Nat):Nat→Nat→Nat
 | 0,_=>i
 | k+1,j=>if j != i&&isX (at' ls j)&&(at' ls j).i == (at' ls i).i then j else otherN ls i k (j+1)
abbrev nums (l:List Nat):List (List AVal):=l.map fun(i:Nat)=>[AVal.int .i64 (i:Int)]
theorem closed_nums:∀ (l:List Nat),closedLL (nums l)=true
 | []=>rfl
 | x :: r=>by simp only [nums,List.map_cons,closedLL]; exact closed_nums r
theorem c103 (f:Int) (ls:List Lt) (h:ls.length≤1000):PCall Tryz.prog 118 [cV f ls] (.int .i64 (cntP isX ls:Nat)):=by
 refine PCall_scalar (by simp [closedL,closed_cV]) trivial (acalls_S hm Tryz.func118 cf103 (Nat.le_of_ble_eq_true rfl) ?_)
 have hR:=rows_of ls
 unfold cV
 generalize ls.map rowL=rows at hR
 have hlen:=hR.len
 simp [af103]
 refine wS_loopN (α:=Nat×Nat) (fun a=>[(9,.int .i64 a.1),(8,.int .i64 ls.length),(7,.imm rows),(3,.int .i64 (cntP isX (ls.take a.1):Nat))]) (fun a=>⟨[],a.2⟩)
  (fun a=>ls.length - a.1) (fun a=>a.1≤ls.length) (0,8) (by simp [cntP,hlen]) (by simp) ?_
 rintro⟨i,q⟩ hi
 have hcl:=cntP_le (p:=isX) (ls:=ls) i
 simp only at hi ⊢
 by_cases hlt:i<ls.length
 · have hrow:=hR.row i hlt
   obtain⟨hil,hrow2⟩:=List.getElem?_eq_some_iff.1 hrow
   have hc:=cntP_take (p:=isX) hlt
   have hw1:IntKind.i64.wrap ((i:Int)+1)=(i:Int)+1:=wrap64 (by omega) (by omega)
   have hw2:IntKind.i64.wrap ((cntP isX (ls.take i):Nat)+1:Int)=(cntP isX (ls.take i):Nat)+1:=wrap64 (by omega) (by omega)
   generalize at' ls i=l at hrow hrow2 hc
   by_cases hk:l.k=2
   · simp [isX,hk] at hc
     simp [hlen,hlt,hrow,hrow2,rowL,hk,hw1,hw2]
     exact⟨(i+1,q+100),by simp; omega,by simp; omega,by simp [hc]<;>omega⟩
   · simp [isX,hk] at hc
     simp [hlen,hlt,hrow,hrow2,rowL,hk,hw1]
     exact⟨(i+1,q+100),by simp; omega,by simp; omega,by simp [hc]<;>omega⟩
 · have he:i=ls.length:=by omega
   subst he
   simp [hlen]
theorem c168 (f:Int) (ls:List Lt) (h:ls.length≤1000):PCall Tryz.prog 200 [cV f ls] (.int .i64 (cntP isP ls:Nat)):=by
 refine PCall_scalar (by simp [closedL,closed_cV]) trivial (acalls_S hm Tryz.func200 cf168 (Nat.le_of_ble_eq_true rfl) ?_)
 have hR:=rows_of ls
 unfold cV
 generalize ls.map rowL=rows at hR
 have hlen:=hR.len
 simp [af168]
 refine wS_loopN (α:=Nat×Nat) (fun a=>[(9,.int .i64 a.1),(8,.int .i64 ls.length),(7,.imm rows),(3,.int .i64 (cntP isP (ls.take a.1):Nat))]) (fun a=>⟨[],a.2⟩)
  (fun a=>ls.length - a.1) (fun a=>a.1≤ls.length) (0,8) (by simp [cntP,hlen]) (by simp) ?_
 rintro⟨i,q⟩ hi
 have hcl:=cntP_le (p:=isP) (ls:=ls) i
 simp only at hi ⊢
 by_cases hlt:i<ls.length
 · have hrow:=hR.row i hlt
   obtain⟨hil,hrow2⟩:=List.getElem?_eq_some_iff.1 hrow
   have hc:=cntP_take (p:=isP) hlt
   have hw1:IntKind.i64.wrap ((i:Int)+1)=(i:Int)+1:=wrap64 (by omega) (by omega)
   have hw2:IntKind.i64.wrap ((cntP isP (ls.take i):Nat)+1:Int)=(cntP isP (ls.take i):Nat)+1:=wrap64 (by omega) (by omega)
   generalize at' ls i=l at hrow hrow2 hc
   by_cases hk:l.k=1
   · simp [isP,hk] at hc
     simp [hlen,hlt,hrow,hrow2,rowL,hk,hw1,hw2]
     exact⟨(i+1,q+100),by simp; omega,by simp; omega,by simp [hc]<;>omega⟩
   · simp [isP,hk] at hc
     simp [hlen,hlt,hrow,hrow2,rowL,hk,hw1]
     exact⟨(i+1,q+100),by simp; omega,by simp; omega,by simp [hc]<;>omega⟩
 · have he:i=ls.length:=by omega
   subst he
   simp [hlen]
end Go.Known
