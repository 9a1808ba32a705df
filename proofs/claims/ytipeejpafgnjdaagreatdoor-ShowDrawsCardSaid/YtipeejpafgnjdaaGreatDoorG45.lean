/- Part 45 of the proof: Yd. -/
import Derived.Test.YtipeejpafgnjdaaGreatDoorG16
import Derived.Test.YtipeejpafgnjdaaGreatDoorG28
import Derived.Test.YtipeejpafgnjdaaGreatDoorG34
import Derived.Test.YtipeejpafgnjdaaGreatDoorG38
import Derived.Test.YtipeejpafgnjdaaGreatDoorG41
import Derived.Test.YtipeejpafgnjdaaGreatDoorG43
import Derived.Test.YtipeejpafgnjdaaGreatDoorG44
set_option linter.all false
namespace Go.Known
open Go Go.AE Go.Proofs
open Go.Plain
theorem Z68 (d:Nat) (hd:d≤10000):PCall Tryz.prog 104 [.int .i64 d] (.int .i64 (bkN d:Nat)):=by
 refine Zdi hm Tryz.func104 cmRRev rfl rfl (by simp[Zag,AVal.closed]) trivial fun K hK=>?_
 have htm:(d:Int).tmod 2=((d % 2:Nat):Int):=rfl
 unfold bkN at hK
 by_cases hp:d % 2=0
 ·have hw1:IntKind.i64.wrap ((d:Int)+1)=((d+1:Nat):Int):=by rw[Zae (by omega) (by omega)]; omega
  rw[if_pos hp]at hK
  simp[htm,hp,hw1,-Int.natCast_add,-Int.natCast_emod]
  exact endK hK [] (by simp)
 ·have hw2:IntKind.i64.wrap ((d:Int) - 1)=((d - 1:Nat):Int):=by rw[Zae (by omega) (by omega)]; omega
  rw[if_neg hp]at hK
  generalize d % 2=z at *
  simp[htm,hp,hw2]
  exact endK hK [] (by simp)
theorem cRUp (f:Int) (ls:List Lt) (i:Nat) (h:ls.length≤1000) (hi:i<ls.length):PCall Tryz.prog 100 [cV f ls,.int .i64 i] (.int .i64 (upN ls i:Nat)):=by
 refine Zdi hm Tryz.func100 cmRUp rfl rfl (by simp[Zag,AVal.closed,Zac]) trivial fun K hK=>?_
 have h68:=c68 f ls i h (by omega)
 have hll:(ls.map rowL).length=ls.length:=List.length_map ..
 have hne:ls≠[]:=by intro e; subst e; simp at hi
 unfold cV at *
 generalize ls.map rowL=rows at *
 unfold upN Zb5 at hK
 simp
 refine Zbc h68 ?_
 cases hd:down ls i with
 | true=>
  have hw1:IntKind.i64.wrap ((i:Int)+(ls.length:Int))=((i+ls.length:Nat):Int):=by rw[Zae (by omega) (by omega)]; omega
  have hw2:IntKind.i64.wrap (((i+ls.length:Nat):Int) - 1)=((i+ls.length - 1:Nat):Int):=by rw[Zae (by omega) (by omega)]; omega
  have hm2:((i+ls.length - 1:Nat):Int).tmod (ls.length:Int)=(((i+ls.length - 1) % ls.length:Nat):Int):=rfl
  have hlt:(i+ls.length - 1) % ls.length<ls.length:=Nat.mod_lt _ (by omega)
  rw[hd]at hK
  generalize (i+ls.length - 1) % ls.length=z at *
  have hw3:IntKind.i64.wrap (2*(z:Int))=((2*z:Nat):Int):=by rw[Zae (by omega) (by omega)]; omega
  have hw4:IntKind.i64.wrap (((2*z:Nat):Int)+1)=((2*z+1:Nat):Int):=by rw[Zae (by omega) (by omega)]; omega
  generalize i+ls.length - 1=y at *
  generalize i+ls.length=y2 at *
  simp at hK
  simp[hll,hw1,hw2,hm2,hw3,hw4,hne,-Int.natCast_add,-Int.natCast_mul]
  exact endK hK [] (by simp)
 | false=>
  have hw3:IntKind.i64.wrap (2*(i:Int))=((2*i:Nat):Int):=by rw[Zae (by omega) (by omega)]; omega
  rw[hd]at hK
  simp at hK
  simp[hw3,-Int.natCast_mul]
  exact endK hK [] (by simp)
theorem cRHas (l:List Int) (x:Int) (hl:l.length≤10000):PCall Tryz.prog 195 [imV (irow l),.int .i64 x] (.bool (decide (x∈l))):=by
 refine Zdi hm Tryz.func195 cmRHas rfl rfl (by simp[Zag,AVal.closed,Za8,Zdb]) trivial fun K hK=>?_
 simp
 refine Zbg (α:=Nat) (fun i=>[(5,.int .i64 i),(1,.int .i64 x),(0,imV (irow l))]) (fun i=>⟨[],2⟩) (fun i=>l.length - i) (fun i=>i≤l.length∧x∉l.take i) 0 [] (by simp) (by simp) ?_
 rintro i ⟨hi,hx⟩ N hN
 try simp only at hi hx hN ⊢
 by_cases hlt:i<l.length
 ·have hg:(irow l)[i]? = some [.int .i64 l[i]]:=Z4r (List.getElem?_eq_getElem hlt)
  obtain⟨_,hg2⟩:=getE hg
  have hne:¬irow l=[]:=by rw[Z41]; intro e; subst e; simp at hlt
  have hw:IntKind.i64.wrap ((i:Int)+1)=(i:Int)+1:=Zae (by omega) (by omega)
  rw[Zj5 hne]
  by_cases he:l[i]=x
  ·have hin:x∈l:=by rw[← he]; exact List.getElem_mem _
   simp[hlt,hg,hg2,he]
   rw[decide_eq_true hin]at hK
   exact endK hK [] (by simp)
  ·simp[hlt,hg,hg2,he,hw]
   refine hN (i+1) [] _ _ (by omega) ⟨by omega,?_⟩ (by simp[Zj5 hne])
   intro hm
   rw[List.take_succ_eq_append_getElem hlt]at hm
   rcases List.mem_append.1 hm with hm|hm
   ·exact hx hm
   ·exact he (List.mem_singleton.1 hm).symm
 ·have hin:x∉l:=by
   rw[List.take_of_length_le (by omega)]at hx
   exact hx
  simp[hlt]
  rw[decide_eq_false hin]at hK
  exact endK hK [] (by simp)
abbrev drV (f:Int) (ls:List Lt) (A X:AVal) (done:List Int):AVal:=.agg [.int .i64 f,.imm (ls.map rowL),A,X,imV (irow done)]
set_option maxHeartbeats 1000000 in
theorem cRCr (f:Int) (ls:List Lt) (A X:AVal) (done:List Int) (d:Nat) (hA:A.closed=true) (hX:X.closed=true) (h:ls.length≤1000) (hd:d<2*ls.length) (hdn:done.length≤10000) (hA1:A.one=true) (hX1:X.one=true) :
 PCall Tryz.prog 158 [drV f ls A X done,.int .i64 d] (.int .i64 (crN ls done d)):=by
 refine Zdi hm Tryz.func158 cmRCr rfl rfl (by simp[Zag,AVal.closed,Zac,hA,hX,Za8,Zdb]) trivial fun K hK=>?_
 have h53:=c53 f ls d h hd
 have hhd:=Zg6 hd
 have hrow:=Zfu ls hhd
 obtain⟨_,hrow2⟩:=getE hrow
 have hll:(ls.map rowL).length=ls.length:=List.length_map ..
 have hhas:=cRHas done (ldN ls d).i hdn
 have hcI:(imV (irow done)).cells=some [imV (irow done)]:=by unfold imV; split<;>rfl
 have hoI:(imV (irow done)).one=true:=by unfold imV; split<;>rfl
 unfold crN at hK
 generalize hl:at' ls (Zbj ls.length d)=l at *
 have hld:ldN ls d=l:=hl
 rw[hld]at hK hhas
 unfold drV cV at *
 generalize ls.map rowL=rows at *
 unfold rowL at hrow hrow2
 generalize imV (irow done)=D at *
 simp[hA1,hX1,hcI,hoI]
 refine Zbm h53 ?_
 by_cases hk:l.k=2
 ·simp[hrow,hrow2,hk,hll,hhd]
  refine Zbc hhas ?_
  by_cases hin:l.i∈done
  ·rw[if_neg (fun e=>e.2 hin)]at hK
   simp[hin]
   exact endK hK [] (by simp)
  ·rw[if_pos ⟨hk,hin⟩]at hK
   simp[hin]
   exact endK hK [] (by simp)
 ·rw[if_neg (fun e=>hk e.1)]at hK
  simp[hrow,hrow2,hk,hll,hhd]
  exact endK hK [] (by simp)
end Go.Known
