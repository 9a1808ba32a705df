/- Part 41 of the proof: Ye, Yg, Yi, Yj, Yo. -/
import Derived.Test.YtilmpmlkndfbjaaGreatDoorI12
import Derived.Test.YtilmpmlkndfbjaaGreatDoorI23
import Derived.Test.YtilmpmlkndfbjaaGreatDoorI31
import Derived.Test.YtilmpmlkndfbjaaGreatDoorI36
import Derived.Test.YtilmpmlkndfbjaaGreatDoorI38
import Derived.Test.YtilmpmlkndfbjaaGreatDoorI39
import Derived.Test.YtilmpmlkndfbjaaGreatDoorI40
set_option linter.all false
section
namespace Go.Known
open Go Go.AE Go.Proofs
open Go.Plain
theorem Zcm(rows:List (List AVal)):(imV rows).one=true:=by unfold imV; split<;>rfl
theorem Zcc(rows:List (List AVal)):(imV rows).cells=some [imV rows]:=by unfold imV; split<;>rfl
theorem Zuo{l:List Nat}(h:l≠[]):¬Z2 l=[]:=by simpa[Z2]using h
theorem Yc5{l:List Nat}{i:Nat}(h:i<l.length):l.getD i 0=l[i]:=by rw[List.getD,gE h]; rfl
theorem Zk1{l:List Nat}{i:Nat}(h:i<l.length):(Z2 l)[i]? = some [.int .i64 (l.getD i 0:Nat)]:=B4 (by rw[Yc5 h]; exact gE h)
end Go.Known
end
section
namespace Go.Known
open Go Go.AE Go.Proofs
open Go.Plain
theorem Z8c{P:Program}{f:FuncId}{args:List AVal}{m:SMem}{K K':AVal→SMem→Prop}(h:Ctr P f args m K)(s:∀ r a,K r a → ∃ mt,Trim mt a∧K' r mt):Ctr P f args m K':=by
 refine⟨h.1,fun W Φ ρ vs w v p c=>(h.2 W Φ ρ vs w v p c).mono fun e w' q=>?_⟩
 obtain⟨u,r,y,i,ρ',k,l,d,g,o,t,a,rfl,n⟩:=q;obtain⟨mt,j,b⟩:=s r a n;exact⟨u,r,mt.mem,i,ρ',k,l,d,j.rel g,o,by show m.mem.next≤mt.next; rw[← j.1]; exact t,mt,rfl,b⟩
theorem Yce(k:Nat)(els a:List (List AVal))(n:Nat):Trim ⟨[(1,.cells k els)],n⟩ ⟨[(1,.cells k (els++a))],n⟩:=by
 refine⟨rfl,fun b x c=>?_⟩
 simp only[SMem.get,Z9]at c ⊢;split at c
 ·rename_i d;injection c with c
  subst c;exact .inr ⟨k,els,a,rfl,by rw[if_pos d]⟩
 ·cases c
set_option maxRecDepth 100000 in
set_option maxHeartbeats 2000000 in
theorem Ycu(rows:List (List AVal))(i:Nat)(hi:i+2≤rows.length)(P:rows.length≤100000)(J:V3 rows=true) :
 Ctr Tryz.prog 105 [.sl 1 0 rows.length,.int .i64 i,.int .i64 ((i+2:Nat):Int)] ⟨[(1,.cells 1 rows)],2⟩ fun v m=>
  v=.sl 1 0 (rows.length - 2)∧m=⟨[(1,.cells 1 (rows.take i++rows.drop (i+2)))],2⟩:=by
 refine Z8c (K:=fun v m=>v=.sl 1 0 (rows.length - 2)∧m=⟨[(1,.cells 1 ((rows.take i++rows.drop (i+2))++List.replicate 2 [.int .i64 0]))],2⟩) ?_ fun r Q b=>by
  obtain⟨rfl,rfl⟩:=b;exact⟨_,Yce 1 _ _ 2,rfl,rfl⟩
 refine E7 hm Tryz.func105 cf98 rfl rfl fun K u=>?_
 have a:=u _ _ ⟨rfl,rfl⟩;clear u;have w:∀ q,Z4 q rows=rows:=fun q=>X1 q _ J
 obtain⟨j,N⟩:∃ j,i+2=j:=⟨_,rfl⟩
 have y:i≤j:=by omega
 have z:j≤rows.length:=by omega
 have A:¬(i:Int)=(j:Int):=by omega
 have c:¬i=j:=by omega
 have t:¬rows.length=0:=by omega
 have B:i≤rows.length:=by omega
 have D:¬rows=[]:=fun e=>t (by rw[e]; rfl)
 have I:min (rows.length - j) (rows.length - j)=rows.length - j:=by omega
 have L:i+(rows.length - j)=rows.length - 2:=by omega
 have C:i+(rows.length - j)≤rows.length:=by omega
 have M:rows.length - 2≤rows.length:=by omega
 have b:rows.length - (rows.length - 2)=2:=by omega
 have h:(rows.drop j).take (rows.length - j)=rows.drop j:=List.take_of_length_le (by simp)
 have O:(rows.take i++rows.drop j).length=rows.length - 2:=by simp; omega
 rw[N]at a ⊢;simp[I,L,M,b,h,Zkz,y,z,A,c,t,B,C,D,O6];have E:rows.take i++(rows.drop j++rows.drop (rows.length - 2))=(rows.take i++rows.drop j)++rows.drop (rows.length - 2):=by rw[List.append_assoc]
 have d:(rows.take i++(rows.drop j++rows.drop (rows.length - 2))).take (rows.length - 2)=rows.take i++rows.drop j:=by
  rw[E,List.take_append_of_le_length (by omega),List.take_of_length_le (by omega)]
 have g:(rows.take i++(rows.drop j++rows.drop (rows.length - 2))).drop rows.length=[]:=List.drop_eq_nil_of_le (by simp; omega)
 have G:(rows.take i++(rows.drop j++rows.drop (rows.length - 2))).length=rows.length:=by simp; omega
 generalize H:rows.take i++(rows.drop j++rows.drop (rows.length - 2))=F at *;have o:rows.length - 2+2=rows.length:=by omega
 have k:rows.length≤i+(rows.length - j+2)+2:=by omega
 have l:rows.length≤i+(rows.length - j+2):=by omega
 have n:rows.length≤F.length:=by omega
 simp[k,l,n,b,d,g,o];have p:∀ q,Z4 q (rows.take i)=rows.take i:=fun q=>by rw[J3,List.map_take,← J3,w]
 have s:∀ q,Z4 q (rows.drop j)=rows.drop j:=fun q=>by rw[J3,List.map_drop,← J3,w]
 exact Y1 a [] (by simp[p,s])
end Go.Known
end
section
namespace Go.Known
open Go Go.AE Go.Proofs
open Go.Plain
attribute [local simp] Zmb Zn0 Zl4 Zlc Znc Zn2 Zlo Zl3 Znd Zm3 Zmj Zna Zlg Zl7 Zpb Zss Zlt Zmo Znh Zm5 Zp4 Zk2 Zr9
theorem Yby(els a:List (List AVal))(n:Nat)(t:List (Nat×ABlk)):Trim ⟨[(1,.cells 1 els)],n⟩ ⟨(1,.cells 1 (els++a)) :: t,n⟩:=by
 refine⟨rfl,fun b x c=>?_⟩
 simp only[SMem.get,Z9]at c ⊢;split at c
 ·rename_i d;injection c with c
  subst c;exact .inr ⟨1,els,a,rfl,by rw[if_pos d]⟩
 ·cases c
theorem endI{K:AVal→SMem→Prop}{k n:Nat}{els F:List (List AVal)}{t:List (Nat×ABlk)}(b:K (.sl 3 0 k) ⟨[(3,.cells 1 els)],4⟩)(a:F.take els.length=els)(d:∀ q,Z4 q els=els)(c:3≤n):EndT 3 K (.sl 1 0 k) ⟨(1,.cells 1 F) :: t,n⟩:=by
 have e:F=els++F.drop els.length:=by conv=>lhs; rw[← List.take_append_drop els.length F,a]
 rw[e];exact⟨_,Yby els _ n t,Y1 b [(3,1)] (by simp[d,c])⟩
set_option maxRecDepth 100000 in
set_option maxHeartbeats 8000000 in
theorem Z62(A V:List (List AVal))(i:Nat)(hi:i<A.length)(hl:A.length≤100000)(hV:V≠[])(ab:V.length≤10)(aa:(V.all fun x=>x.length == 1)=true)(O:V3 A=true)(P:V3 V=true) :
 Ctr Tryz.prog 109 [.sl 1 0 A.length,.int .i64 i,.int .i64 A.length,.sl 2 0 V.length] ⟨[(1,.cells 1 A),(2,.cells 1 V)],3⟩ fun r m=>r=.sl 3 0 (i+V.length)∧m=⟨[(3,.cells 1 (A.take i++V))],4⟩:=by
 refine Zo6 (b:=1) (k:=1) (els:=A) hm Zn5 Tryz.func109 Zl1 rfl rfl rfl fun K U N M=>?_
 have Q:∀ q,Z4 q A=A:=fun q=>X1 q _ O
 have v:∀ q,Z4 q V=V:=fun q=>X1 q _ P
 have u:∀ q,Z4 q (A.take i)=A.take i:=fun q=>by rw[J3,List.map_take,← J3,Q]
 have l:=U _ _ ⟨rfl,rfl⟩;clear U;obtain⟨E,z⟩:∃ E,A++List.replicate (N - A.length) (List.replicate 1 AVal.bot)=E:=⟨_,rfl⟩
 have e:padS ⟨[(1,.cells 1 A),(2,.cells 1 V)],3⟩ 1 1 A N=⟨[(1,.cells 1 E),(1,.cells 1 A),(2,.cells 1 V)],3⟩:=by rw[← z]; rfl
 have h:E.length=N:=by rw[← z]; simp; omega
 have J:∀ j,j≤A.length→E.take j=A.take j:=fun j Z=>by rw[← z,List.take_append_of_le_length Z]
 rw[e];clear e z;have y:i≤A.length:=by omega
 have B:i≤N:=by omega
 have C:¬i=A.length:=by omega
 have g:¬(i:Int)=(A.length:Int):=by omega
 have D:¬N<i:=by omega
 have G:i+V.length≤1048576:=by omega
 have H:min i N=i:=by omega
 have a:=J i y;by_cases c:N<i+V.length
 ·have n:¬i+V.length<A.length:=by omega
  have I:¬(i:Int)+(V.length:Int)<(A.length:Int):=by omega
  simp[y,B,C,g,D,G,H,n,I,M,h,c,R4,Zfn,a];refine⟨_,Trim.refl _,?_⟩;exact Y1 l [(3,19)] (by simp[u,v])
 ·have S:i+V.length≤N:=by omega
  obtain⟨F,L⟩:∃ F,E.take i++V++E.drop (i+V.length)=F:=⟨_,rfl⟩
  have p:F.length=N:=by rw[← L]; simp; omega
  have s:F.take (i+V.length)=A.take i++V:=by
   rw[← L,a,List.take_append_of_le_length (by simp; omega),List.take_of_length_le (by simp; omega)]
  have o:A.take i++(V++E.drop (i+V.length))=F:=by rw[← L,a,List.append_assoc]
  have t:∀ q,Z4 q (A.take i++V)=A.take i++V:=fun q=>by rw[Zn8,u,v]
  have d:(A.take i++V).length=i+V.length:=by simp; omega
  have ht:((i:Int)+(V.length:Int)).toNat=i+V.length:=by omega
  have hp:(0:Int)≤(i:Int)+(V.length:Int):=by omega
  by_cases w:i+V.length<A.length
  ·have n:(i:Int)+(V.length:Int)<(A.length:Int):=by omega
   have X:i+V.length≤A.length:=by omega
   have Y:i+V.length+(A.length - (i+V.length))=A.length:=by omega
   simp[y,B,C,g,D,G,H,w,n,M,h,c,R4,Zfn,a,S,o,p,O6,ht,hp,X,Y];exact endI l (by rw[d,s]; rw[List.take_append_of_le_length (by simp; omega),List.take_of_length_le (by simp; omega)]) t (by omega)
  ·have n:¬(i:Int)+(V.length:Int)<(A.length:Int):=by omega
   simp[y,B,C,g,D,G,H,w,n,M,h,c,R4,Zfn,a,S,o,p,O6];exact endI l (by rw[d,s]) t (by omega)
end Go.Known
end
section
namespace Go.Known
open Go Go.AE Go.Proofs
open Go.Plain
attribute [local simp] Zmb Zn0 Zl4 Zlc Znc Zn2 Zlo Zl3 Znd Zm3 Zmj Zna Zlg Zl7 Zpb Zss Zlt Zmo Znh Zm5 Zp4 Zk2 Zr9
set_option maxRecDepth 100000 in
set_option maxHeartbeats 8000000 in
theorem Z3j(A V:List (List AVal))(i j:Nat)(ao:i<j)(hj:j<A.length)(hl:A.length≤100000)(hV:V≠[])(aq:V.length≤10)(ah:V3 A=true)(ai:V3 V=true) :
 Ctr Tryz.prog 109 [.sl 1 0 A.length,.int .i64 i,.int .i64 j,.sl 2 0 V.length] ⟨[(1,.cells 1 A),(2,.cells 1 V)],3⟩ fun r m=>r=.sl 3 0 (i+V.length+(A.length - j))∧m=⟨[(3,.cells 1 (A.take i++V++A.drop j))],4⟩:=by
 refine Zo6 (b:=1) (k:=1) (els:=A) hm Zn5 Tryz.func109 Zl1 rfl rfl rfl fun K hK N hN=>?_
 have aa:∀ q,Z4 q A=A:=fun q=>X1 q _ ah
 have am:∀ q,Z4 q V=V:=fun q=>X1 q _ ai
 have al:∀ q,Z4 q (A.take i)=A.take i:=fun q=>by rw[J3,List.map_take,← J3,aa]
 have ak:∀ q,Z4 q (A.drop j)=A.drop j:=fun q=>by rw[J3,List.map_drop,← J3,aa]
 have t:=hK _ _ ⟨rfl,rfl⟩;clear hK;obtain⟨E,hE⟩:∃ E,A++List.replicate (N - A.length) (List.replicate 1 AVal.bot)=E:=⟨_,rfl⟩
 have C:padS ⟨[(1,.cells 1 A),(2,.cells 1 V)],3⟩ 1 1 A N=⟨[(1,.cells 1 E),(1,.cells 1 A),(2,.cells 1 V)],3⟩:=by rw[← hE]; rfl
 have I:E.length=N:=by rw[← hE]; simp; omega
 have X:∀ j,j≤A.length→E.take j=A.take j:=fun j hj=>by rw[← hE,List.take_append_of_le_length hj]
 have p:(E.drop j).take (A.length - j)=A.drop j:=by rw[← List.drop_take,X _ (Nat.le_refl _),List.take_length]
 rw[C];clear C hE;have c:=X i (by omega)
 have z:∀ q,Z4 q (A.take i++V++A.drop j)=A.take i++V++A.drop j:=fun q=>by rw[Zn8,Zn8,al,am,ak]
 have v:(A.take i++V++A.drop j).length=i+V.length+(A.length - j):=by simp; omega
 obtain⟨a,n⟩:∃ a,i+V.length=a:=⟨_,rfl⟩
 obtain⟨h,d⟩:∃ h,A.length - j=h:=⟨_,rfl⟩
 obtain⟨tot,e⟩:∃ tot,a+h=tot:=⟨_,rfl⟩
 have an:0<V.length:=List.length_pos_iff.2 hV;have L:IntKind.i64.wrap ((i:Int)+(V.length:Int))=(a:Int):=by rw[Z5 (by omega) (by omega)]; omega
 have M:IntKind.i64.wrap ((a:Int)+(h:Int))=(tot:Int):=by rw[Z5 (by omega) (by omega)]; omega
 have O:IntKind.i64.wrap ((tot:Int) - (i:Int))=((tot - i:Nat):Int):=by rw[Z5 (by omega) (by omega)]; omega
 have a1:i≤j:=by omega
 have a2:j≤N:=by omega
 have a3:¬(i:Int)=(j:Int):=by omega
 have D:¬i=j:=by omega
 have a4:¬(j:Int)=(A.length:Int):=by omega
 have F:¬j=A.length:=by omega
 have a5:i≤A.length:=by omega
 have a6:j≤A.length:=by omega
 have a7:i≤N:=by omega
 rw[n,d,e]at t;rw[d]at p;by_cases g:N<tot
 ·have b1:(N:Int)<(tot:Int):=by omega
  have b2:i+(tot - i)=tot:=by omega
  have b3:tot≤1048576:=by omega
  have b4:i≤tot:=by omega
  have b5:a≤tot:=by omega
  have b6:min i N=i:=by omega
  obtain⟨G,o⟩:∃ G,A.take i++V++List.replicate h [AVal.int .i64 0]=G:=⟨_,rfl⟩
  have s:G.length=tot:=by rw[← o]; simp; omega
  have w:cpR (A.take i++List.replicate (tot - i) [AVal.int .i64 0]) i (tot - i) V=G:=by
   have l:A.take i++List.replicate (tot - i) [AVal.int .i64 0]=A.take i++List.replicate V.length [AVal.int .i64 0]++List.replicate h [AVal.int .i64 0]:=by
    rw[List.append_assoc,List.replicate_append_replicate,show V.length+h=tot - i by omega]
   rw[l,Zgo (by simp; omega) (by simp) (by omega),o]
  have y:cpR G a (tot - a) (A.drop j)=A.take i++V++A.drop j:=by
   have e3:=Zgo (P:=A.take i++V) (Q:=List.replicate h [AVal.int .i64 0]) (S:=[]) (xs:=A.drop j) (off:=a) (len:=tot - a) (by simp; omega) (by simp; omega) (by simp; omega)
   rw[List.append_nil,List.append_nil,o]at e3;exact e3
  have b7:j+h=A.length:=by omega
  have b8:i+(tot - i)=tot:=by omega
  have b9:a+(tot - a)=tot:=by omega
  simp[L,M,O,a1,a2,a3,D,a4,F,a5,a6,a7,hN,I,g,b1,b2,b3,b4,b5,b6,b7,b8,b9,d,R4,Zma,Zfn,c,w,s,p,y];refine⟨_,Trim.refl _,?_⟩;rw[List.append_assoc]at t z;exact Y1 t [(3,38)] (by simp[z])
 ·have b1:¬(N:Int)<(tot:Int):=by omega
  have b2:tot≤N:=by omega
  have b4:i≤tot:=by omega
  have b5:a≤tot:=by omega
  have b7:j+h=A.length:=by omega
  have b8:i+(tot - i)=tot:=by omega
  have b9:a+(tot - a)=tot:=by omega
  have ae:E=A.take i++(E.drop i).take V.length++E.drop a:=by
   rw[← c,← n,← List.drop_drop,List.append_assoc,List.take_append_drop,List.take_append_drop]
  have U:E.drop a=(E.drop a).take h++E.drop tot:=by
   rw[← e,← List.drop_drop,List.take_append_drop]
  have B:(A.take i).length=i:=by simp; omega
  have Z:(A.drop j).length=h:=by simp; omega
  have u:∀ R:List (List AVal),(A.take i++V++A.drop j++R).take (A.take i++V++A.drop j).length=A.take i++V++A.drop j:=fun R=>by rw[List.take_append_of_le_length (Nat.le_refl _),List.take_length]
  by_cases ab:a≤j
  ·have c1:(a:Int)≤(j:Int):=by omega
   obtain⟨G,o⟩:∃ G,A.take i++V++E.drop a=G:=⟨_,rfl⟩
   have s:G.length=N:=by rw[← o]; simp; omega
   have w:cpR E i (tot - i) V=G:=by
    have l:=Zgo (P:=A.take i) (Q:=(E.drop i).take V.length) (S:=E.drop a) (xs:=V) (off:=i) (len:=tot - i) B (by simp; omega) (by omega)
    rw[← ae,o]at l;exact l
   have af:(G.drop j).take h=A.drop j:=by
    rw[← o,List.drop_append,List.drop_eq_nil_of_le (by simp; omega),List.nil_append,List.drop_drop]
    have:a+(j - (A.take i++V).length)=j:=by rw[List.length_append,B]; omega
    rw[this,p]
   obtain⟨H,J⟩:∃ H,A.take i++V++A.drop j++E.drop tot=H:=⟨_,rfl⟩
   have Y:H.length=N:=by rw[← J]; simp; omega
   have y:cpR G a (tot - a) (A.drop j)=H:=by
    have l:=Zgo (P:=A.take i++V) (Q:=(E.drop a).take h) (S:=E.drop tot) (xs:=A.drop j) (off:=a) (len:=tot - a) (by rw[List.length_append,B]; omega) (by rw[Z]; simp; omega) (by omega)
    rw[List.append_assoc _ _ (E.drop tot),← U,o,J]at l;exact l
   have ag:H.take tot=A.take i++V++A.drop j:=by
    have:=u (E.drop tot);rw[J,v,n,d,e]at this;exact this
   have ac:tot≤A.length:=by omega
   have ad:tot+(A.length - tot)=A.length:=by omega
   simp[L,M,O,a1,a2,a3,D,a4,F,a5,a6,a7,hN,I,g,b1,b2,b4,b5,b7,b8,b9,c1,ab,d,R4,Zma,Zfn,c,p,w,s,af,y,Y,ac,ad];refine endI t ?_ z (by omega)
   rw[v,n,d,e,ag];have:=u (List.replicate (A.length - tot) [AVal.int .i64 0]++H.drop A.length);rw[v,n,d,e]at this;exact this
  ·have c1:¬(a:Int)≤(j:Int):=by omega
   obtain⟨G,o⟩:∃ G,E.take a++A.drop j++E.drop tot=G:=⟨_,rfl⟩
   have s:G.length=N:=by rw[← o]; simp; omega
   have w:cpR E a (tot - a) (A.drop j)=G:=by
    have l:=Zgo (P:=E.take a) (Q:=(E.drop a).take h) (S:=E.drop tot) (xs:=A.drop j) (off:=a) (len:=tot - a) (by simp; omega) (by rw[Z]; simp; omega) (by omega)
    rw[List.append_assoc _ _ (E.drop tot),← U,List.take_append_drop,o]at l;exact l
   obtain⟨H,J⟩:∃ H,A.take i++V++A.drop j++E.drop tot=H:=⟨_,rfl⟩
   have Y:H.length=N:=by rw[← J]; simp; omega
   have y:cpR G i (tot - i) V=H:=by
    have e0:E.take a=A.take i++(E.drop i).take V.length:=by
     rw[← n,List.take_add,c]
    have l:=Zgo (P:=A.take i) (Q:=(E.drop i).take V.length) (S:=A.drop j++E.drop tot) (xs:=V) (off:=i) (len:=tot - i) B (by simp; omega) (by omega)
    rw[← e0,← List.append_assoc,o,← List.append_assoc,J]at l;exact l
   have aj:ovOk ⟨[(1,.cells 1 E),(1,.cells 1 A),(2,.cells 1 V)],51⟩ [AVal.sl 1 a (tot - a),AVal.sl 2 0 V.length]:=⟨by omega,by omega,an,Nat.zero_lt_one,Nat.zero_lt_one⟩
   simp[L,M,O,a1,a2,a3,D,a4,F,a5,a6,a7,hN,I,g,b1,b2,b4,b5,b7,b8,b9,c1,ab,d,R4,Zma,Zfn,c,p,w,s,y,aj];refine endI t ?_ z (by omega)
   have:=u (E.drop tot);rw[J]at this;exact this
end Go.Known
end
section
namespace Go.Known
open Go Go.AE Go.Proofs
open Go.Plain
attribute [local simp] Zmb Zn0 Zl4 Zlc Znc Zn2 Zlo Zl3 Znd Zm3 Zmj Zna Zlg Zl7 Zpb Zss Zlt Zmo Znh Zm5 Zp4 Zk2 Zr9
set_option maxRecDepth 100000 in
set_option maxHeartbeats 8000000 in
theorem Ygu(A:List (List AVal))(i j:Nat)(ah:i<j)(hj:j≤A.length)(hl:A.length≤100000)(X:V3 A=true) :
 Ctr Tryz.prog 109 [.sl 1 0 A.length,.int .i64 i,.int .i64 j,.nilSl] ⟨[(1,.cells 1 A)],3⟩ fun r m=>r=.sl 3 0 (i+(A.length - j))∧m=⟨[(3,.cells 1 (A.take i++A.drop j))],4⟩:=by
 refine Zo6 (b:=1) (k:=1) (els:=A) hm Zn5 Tryz.func109 Zl1 rfl rfl rfl fun K hK N hN=>?_
 have v:∀ q,Z4 q A=A:=fun q=>X1 q _ X
 have aa:∀ q,Z4 q (A.take i)=A.take i:=fun q=>by rw[J3,List.map_take,← J3,v]
 have Z:∀ q,Z4 q (A.drop j)=A.drop j:=fun q=>by rw[J3,List.map_drop,← J3,v]
 have g:=hK _ _ ⟨rfl,rfl⟩;clear hK;obtain⟨E,y⟩:∃ E,A++List.replicate (N - A.length) (List.replicate 1 AVal.bot)=E:=⟨_,rfl⟩
 have l:padS ⟨[(1,.cells 1 A)],3⟩ 1 1 A N=⟨[(1,.cells 1 E),(1,.cells 1 A)],3⟩:=by rw[← y]; rfl
 have s:E.length=N:=by rw[← y]; simp; omega
 have t:∀ j,j≤A.length→E.take j=A.take j:=fun j hj=>by rw[← y,List.take_append_of_le_length hj]
 have p:(E.drop j).take (A.length - j)=A.drop j:=by rw[← List.drop_take,t _ (Nat.le_refl _),List.take_length]
 rw[l];clear l y;have d:=t i (by omega)
 have n:∀ q,Z4 q (A.take i++A.drop j)=A.take i++A.drop j:=fun q=>by rw[Zn8,aa,Z]
 have a:(A.take i++A.drop j).length=i+(A.length - j):=by simp; omega
 obtain⟨h,c⟩:∃ h,A.length - j=h:=⟨_,rfl⟩
 obtain⟨tot,e⟩:∃ tot,i+h=tot:=⟨_,rfl⟩
 have ad:IntKind.i64.wrap ((i:Int)+(h:Int))=(tot:Int):=by rw[Z5 (by omega) (by omega)]; omega
 have ac:IntKind.i64.wrap (i:Int)=(i:Int):=Z5 (by omega) (by omega)
 have a1:i≤j:=by omega
 have a2:j≤N:=by omega
 have a3:¬(i:Int)=(j:Int):=by omega
 have o:¬i=j:=by omega
 have a5:i≤A.length:=by omega
 have a7:i≤N:=by omega
 have a8:¬N<i:=by omega
 have a9:min i N=i:=by omega
 have z:i<A.length:=by omega
 have B:(i:Int)<(A.length:Int):=by omega
 have C:i+(A.length - i)=A.length:=by omega
 have ag:i≤i+(N - i):=by omega
 rw[c,e]at g;rw[c]at p;by_cases u:j=A.length
 ·have h0:h=0:=by omega
  have h1:tot=i:=by omega
  have h2:A.drop j=[]:=List.drop_eq_nil_of_le (by omega)
  subst h1;rw[h2,List.append_nil]at g n a;have w:A.take tot++E.drop tot=E:=by rw[← d,List.take_append_drop]
  have e2:tot+(E.length - tot)=N:=by omega
  have D:¬(tot:Int)=(A.length:Int):=by omega
  have F:¬tot=A.length:=by omega
  simp[a1,a2,a3,o,a5,a7,a8,a9,z,B,C,D,F,hN,s,u,R4,Zfn,d,O6,w,e2,Zqf];have ai:(A.take tot).length=tot:=by simp; omega
  exact endI g (by rw[List.take_left]) n (by omega)
 ·have a4:¬(j:Int)=(A.length:Int):=by omega
  have b1:¬(N:Int)<(tot:Int):=by omega
  have G:¬N<tot:=by omega
  have b2:tot≤N:=by omega
  have b4:i≤tot:=by omega
  have b7:j+h=A.length:=by omega
  have b8:i+(tot - i)=tot:=by omega
  have a6:j≤A.length:=by omega
  have ab:(A.take i).length=i:=by simp; omega
  have Y:(A.drop j).length=h:=by simp; omega
  have ae:cpR E i (tot - i) []=E:=by
   unfold cpR;simp
  have M:E=A.take i++(E.drop i).take h++E.drop tot:=by
   rw[← d,← e,← List.drop_drop,List.append_assoc,List.take_append_drop,List.take_append_drop]
  obtain⟨H,O⟩:∃ H,A.take i++A.drop j++E.drop tot=H:=⟨_,rfl⟩
  have U:H.length=N:=by rw[← O]; simp; omega
  have af:cpR E i (tot - i) (A.drop j)=H:=by
   have w:=Zgo (P:=A.take i) (Q:=(E.drop i).take h) (S:=E.drop tot) (xs:=A.drop j) (off:=i) (len:=tot - i) ab (by rw[Y]; simp; omega) (by omega)
   rw[← M,O]at w;exact w
  have V:H.take tot=A.take i++A.drop j:=by
   rw[← O,List.take_append_of_le_length (by rw[a,c]; omega),List.take_of_length_le (by rw[a,c]; omega)]
  have I:tot≤A.length:=by omega
  have J:tot+(A.length - tot)=A.length:=by omega
  have L:(i:Int)≤(j:Int):=by omega
  simp[ac,ad,a1,a2,a3,o,a4,u,a5,a6,a7,hN,s,b1,G,b2,b4,b7,b8,I,J,L,c,R4,Zma,Zfn,d,p,Zqf,ae,af,U];refine endI g ?_ n (by omega)
  rw[a,c,e,V,List.take_append_of_le_length (by rw[a,c]; omega),List.take_of_length_le (by rw[a,c]; omega)]
theorem Z3m(A V:List Nat)(i j:Nat)(d:i<j)(p:j≤A.length)(l:A.length≤100000)(h:V.length≤10) :
 Ctr Tryz.prog 109 [.sl 1 0 A.length,.int .i64 i,.int .i64 j,slV 2 (Z2 V)] ⟨(1,.cells 1 (Z2 A)) :: blV 2 1 (Z2 V) [],3⟩ fun r m=>r=.sl 3 0 (A.take i++V++A.drop j).length∧m=⟨[(3,.cells 1 (Z2 (A.take i++V++A.drop j)))],4⟩:=by
 have b:(Z2 A).length=A.length:=L6 A;have a:(Z2 V).length=V.length:=L6 V;have e:Z2 (A.take i++V++A.drop j)=(Z2 A).take i++Z2 V++(Z2 A).drop j:=by simp[Z2]
 have g:(A.take i++V++A.drop j).length=i+V.length+(A.length - j):=by simp; omega
 rw[e,g];by_cases n:V=[]
 ·subst n;have:=Ygu (Z2 A) i j d (by rw[b]; exact p) (by rw[b]; exact l) (D5 _)
  rw[b]at this;simpa[slV,blV]using this
 ·have c:=Zuo n;rw[Zjh c,Ziu c];by_cases k:j=A.length
  ·have:=Z62 (Z2 A) (Z2 V) i (by rw[b]; omega) (by rw[b]; exact l) c (by rw[a]; exact h) (by simp[Z2]) (D5 _) (D5 _)
   have o:(Z2 A).drop j=[]:=List.drop_eq_nil_of_le (by rw[b]; omega)
   rw[o,List.append_nil,show A.length - j=0 by omega,Nat.add_zero,k]
   rw[b,a]at this;rw[a];exact this
  ·have:=Z3j (Z2 A) (Z2 V) i j d (by rw[b]; omega) (by rw[b]; exact l) c (by rw[a]; exact h) (D5 _) (D5 _)
   rw[b,a]at this;rw[a];exact this
end Go.Known
end
