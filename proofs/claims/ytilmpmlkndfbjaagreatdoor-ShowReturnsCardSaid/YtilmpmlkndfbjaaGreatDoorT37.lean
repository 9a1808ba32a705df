/- Part 37 -/
import Derived.Test.YtilmpmlkndfbjaaGreatDoorT36
set_option linter.all false
set_option maxRecDepth 100000
set_option maxHeartbeats 16000000
open List (map_cons replicate map_take)
open Go.Proofs.Tryz (prog)
open Prod (snd)
namespace Go.Ad
open Go Go.AE Go.Proofs Go.Plain
section
variable {α:Type}
def DQ(g:α→Aa):Nat→List (Int×α)→List (Aa×Aa×Nat)
 | _,[]=>[]
 | j,(k,v) :: r=>(.int .i64 k,g v,j) :: DQ g (j+1) r
theorem Yjn(g:α->Aa):∀(j:Nat) (E:List (Int×α)),(DQ g j E).length=E.length
 |_,[]=>rfl
 |j,(k,v)::r=>by simp only[DQ,lC,Yjn g (j+1) r]
theorem jG{g:α->Aa}(q:Nat->Nat)(a:∀v,(g v).AM q=g v):∀(j:Nat) (E:List (Int×α)),C0 q (DQ g j E)=DQ g j E
 |_,[]=>rfl
 |j,(k,v)::r=>by
  have:=jG q a (j+1) r;simp only[C0,DQ,map_cons,Aa.AM,a]at *;rw[this]
theorem ZQ(g:α->Aa)(id:Int):∀(j:Nat) (E:List (Int×α)),D1 .int (.int .i64 id) (DQ g j E)=some (match EA id E with
 |some (p,v)=>some (p,g v,j+p)
 |none=>none)
 |_,[]=>rfl
 |j,(k,v)::r=>by
  simp only[DQ,D1,A7,if_true,EA];by_cases h:id=k
  ·subst h;simp
  have a:(id == k)=false:=by simpa using h
  simp only[a,iN h];rw[ZQ g id (j+1) r];cases EA id r with
  |none=>rfl
  |some b=>obtain ⟨p,w⟩:=b;simp only;congr 4;omega
theorem Zwu(g:α->Aa)(k:Int)(v:α):∀(j p:Nat) (E:List (Int×α)),(DQ g j E).set p (.int .i64 k,g v,j+p)=DQ g j (E.set p (k,v))
 |_,_,[]=>rfl
 |j,0,(a,b)::r=>rfl
 |j,p+1,(a,b)::r=>by
  simp only[DQ,List.set_cons_succ];have:=Zwu g k v (j+1) p r;rw[show j+1+p=j+(p+1) by omega]at this;rw[this]
theorem ue(g:α->Aa)(k:Int)(v:α):∀(j:Nat) (E:List (Int×α)),DQ g j E++[(.int .i64 k,g v,j+E.length)]=DQ g j (E++[(k,v)])
 |_,[]=>rfl
 |j,(a,b)::r=>by
  simp only[DQ,List.cons_append,lC];have:=ue g k v (j+1) r;rw[show j+1+r.length=j+(r.length+1) by omega]at this;rw[this]
theorem Yfr(g:α->Aa)(k:Int)(v:α)(p:Nat)(E:List (Int×α)):(DQ g 0 E).set p (.int .i64 k,g v,p)=DQ g 0 (E.set p (k,v)):=by
 have:=Zwu g k v 0 p E;rwa[Nat.zero_add]at this
theorem Zz6(g:α->Aa)(k:Int)(v:α)(E:List (Int×α)):DQ g 0 E++[(.int .i64 k,g v,E.length)]=DQ g 0 (E++[(k,v)]):=by
 have:=ue g k v 0 E;rwa[Nat.zero_add]at this
end
abbrev FU(v:Nat):Aa:=.int .i64 v
theorem Yge(f:Int)(ls:List Lt)(hv:AH f ls)(h0:ls≠[]) :
 Bo prog 69 [cV f ls] ⟨[],1⟩ λr m=>r=.ptr 1 0 0/\m=⟨[(1,.cells 3 [[.Al (ls.map Ab),.sl 3 0 ls.length,.sl 2 0 (Y4 ls).length]]),(2,.cells 1 (Z1 (Y4 ls))),(3,.cells 1 (Z1 (P6 ls ls.length)))],4⟩:=by
 refine Ii hm Tryz.func69 Zd rfl rfl λK hK=>?_;have h:ls.length<=400:=hv.len;have al:0<ls.length:=List.length_pos_iff.2 h0;have hw:=hv.wv h0;have a7:(ls.map Ab).length=ls.length:=lM ..;have J:∀q,Z3 q (ls.map Ab)=ls.map Ab:=λq=>Y2 q _ (Y6 ls);have n:=Z5;have P:∀q (E:List (Int×Nat)),C0 q (DQ FU 0 E)=DQ FU 0 E:=λq E=>jG q (λ_=>rfl) 0 E;have u:∀(ps:List (Nat×Nat)) q,Z3 q (ps.map Bz)=ps.map Bz:=λps q=>Y2 q _ (yc ps);have G:=λi hi=>A8 ls (i:=i) hi;have H:=λps S h2 h3=>Ydi f ls ps S h2 h3;unfold cV at *;generalize ls.map Ab=rows at *;unfold Ab at G;have bs:IntKind.i64.wrap 0=0:=by decide
 have a1:ls.length<=1048576:=by omega
 simp[a7,a1];have au:∀q,Z3 q (replicate ls.length [Aa.int .i64 0])=replicate ls.length [Aa.int .i64 0]:=λq=>by
  have:Z1 (replicate ls.length 0)=replicate ls.length [Aa.int .i64 0]:=by simp[Z1]
  rw[<-this,n]
 refine M4 (α:=Nat) (λi=>[(28,.int .i64 i),(27,.int .i64 ls.length),(26,.Al rows),(7,.bool (down ls i)),(6,Bt 5 ((EG ls i).map Bz)),(5,.map 4),(4,.ptr 3 0 0),(3,.int .i64 ls.length),(1,.ptr 1 0 0)])
  (λi=>⟨(1,.cells 2 [[.int .i64 f,.Al rows]])::(2,.cells 1 (Z1 (P6 ls i)))::(3,.cells 3 [[.Al rows,.sl 2 0 ls.length,.Aj]])::(4,.map (DQ FU 0 (FL ls i)) (FL ls i).length)::Bp 5 2 ((EG ls i).map Bz) [],6⟩)
  (λi=>ls.length-i) (λi=>i<=ls.length) 0 [(2,10),(3,12),(4,14)] (by simp[J,n,P,u,au,Yeh,down,Z0,Z4,P6,FL,DQ,Z1,C0]) (by simp) ?_
 intro i hi N hN
 try simp only at hi hN ⊢
 have Q:=Y0 ((i:Int)+1);by_cases w:i<ls.length
 ·have b:=hN (i+1);rw[Int.natCast_add,Int.natCast_one]at b;clear hN;have hr:=G i w;obtain⟨_,M⟩:=Y3 hr;have D:=nT w;have EC:=VT (ls:=ls) i;have ab:(Z1 (P6 ls i)).length=ls.length:=by rw[M6,EC]
  have ac:(EG ls i).length<=1048575:=by have:=ry (ls:=ls) i;omega
  by_cases Y:(at' ls i).k=2
  ·have hx:AO (at' ls i)=true:=by simp[AO,Y]
   have hp:As (at' ls i)=false:=by simp[As,Y]
   have e1:EG ls (i+1)=EG ls i:=Yey hp;have e2:FL ls (i+1)=Gc (FL ls i) (at' ls i).i i:=by simp only[FL,hx,if_true]
   have e3:P6 ls (i+1)=match A9 (at' ls i).i (FL ls i)with
    |some j=>((P6 ls i).set i j).set j i
    |none=>P6 ls i:=by
    rw[P6,iP hx];cases A9 (at' ls i).i (FL ls i)<;>rfl
   rw[hp]at D;simp only[bF,if_false]at D;rw[e1,e2,e3,D]at b;have o:=ZQ FU (at' ls i).i 0 (FL ls i);have bc:=(jO (ls:=ls) i).1 (at' ls i).i;generalize at' ls i=l at *;generalize hO:P6 ls i=O at *;generalize bl:FL ls i=s at *;cases hf:EA l.i s with
   |none=>
    have C:A9 l.i s=none:=by unfold A9;rw[hf];rfl
    have I:Gc s l.i i=s++[(l.i,i)]:=by unfold Gc;rw[hf]
    rw[hf]at o;simp only at o;have bb:DQ FU 0 s++[(.int .i64 l.i,.int .i64 (i:Int),s.length)]=DQ FU 0 (s++[(l.i,i)]):=Zz6 FU l.i i s;rw[C,I]at b;simp[w,hr,M,Y,o,Q];refine b [(1,1),(2,2),(3,3),(4,4),(5,5)] _ _ (by omega) (by omega) ?_;simp +contextual [J,n,P,u,bb]
   |some pj=>
    obtain⟨p,j⟩:=pj;have C:A9 l.i s=some j:=by unfold A9;rw[hf];rfl
    obtain⟨bq,_⟩:=bc j C;have a6:j<ls.length:=by omega
    have I:Gc s l.i i=s.set p (l.i,i):=by unfold Gc;rw[hf]
    rw[hf]at o;simp only[Nat.zero_add]at o;have bd:=Yfr FU l.i i p s;rw[C,I]at b;have a9:=Zip O i j;have ba:=Zip (O.set i j) j i;have ag:O.length=ls.length:=EC;have av:(DQ FU 0 s).set p (.int .i64 l.i,.int .i64 (i:Int),p)=DQ FU 0 (s.set p (l.i,i)):=bd;have am:=Sd (l:=O) (i:=i) (by omega);have az:(O.set i j).length=ls.length:=by rw[List.length_set,ag]
    have ao:=Sd (l:=O.set i j) (i:=j) (by omega);have ak:(Z1 (O.set i j)).length=ls.length:=by rw[M6,az]
    have ay:(s.set p (l.i,i)).length=s.length:=List.length_set;simp only at b;generalize O.getD i 0=a1 at *;generalize (O.set i j).getD j 0=a2 at *;generalize (O.set i j).set j i=O3 at *;generalize O.set i j=O2 at *;generalize s.set p (l.i,i)=E2 at *;obtain⟨_,an⟩:=Y3 am;obtain⟨_,aq⟩:=Y3 ao;simp[w,hr,M,Y,o,Q,ab,a6,ag,am,an,a9,ao,aq,ak,ba,av];refine b [(1,1),(2,2),(3,3),(4,4),(5,5)] _ _ (by omega) (by omega) ?_;simp +contextual [J,n,P,u,ay]
  have L:=hw.Cs i w Y;have hx:AO (at' ls i)=false:=by simp[AO,L]
  have hp:As (at' ls i)=true:=by simp[As,L]
  have e1:(EG ls (i+1)).map Bz=(EG ls i).map Bz++[[.int .i64 (i:Int),.int .i64 (Ca ls i:Nat)]]:=by rw[Yjj hp];simp[Bz]
  have e2:FL ls (i+1)=FL ls i:=by simp only[FL,hx,bF,if_false]
  have e3:P6 ls (i+1)=P6 ls i:=by simp only[P6,hx,bF,if_false]
  rw[hp]at D;simp only[if_true]at D;rw[e1,e2,e3,D]at b;have aw:=W7 (2*(i:Int)) ((2*i:Nat):Int);have I:Ca ls i=if down ls i then 2*((i+ls.length-1)%ls.length)+1 else 2*i:=by
   unfold Ca Y5;cases down ls i<;>rfl
  rw[I]at b;have B:((EG ls i).map Bz).length=(EG ls i).length:=lM ..;have Ff:=λq=>u (EG ls i) q;have F:=λq=>n q (P6 ls i);have X:=λq=>P q (FL ls i);generalize (EG ls i).map Bz=PP at *;generalize at' ls i=l at *;generalize Z1 (P6 ls i)=O at *;generalize DQ FU 0 (FL ls i)=MM at *;generalize 2*i=i2 at *;cases hd:down ls i with
  |true=>
   rw[hd]at b;simp only[if_true]at b;have bi:=Y0 ((i:Int)-1);have bj:=W7 ((i:Int)-1+(ls.length:Int)) ((i+ls.length-1:Nat):Int);have a8:((i+ls.length-1:Nat):Int).tmod (ls.length:Int)=(((i+ls.length-1)%ls.length:Nat):Int):=rfl;have br:(i+ls.length-1)%ls.length<ls.length:=Nat.mod_lt _ (by omega);generalize (i+ls.length-1)%ls.length=z at *;generalize i+ls.length-1=y at *;have bg:=W7 (2*(z:Int)) ((2*z:Nat):Int);have bh:=W7 (((2*z:Nat):Int)+1) ((2*z+1:Nat):Int);generalize 2*z+1=y2 at *;generalize 2*z=y1 at *;simp[w,hr,M,Y,L,Q,aw,bi,bj,a8,bg,bh,h0,ac,B,hd];refine b [(1,1),(2,2),(3,3),(4,4),(5,39)] _ _ (by omega) (by omega) ?_;simp +contextual [J,X,Ff,F,B]
  |false=>
   rw[hd]at b;simp only[bF,if_false]at b;simp[w,hr,M,Y,L,Q,aw,ac,B,hd];refine b [(1,1),(2,2),(3,3),(4,4),(5,29)] _ _ (by omega) (by omega) ?_;simp +contextual [J,X,Ff,F,B]
 have a5:i=ls.length:=by omega
 subst a5;clear hN G;obtain⟨bm,ax,_⟩:=AH.Cq hv.lo hv.Ea;have T:∀p,p∈EG ls ls.length->IS ls p:=λp hp=>by
  obtain⟨S,h2,_⟩:=yp hp;have hm:=P4 S;obtain⟨_,_,_,c,d,e,e1,_⟩:=(JY (by simpa[As]using h2)).1 (hv.Ea _ hm);have bp:Bl (at' ls p.1).g ls<=ls.length:=Ib;have bn:=hv.hi;exact⟨S,⟨by omega,by omega⟩,c,by omega⟩
 have ac:=ry (ls:=ls) ls.length;have aa:EG ls ls.length≠[]:=by
  have S:(0,Ca ls 0)∈EG ls ls.length:=by
   unfold EG;exact mM.2 ⟨0,List.mem_filter.2 ⟨mR.2 al,by simp[As,hv.fst]⟩,rfl⟩
  exact List.ne_nil_of_mem S
 have hs:=H _ aa T (by omega);have EW:=λd S h2=>Yir (d:=d) ax S h2;clear H T;generalize EG ls ls.length=PS at *;have U:¬PS.map Bz=[]:=by simpa using aa
 have a0:(PS.map Bz).length=PS.length:=lM ..;simp[P8 U,U0 U,a0];refine S3 hs [(2,5),(1,1)] (by simp) (by simp[J,u]) (by simp) ?_;rintro _ _ ⟨rfl,a,A,v,rfl⟩;have ah:=EW a A v;have Z:a.length=PS.length:=A.length_eq;have ai:(a.map Bz).length=a.length:=lM ..;simp[J,u,Z,ai];have aj:Y4 ls≠[]:=by rw[<-ah];simpa using λe:a=[]=>aa (List.length_eq_zero_iff.1 (by rw[<-Z,e];rfl))
 have F:=λq=>n q (P6 ls ls.length);generalize Z1 (P6 ls ls.length)=OO at *;clear hs EW A v;rw[<-Z];refine M4 (α:=Nat) (λt=>[(88,.int .i64 t),(87,.int .i64 a.length),(86,.sl 5 0 a.length),(4,.ptr 3 0 0)])
  (λt=>⟨(2,.cells 1 OO)::(3,.cells 3 [[.Al rows,.sl 2 0 ls.length,Bt 6 (Z1 ((a.take t).map snd))]])::(5,.cells 2 (a.map Bz))::Bp 6 1 (Z1 ((a.take t).map snd)) [],7⟩)
  (λt=>a.length-t) (λt=>t<=a.length) 0 [(2,2),(3,3),(5,5)] (by simp[J,u,F,Z1]) (by simp) ?_
 intro t ht N2 af
 try simp only at ht af ⊢
 have bf:=Y0 ((t:Int)+1);by_cases ae:t<a.length
 ·have hg:(a.map Bz)[t]?=some [.int .i64 (a[t].1:Nat),.int .i64 (a[t].2:Nat)]:=by rw[gM,gE ae];rfl
  obtain⟨_,a4⟩:=Y3 hg;have b:=af (t+1);have a3:Z1 ((a.take (t+1)).map snd)=Z1 ((a.take t).map snd)++[[.int .i64 (a[t].2:Nat)]]:=by
   rw[List.take_succ_eq_append_getElem ae,List.map_append,Z1,List.map_append];rfl
  rw[a3,Int.natCast_add,Int.natCast_one]at b;have a2:(Z1 ((a.take t).map snd)).length<=1048575:=by simp[Z1];omega
  have ad:=λq=>n q ((a.take t).map snd);have Ff:=λq=>u a q;generalize Z1 ((a.take t).map snd)=FF at *;generalize a[t]=p at *;generalize a.map Bz=PR at *;simp[ae,ai,hg,a4,bf,a2];refine b [(2,2),(3,3),(5,5),(6,20)] _ _ (by omega) (by omega) ?_;simp +contextual [J,Ff,F,ad]
 have be:t=a.length:=by omega
 subst be;rw[List.take_length,ah];have V:=Zyl aj;have ab:(Z1 (Y4 ls)).length=(Y4 ls).length:=M6 _;have ad:=λq=>n q (Y4 ls);generalize Z1 (Y4 ls)=FF at *;simp[P8 V,U0 V,ab];exact Z6 hK [(1,3),(2,6),(3,2)] (by simp[J,F,ad])
theorem Z8j(f:Int)(ls:List Lt)(h:AH f ls)(g:ls≠[]) :
 Bo prog 69 [cV f ls] ⟨[],1⟩ λr m=>r=.ptr 1 0 0/\m=⟨[(1,Js ls (P6 ls ls.length) (.sl 2 0 (Y4 ls).length)),(2,.cells 1 (Z1 (Y4 ls)))],4⟩:=by
 refine(Yge f ls h g).PI λr i=>?_;rintro⟨rfl,rfl⟩;refine⟨[3],rfl,?_⟩;have a:DP (Ac.get ⟨[(1,.cells 3 [[.Al (ls.map Ab),.sl 3 0 ls.length,.sl 2 0 (Y4 ls).length]]),(2,.cells 1 (Z1 (Y4 ls))),(3,.cells 1 (Z1 (P6 ls ls.length)))],4⟩) [3] (.sl 3 0 ls.length)=.Al (Z1 (P6 ls ls.length)):=
  WS (k:=1) rfl rfl (by rw[M6,VT]) (XF _)
 have b:∀get:Nat->Option Af,DP get [3] (.sl 2 0 (Y4 ls).length)=.sl 2 0 (Y4 ls).length:=λget=>rfl;have c:∀get:Nat->Option Af,DP get [3] (.Al (ls.map Ab))=.Al (ls.map Ab):=λget=>y6 (by simp[Aa.closed,Y6]);have d:∀get:Nat->Option Af,C5 get [3] (Z1 (Y4 ls))=Z1 (Y4 ls):=λget=>mU (B3 _);have e:∀x y z:Af,N9 [3] [(1,x),(2,y),(3,z)]=[(1,x),(2,y)]:=λx y z=>by simp[N9,V1]
 simp only[e,Iv,Tt,d];simp only[C5,map_cons,List.map_nil,a,b,c]
theorem Ybx(b:Nat)(c:b=1):Bo prog 70 [.ptr b 0 0] ⟨[],2⟩ λr m=>r=.func (.func 103) [] [.ptr 2 0 0]/\m=⟨[(2,.cells 1 [[.ptr b 0 0]])],3⟩:=by
 subst c;refine Ii hm Tryz.func70 Ze rfl rfl λK a=>?_;simp;exact Z6 a [] (by simp)
theorem Yb7{P:Program}{f:FuncId}{args:List Aa}{m:Ac}{K K':Aa->Ac->Prop}(h:Bo P f args m K)(s:∀r a,K r a -> ∃mt,Trim mt a/\K' r mt):Bo P f args m K':=by
 refine⟨h.1,λW Φ ρ vs w v p j=>(h.2 W Φ ρ vs w v p j).mono λe w' q=>?_⟩;obtain⟨u,r,y,i,ρ',k,l,c,d,o,t,a,rfl,n⟩:=q;obtain⟨mt,g,b⟩:=s r a n;exact⟨u,r,mt.mem,i,ρ',k,l,c,g.rel d,o,by show m.mem.next<=mt.next;rw[<-g.1];exact t,mt,rfl,b⟩
theorem Yjk(k:Nat)(els a:List (List Aa))(n:Nat):Trim ⟨[(1,.cells k els)],n⟩ ⟨[(1,.cells k (els++a))],n⟩:=by
 refine⟨rfl,λb x c=>?_⟩;simp only[Ac.get,Z7]at c ⊢;split at c
 ·rename_i d;injection c with c
  subst c;exact .inr ⟨k,els,a,rfl,by rw[iP d]⟩
 cases c
theorem Ydp(rows:List (List Aa))(i:Nat)(hi:i+2<=rows.length)(P:rows.length<=100000)(J:W3 rows=true) :
 Bo prog 105 [.sl 1 0 rows.length,.int .i64 i,.int .i64 ((i+2:Nat):Int)] ⟨[(1,.cells 1 rows)],2⟩ λv m=>
  v=.sl 1 0 (rows.length-2)/\m=⟨[(1,.cells 1 (rows.take i++rows.drop (i+2)))],2⟩:=by
 refine Yb7 (K:=λv m=>v=.sl 1 0 (rows.length-2)/\m=⟨[(1,.cells 1 ((rows.take i++rows.drop (i+2))++replicate 2 [.int .i64 0]))],2⟩) ?_ λr Q b=>by
  obtain⟨rfl,rfl⟩:=b;exact⟨_,Yjk 1 _ _ 2,rfl,rfl⟩
 refine D2 hm Tryz.func105 Zl rfl rfl λK t=>?_;have a:=t _ _ ⟨rfl,rfl⟩;clear t;have u:∀q,Z3 q rows=rows:=λq=>Y2 q _ J;obtain⟨j,N⟩:∃j,i+2=j:=⟨_,rfl⟩;obtain⟨y,z,A,c,s,B⟩:i<=j/\j<=rows.length/\¬(i:Int)=(j:Int)/\¬i=j/\¬rows.length=0/\i<=rows.length:=by omega
 have D:¬rows=[]:=λe=>s (by rw[e];rfl);obtain⟨I,L,C,M,b⟩:min (rows.length-j) (rows.length-j)=rows.length-j/\i+(rows.length-j)=rows.length-2/\i+(rows.length-j)<=rows.length/\rows.length-2<=rows.length/\rows.length-(rows.length-2)=2:=by omega
 have h:(rows.drop j).take (rows.length-j)=rows.drop j:=tL (by simp);have O:(rows.take i++rows.drop j).length=rows.length-2:=by simp;omega
 rw[N]at a ⊢;simp[I,L,M,b,h,L5,y,z,A,c,s,B,C,D,W4];have E:rows.take i++(rows.drop j++rows.drop (rows.length-2))=(rows.take i++rows.drop j)++rows.drop (rows.length-2):=by rw[List.append_assoc]
 have d:(rows.take i++(rows.drop j++rows.drop (rows.length-2))).take (rows.length-2)=rows.take i++rows.drop j:=by
  rw[E,List.take_append_of_le_length (by omega),tL (by omega)]
 have g:(rows.take i++(rows.drop j++rows.drop (rows.length-2))).drop rows.length=[]:=List.drop_eq_nil_of_le (by simp;omega);have G:(rows.take i++(rows.drop j++rows.drop (rows.length-2))).length=rows.length:=by simp;omega
 generalize H:rows.take i++(rows.drop j++rows.drop (rows.length-2))=F at *;obtain⟨w,k,l,n⟩:rows.length-2+2=rows.length/\rows.length<=i+(rows.length-j+2)+2/\rows.length<=i+(rows.length-j+2)/\rows.length<=F.length:=by omega
 simp[k,l,n,b,d,g,w];have o:∀q,Z3 q (rows.take i)=rows.take i:=λq=>by rw[J1,map_take,<-J1,u]
 have p:∀q,Z3 q (rows.drop j)=rows.drop j:=λq=>by rw[J1,List.map_drop,<-J1,u]
 exact Z6 a [] (by simp[o,p])
attribute [local simp] ZP bH cC bM bI dP fT ZO cS cH eN eC ZT fO oF mL bN fN bS dJ pY cW mK
theorem Yh9(els a:List (List Aa))(n:Nat)(t:List (Nat×Af)):Trim ⟨[(1,.cells 1 els)],n⟩ ⟨(1,.cells 1 (els++a))::t,n⟩:=by
 refine⟨rfl,λb x c=>?_⟩;simp only[Ac.get,Z7]at c ⊢;split at c
 ·rename_i d;injection c with c
  subst c;exact .inr ⟨1,els,a,rfl,by rw[iP d]⟩
 cases c
theorem Kg{K:Aa->Ac->Prop}{k n:Nat}{els F:List (List Aa)}{t:List (Nat×Af)}(b:K (.sl 3 0 k) ⟨[(3,.cells 1 els)],4⟩)(a:F.take els.length=els)(d:∀q,Z3 q els=els)(c:3<=n):Jw 3 K (.sl 1 0 k) ⟨(1,.cells 1 F)::t,n⟩:=by
 have e:F=els++F.drop els.length:=by conv=>lhs;rw[<-List.take_append_drop els.length F,a]
 rw[e];exact⟨_,Yh9 els _ n t,Z6 b [(3,1)] (by simp[d,c])⟩
theorem Z7p(A V:List (List Aa))(i:Nat)(hi:i<A.length)(hl:A.length<=100000)(hV:V≠[])(aa:V.length<=10)(Gk:(V.all λx=>x.length == 1)=true)(S:W3 A=true)(wJ:W3 V=true) :
 Bo prog 109 [.sl 1 0 A.length,.int .i64 i,.int .i64 A.length,.sl 2 0 V.length] ⟨[(1,.cells 1 A),(2,.cells 1 V)],3⟩ λr m=>r=.sl 3 0 (i+V.length)/\m=⟨[(3,.cells 1 (A.take i++V))],4⟩:=by
 refine lY (b:=1) (k:=1) (els:=A) hm dX Tryz.func109 fC rfl rfl rfl λK Q N M=>?_;have O:∀q,Z3 q A=A:=λq=>Y2 q _ S;have v:∀q,Z3 q V=V:=λq=>Y2 q _ wJ;have u:∀q,Z3 q (A.take i)=A.take i:=λq=>by rw[J1,map_take,<-J1,O]
 have l:=Q _ _ ⟨rfl,rfl⟩;clear Q;obtain⟨E,z⟩:∃E,A++replicate (N-A.length) (replicate 1 Aa.bot)=E:=⟨_,rfl⟩;have e:HA ⟨[(1,.cells 1 A),(2,.cells 1 V)],3⟩ 1 1 A N=⟨[(1,.cells 1 E),(1,.cells 1 A),(2,.cells 1 V)],3⟩:=by rw[<-z];rfl
 have h:E.length=N:=by rw[<-z];simp;omega
 have J:∀j,j<=A.length->E.take j=A.take j:=λj X=>by rw[<-z,List.take_append_of_le_length X]
 rw[e];clear e z;obtain⟨y,B,C,g,D,G⟩:i<=A.length/\i<=N/\¬i=A.length/\¬(i:Int)=(A.length:Int)/\¬N<i/\i+V.length<=1048576:=by omega
 have H:min i N=i:=by omega
 have a:=J i y;by_cases c:N<i+V.length
 ·obtain⟨n,I⟩:¬i+V.length<A.length/\¬(i:Int)+(V.length:Int)<(A.length:Int):=by omega
  simp[y,B,C,g,D,G,H,n,I,M,h,c,N7,Qr,a];refine⟨_,Trim.refl _,?_⟩;exact Z6 l [(3,19)] (by simp[u,v])
 have P:i+V.length<=N:=by omega
 obtain⟨F,L⟩:∃F,E.take i++V++E.drop (i+V.length)=F:=⟨_,rfl⟩;have p:F.length=N:=by rw[<-L];simp;omega
 have s:F.take (i+V.length)=A.take i++V:=by
  rw[<-L,a,List.take_append_of_le_length (by simp;omega),tL (by simp;omega)]
 have o:A.take i++(V++E.drop (i+V.length))=F:=by rw[<-L,a,List.append_assoc]
 have t:∀q,Z3 q (A.take i++V)=A.take i++V:=λq=>by rw[cA,u,v]
 have d:(A.take i++V).length=i+V.length:=by simp;omega
 obtain⟨Z,Y⟩:((i:Int)+(V.length:Int)).toNat=i+V.length/\(0:Int)<=(i:Int)+(V.length:Int):=by omega
 by_cases w:i+V.length<A.length
 ·obtain⟨n,T,U⟩:(i:Int)+(V.length:Int)<(A.length:Int)/\i+V.length<=A.length/\i+V.length+(A.length-(i+V.length))=A.length:=by omega
  simp[y,B,C,g,D,G,H,w,n,M,h,c,N7,Qr,a,P,o,p,W4,Z,Y,T,U];exact Kg l (by rw[d,s];rw[List.take_append_of_le_length (by simp;omega),tL (by simp;omega)]) t (by omega)
 have n:¬(i:Int)+(V.length:Int)<(A.length:Int):=by omega
 simp[y,B,C,g,D,G,H,w,n,M,h,c,N7,Qr,a,P,o,p,W4];exact Kg l (by rw[d,s]) t (by omega)
end Go.Ad
