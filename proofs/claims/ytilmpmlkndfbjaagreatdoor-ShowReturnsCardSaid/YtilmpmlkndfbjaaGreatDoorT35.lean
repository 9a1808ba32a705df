/- Part 35 -/
import Derived.Test.YtilmpmlkndfbjaaGreatDoorT34
import Derived.Shelf.SlSortCmp.NoneTotal
import Derived.Test.YtilmpmlkndfbjaaGreatDoorProg
import Derived.Deep.QuietTactic
import Derived.BigQuiet
set_option linter.all false
set_option maxRecDepth 100000
set_option maxHeartbeats 16000000
open Go.Proofs.Tryz (prog)
namespace Go.Ad
open Go Go.AE Go.Proofs Go.RowKit Go.Sort Go.Plain
def OP(p:Nat×Nat):List Value:=[.int .i64 p.1,.int .i64 p.2]
theorem EF:EP OP Bz 2 where
 pos:=by decide
 len _:=rfl
 PO _:=rfl
 one x v hv:=by simp[OP]at hv;rcases hv with rfl|rfl<;>rfl
 rel Φ ρ x j y v a b:=by
  match j,a,b with
  |0,a,b=>simp[Bz,OP]at a b;subst a;subst b;exact .int _ _
  |1,a,b=>simp[Bz,OP]at a b;subst a;subst b;exact .int _ _
  |j+2,a,b=>simp[Bz]at a
 tH Φ ρ x j y v v' a b h3:=by
  match j,a,b with
  |0,a,b=>simp[Bz,OP]at a b;subst a;subst b;exact F5 h3
  |1,a,b=>simp[Bz,OP]at a b;subst a;subst b;exact F5 h3
  |j+2,a,b=>simp[Bz]at a
theorem bU{f:Int}{ls:List Lt}(h:V3 f ls=0):0<=f/\f<=40:=by
 unfold V3 at h;split at h
 ·cases h
 split at h
 ·cases h
 omega
section
variable {p:Int} {fs:List Fg} {d:Nat}
end
def okI(f g a:Int)(ls:List Lt):Prop:=0≤g∧g≤f∧0≤a∧f<40∧a≤Bl g ls
instance (f g a:Int) (ls:List Lt):Decidable (okI f g a ls):=by unfold okI; infer_instance
def okP(f g a:Int)(ls:List Lt):Prop:=0≤g∧g≤f∧0≤a∧a≤Bl g ls
instance (f g a:Int) (ls:List Lt):Decidable (okP f g a ls):=by unfold okP; infer_instance
section
attribute [local simp] ZP bH cC bM bI dP fT ZO cS cH eN eC ZT fO bN fN bS dJ cW
def KO(els:List (List Aa))(off len:Nat)(xs:List (List Aa)):List (List Aa):=els.take off++xs.take (min xs.length len)++els.drop (off+min xs.length len)
theorem Sw{P Q S xs:List (List Aa)}{off len:Nat}(c:P.length=off)(d:Q.length=xs.length)(e:xs.length<=len):KO (P++Q++S) off len xs=P++xs++S:=by
 have a:(P++Q++S).take P.length=P:=by rw[List.append_assoc,List.take_left]
 have b:(P++Q++S).drop (P.length+xs.length)=S:=by rw[<-d,<-lA,List.drop_left]
 unfold KO;rw[Nat.min_eq_left e,<-c,a,b,List.take_length]
theorem ZV(id:Nat)(f:Ah->Aa)(get:Nat->Option Af)(k:Nat)(x y:Ah):Ak id f get (.copy k x y)=match f x,I1 get k (f y)with
 |.sl b off len,some xs=>match get b with
  |some (.cells a els)=>if a=k/\off+len<=els.length then
   some (.int .i64 (min xs.length len:Nat),[(b,some (.cells k (KO els off len xs)))])
   else none
  |_=>none
 |_,_=>none:=rfl
theorem Qr(get:Nat->Option Af)(k b off len:Nat):I1 get k (.sl b off len)=N7 get k (.sl b off len):=rfl
end
theorem Uk{get:Nat->Option Af}{S:List Nat}{b k len:Nat}{els:List (List Aa)}(c:V1 b S=true)(d:get b=some (.cells k els))(e:len<=els.length)(f:∀row,row∈els.take len -> ∀x,x∈row->X8 (A5 get S) 4 x=some x):DP get S (.sl b 0 len)=.Al (els.take len):=by
 have h:A5 get S b=some (.cells k els):=by unfold A5;rw[c];exact d
 have a:Nat.ble (0+len) els.length=true:=by rw[Nat.zero_add];exact Nat.ble_eq_true_of_le e
 unfold DP;rw[X8];simp only[h,a,cond_true,List.drop_zero,Xl f]
theorem Jh(rows:List (List Aa)):(Bg rows).one=true:=by unfold Bg;split<;>rfl
theorem Jb(rows:List (List Aa)):(Bg rows).cells=some [Bg rows]:=by unfold Bg;split<;>rfl
theorem Zyl{l:List Nat}(h:l≠[]):¬Z1 l=[]:=by simpa[Z1]using h
theorem Yii{l:List Nat}{i:Nat}(h:i<l.length):l.getD i 0=l[i]:=by rw[List.getD,gE h];rfl
theorem Sd{l:List Nat}{i:Nat}(h:i<l.length):(Z1 l)[i]?=some [.int .i64 (l.getD i 0:Nat)]:=Ip (by rw[Yii h];exact gE h)
theorem ye(d:Nat):d ^^^ 1=Av d:=by
 have a:(d ^^^ 1) / 2=d / 2:=by
  rw[Nat.xor_div_two];simp
 have b:=@Nat.xor_mod_two_eq_one d 1;unfold Av;split<;>omega
theorem mF(d:Nat)(g:d<=10000):Au prog 104 [.int .i64 d] (.int .i64 (Av d:Nat)):=by
 refine JH hm Tryz.func104 Zk rfl rfl (by simp[Y7,Aa.closed]) trivial λK b=>?_;have e:Av d<=10001:=by unfold Av;split<;>omega
 have c:W5 .xor .num (.int .i64 d) (.int .i64 1)=some (.int .i64 (Av d:Nat)):=by
  have a:(BitVec.ofInt 64 (d:Int) ^^^ BitVec.ofInt 64 1).toNat=Av d:=by
   rw[BitVec.toNat_xor,<-ye];have:(BitVec.ofInt 64 (d:Int)).toNat=d:=by
    rw[BitVec.ofInt_natCast,BitVec.toNat_ofNat,Nat.mod_eq_of_lt (by omega)]
   rw[this];rfl
  show some (Aa.int .i64 (IntKind.i64.wrap ((BitVec.ofInt 64 (d:Int) ^^^ BitVec.ofInt 64 1).toNat:Nat)))=_;rw[a,L6 (by omega) (by omega)]
 simp[c];exact Z6 b [] (by simp)
abbrev Js(ls:List Lt)(O:List Nat)(X:Aa):Af:=.cells 3 [[.Al (ls.map Ab),.Al (Z1 O),X]]
theorem Tc(ls:List Lt)(O:List Nat)(k d:Nat)(h:ls.length<=1000)(v:d<2*ls.length) :
 Bo prog 106 [.ptr 1 0 0,.int .i64 d] ⟨[(1,Js ls O (.sl 2 0 k))],3⟩ λr m=>r=.int .i64 (V2 ls.length d:Nat)/\m=⟨[(1,Js ls O (.sl 2 0 k))],3⟩:=by
 refine Ii hm Tryz.func106 Zm rfl rfl λK a=>?_;have n:(ls.map Ab).length=ls.length:=lM ..;have u:∀q,Z3 q (ls.map Ab)=ls.map Ab:=λq=>Y2 q _ (Y6 ls);have b:∀q,Z3 q (Z1 O)=Z1 O:=λq=>Z5 q _;unfold Js at *;generalize ls.map Ab=rows at *;generalize Z1 O=w at *;have p:¬((ls.length:Int)=0):=by omega
 have s:ls≠[]:=by intro e;subst e;simp at v
 have i:(d:Int).tmod 2=((d%2:Nat):Int):=rfl;have c:(d:Int).tdiv 2=((d / 2:Nat):Int):=rfl;have j:=Y0 ((d / 2:Nat):Int);have t:=W7 (((d / 2:Nat):Int)+1) ((d / 2+1:Nat):Int);have o:((d / 2+1:Nat):Int).tmod (ls.length:Int)=(((d / 2+1)%ls.length:Nat):Int):=rfl;unfold V2 at a;by_cases l:d%2=0
 ·rw[iP l]at a;generalize d / 2=g at *;simp[i,c,l,j,t,o,n,p,s,-Int.natCast_add,-Int.natCast_emod];exact Z6 a [] (by simp[u,b])
 rw[iN l]at a;generalize d / 2=g at *;generalize d%2=z at *;simp[i,c,l,j];exact Z6 a [] (by simp[u,b])
theorem Zzr(ls:List Lt)(O:List Nat)(k d:Nat)(h:ls.length<=1000)(Y:Wv ls)(N:∀v,v<ls.length->(at' ls v).k=2->O[v]?=some (BY ls v))(B:d<2*ls.length)(C:(Ay ls d).k=2) :
 Bo prog 108 [.ptr 1 0 0,.int .i64 d] ⟨[(1,Js ls O (.sl 2 0 k))],3⟩ λr m=>r=.int .i64 (CX ls d:Nat)/\m=⟨[(1,Js ls O (.sl 2 0 k))],3⟩:=by
 refine Ii hm Tryz.func108 Zxu rfl rfl λK i=>?_;have j:=Tc ls O k d h B;have c:=Lg B;have a:=A8 ls c;obtain⟨_,b⟩:=Y3 a;have p:=Ip (N _ c C);obtain⟨S,t⟩:=Y3 p;obtain⟨w1,_⟩:=Y.Cp _ c C;have w:CX ls d=Y5 ls.length (BY ls (V2 ls.length d)) ((d%2 == 0) == ((Ay ls d).o == ((Ay ls d).s == 1))):=by
  unfold CX;rw[Qk B];have:(at' ls (V2 ls.length d)).k=2:=C;rw[iP this];rfl
 rw[w]at i;have n:Ay ls d=at' ls (V2 ls.length d):=rfl;rw[n]at i;have D:(ls.map Ab).length=ls.length:=lM ..;have A:∀q,Z3 q (ls.map Ab)=ls.map Ab:=λq=>Y2 q _ (Y6 ls);have g:∀q,Z3 q (Z1 O)=Z1 O:=λq=>Z5 q _;clear C N w n;unfold Js at *;generalize ls.map Ab=rows at *;unfold Ab at a b;generalize at' ls (V2 ls.length d)=l at *;generalize U:Z1 O=Z at *;have Q:BY ls (V2 ls.length d)<ls.length:=w1;generalize BY ls (V2 ls.length d)=u at *;generalize V2 ls.length d=v at *;have F:ls≠[]:=by intro e;subst e;simp at B
 have G:(d:Int).tmod 2=((d%2:Nat):Int):=rfl;simp;refine S3 j [(1,1),(2,2)] (by simp) (by simp[A,g]) (by simp) ?_;rintro _ _ ⟨rfl,rfl⟩;have V:((d%2 == 0) == (l.o == (l.s == 1)))=(decide ((d:Int).tmod 2=0) == (l.o == decide (l.s=1))):=by
  rw[G];have T:(d%2 == 0)=decide (((d%2:Nat):Int)=0):=by rw[Bool.eq_iff_iff];simp;omega
  rw[T];rfl
 rw[V]at i;have H:=W7 (2*(u:Int)) ((2*u:Nat):Int);have I:=Y0 ((u:Int)-1);have J:=W7 ((u:Int)-1+(ls.length:Int)) ((u+ls.length-1:Nat):Int);have E:((u+ls.length-1:Nat):Int).tmod (ls.length:Int)=(((u+ls.length-1)%ls.length:Nat):Int):=rfl;have X:(u+ls.length-1)%ls.length<ls.length:=Nat.mod_lt _ (by omega);simp[a,b,D,c,p,t,S,A,g];unfold Y5 at i;cases P:(decide ((d:Int).tmod 2=0) == (l.o == decide (l.s=1)))with
 |true=>
  rw[P,iP rfl]at i;simp only[H];exact Z6 i [] (by simp[A,g])
 |false=>
  rw[P,iN (by simp)]at i;generalize (u+ls.length-1)%ls.length=z at *;generalize u+ls.length-1=y at *;have L:=W7 (2*(z:Int)) ((2*z:Nat):Int);have M:=W7 (((2*z:Nat):Int)+1) ((2*z+1:Nat):Int);generalize 2*z+1=y2 at *;generalize 2*z=y1 at *;simp only[I,J,E];simp[F,L,M];exact Z6 i [] (by simp[A,g])
theorem sH(ls:List Lt)(O front:List Nat)(i:Nat)(h:ls.length<=1000)(hw:Wv ls)(hO:∀v,v<ls.length->(at' ls v).k=2->O[v]?=some (BY ls v))(hi:i<front.length)(ao:front.length<=10000)(hf:∀d,d∈front->d<2*ls.length) :
 Bo prog 107 [.ptr 1 0 0,.int .i64 i] ⟨[(1,Js ls O (.sl 2 0 front.length)),(2,.cells 1 (Z1 front))],3⟩ λr m=>
  r=.int .i64 (1+D0 ls (Ay ls (front.getD i 0)).i front (i+1):Nat)/\m=⟨[(1,Js ls O (.sl 2 0 front.length)),(2,.cells 1 (Z1 front))],3⟩:=by
 refine Ii hm Tryz.func107 Zy3 rfl rfl λK J=>?_;have G:=λd hd=>Tc ls O front.length d h hd;have P:=λd hd H=>Zzr ls O front.length d h hw hO hd H;have D:(ls.map Ab).length=ls.length:=lM ..;have A:∀q,Z3 q (ls.map Ab)=ls.map Ab:=λq=>Y2 q _ (Y6 ls);have c:∀q,Z3 q (Z1 O)=Z1 O:=λq=>Z5 q _;have p:∀q,Z3 q (Z1 front)=Z1 front:=λq=>Z5 q _;have L:=λi (hi:i<front.length)=>Sd hi;have E:(Z1 front).length=front.length:=M6 front;have g:=λj (hj:j<front.length)=>hf _ (Kz hj);have u:=λi hi=>A8 ls (i:=i) hi;have aa:∀d,Ay ls d=at' ls (V2 ls.length d):=λ_=>rfl;unfold Js at *;generalize ls.map Ab=rows at *;unfold Ab at u;generalize Z1 O=OO at *;generalize Z1 front=FF at *;have hg:=L i hi;obtain⟨_,ah⟩:=Y3 hg;have af:=G _ (g i hi);have Z:=Lg (g i hi);have S:=u _ Z;obtain⟨_,I⟩:=Y3 S;obtain⟨id,M⟩:∃id,(Ay ls (front.getD i 0)).i=id:=⟨_,rfl⟩;rw[M]at J;rw[aa]at M;rw[M]at S I;generalize front.getD i 0=a at *;simp[hg,ah,hi,E];refine Pt af (by simp) [(1,1),(2,2)] (by simp) (by simp[EO,A,c]) (by simp) (λs=>by simp) (by simp) ?_;simp[S,I,D,Z];refine M4 (α:=Nat) (λn=>[(6,.int .i64 n),(5,.int .i64 id),(0,.ptr 1 0 0),(1,.int .i64 i)]) (λn=>⟨[(1,.cells 3 [[.Al rows,.Al OO,.sl 2 0 front.length]]),(2,.cells 1 FF)],3⟩) (λn=>front.length-(i+n))
  (λn=>1<=n/\i+n<=front.length/\n+D0 ls id front (i+n)=1+D0 ls id front (i+1)) 1 [] (by simp[A,c,p]) ⟨by omega,by omega,rfl⟩ ?_
 rintro n ⟨Dg,ad,z⟩ N hN
 try simp only at Dg ad z hN ⊢
 rw[<-z]at J;obtain⟨j,hj⟩:∃j,i+n=j:=⟨_,rfl⟩;rw[hj]at J;have T:=W7 ((i:Int)+(n:Int)) (j:Int);by_cases o:j<front.length
 ·have U:=L j o;obtain⟨_,V⟩:=Y3 U;have X:=L (j-1) (by omega);obtain⟨ak,Y⟩:=Y3 X;have an:=W7 ((j:Int)-1) ((j-1:Nat):Int);have am:=W7 ((n:Int)+1) ((n+1:Nat):Int);have hx:=g j o;have hy:=g (j-1) (by omega);have ag:=G _ hx;have ac:=P _ hx;have ae:=mF (front.getD (j-1) 0) (by omega);have B:=Lg hx;have F:=u _ B;obtain⟨_,w⟩:=Y3 F;have b:okF ls id front j=(decide ((Ay ls (front.getD j 0)).k=2)&&decide ((Ay ls (front.getD j 0)).i=id)&&decide (CX ls (front.getD j 0)=Av (front.getD (j-1) 0))):=rfl;have ab:=aa (front.getD j 0);obtain⟨ai,t⟩:j-1<front.length/\(j:Int)<(front.length:Int):=by omega
  generalize front.getD j 0=x at *;generalize front.getD (j-1) 0=y at *;generalize j-1=j1 at *;rw[ab]at b ac;generalize V2 ls.length x=v at *;generalize aq:at' ls v=l at *;have Q:okF ls id front j=false->K (.int .i64 n) ⟨[(1,.cells 3 [[.Al rows,.Al OO,.sl 2 0 front.length]]),(2,.cells 1 FF)],3⟩:=λe=>by
   rw[JP (λe2=>by rw[e]at e2;exact absurd e2.2 (by simp)),Nat.add_zero]at J;exact J
  simp[T,o,t,E,U,V];refine Pt ag (by simp) [(1,1),(2,2)] (by simp) (by simp[EO,A,c]) (by simp) (λs=>by simp) (by simp) ?_;by_cases H:l.k=2
  ·by_cases C:l.i=id
   ·have aj:=ac H;rw[decide_eq_true H,decide_eq_true C]at b;simp[F,w,D,B,H,C];refine Pt aj (by simp) [(1,1),(2,2)] (by simp) (by simp[EO,A,c]) (by simp) (λs=>by simp) (by simp) ?_;simp[T,an,X,Y,E,ai,ak];refine JQ ae ?_;by_cases ht:CX ls x=Av y
    ·rw[decide_eq_true ht]at b;simp[ht,am];refine hN (n+1) [] _ _ (by omega) ⟨by omega,by omega,?_⟩ (by simp[A,c,p]);rw[show i+(n+1)=j+1 by omega,<-z,hj,Qu o b];omega
    have al:¬((CX ls x:Nat):Int)=(Av y:Nat):=by omega
    rw[decide_eq_false ht]at b;simp[ht,al];exact Z6 (Q b) [] (by simp[A,c,p])
   rw[decide_eq_false C,Bool.and_false]at b;simp[F,w,D,B,H,C];exact Z6 (Q b) [] (by simp[A,c,p])
  rw[decide_eq_false H,Bool.false_and]at b;simp[F,w,D,B,H];exact Z6 (Q b) [] (by simp[A,c,p])
 have t:¬(j:Int)<(front.length:Int):=by omega
 rw[JP (λe=>o e.1),Nat.add_zero]at J;simp[T,o,t,E];exact Z6 J [] (by simp[A,c,p])
end Go.Ad
