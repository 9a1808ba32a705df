/- Part 14 -/
import Derived.Test.YtilmpmlkndfbjaaGreatDoorT13
set_option linter.all false
set_option maxRecDepth 100000
set_option maxHeartbeats 16000000
open Int (tdiv tmod)
open Go.Proofs.Tryz (prog)
open Go.IntKind (i64)
namespace Go.Ad
open Go Go.AE Go.Proofs Go.Plain
section
attribute [local simp] NV Ni NF NU MJ NI Np Mn Nr G4 Im E5 B7 Ih E3 Mr MN NL NR Ox Ov MF Nz NX NC MX Nc Mp Oe Mx NP Na NK Ms MH NY MW Ob MD On MY Oc Oo NO MQ Nj Oa Ol Nq Nu Nb Nf MP ME Od NA My NQ MS Mz Mw MV Nw Ns Nv Ow MA KX Of Env.get R4 Ac.at Ac.app Ac.get Z7 O7 Aa.cells Aa.one K4 H9 MR NW NN Ou NM Og MO NS Nl MB MU Om Nh Gy C3 K5 B0 H3 U9 Ai Mo Mq Oj Ot NB L8 V1 H8 I8 L3 D3 Q9 G9 Bm Cm BO CQ Dw BC V5 Aa.AM Q3 Z3 Af.AM F8 JF I1 N7 W4 W6 E7 N9 I3
abbrev Rz(f:Int)(rows:List (List Aa)):Af:=.cells 7 [[.int .i64 f,.Al rows,.Aj,.Aj,.Aj,.AF,.Aj]]
abbrev HN(f:Int)(rows:List (List Aa)):Ac:=⟨[(1,Rz f rows)],2⟩
abbrev PD(f:Int)(rows:List (List Aa)):Ac:=⟨[(2,.cells 1 [[.ptr 1 0 0]]),(1,Rz f rows)],3⟩
theorem rK(f:Int)(rows:List (List Aa))(k:∀q,Z3 q rows=rows)(l:Lt) :
 Bo prog 172 [.agg (Ab l),.ptr 2 0 0] (PD f rows) λr m=>r=.bool (!DR f l)/\m=PD f rows:=by
 refine Ii hm Tryz.func172 Zv8 rfl rfl λK u=>?_;rcases l with⟨t,p,w,v,o,lo⟩;have a:∀b m,(!DR f ⟨t,p,w,v,o,lo⟩)=b->Bm 3 [] [(0,.bool b)] (PD f rows) [(0,.bool b)] m->R9 3 K (.bool b) m:=
  λb m y h=>by subst y;exact Z6 u [] h
 clear u;by_cases i:t=1
 ·by_cases c:p<0
  ·have g:¬0<=p:=by omega
   simp[Ab,i,c];exact a _ _ (by simp[DR,i,g]) (by simp[k])
  have g:0<=p:=by omega
  by_cases e:f<p
  ·have j:¬p<=f:=by omega
   simp[Ab,i,c,e];exact a _ _ (by simp[DR,i,g,j]) (by simp[k])
  have j:p<=f:=by omega
  by_cases d:v=0
  ·by_cases n:o=0
   ·cases lo with
    |true=>
     simp[Ab,i,c,e,d,n];exact a _ _ (by simp[DR,i,g,j,d,n]) (by simp[k])
    |false=>
     simp[Ab,i,c,e,d,n];exact a _ _ (by simp[DR,i,g,j,d,n]) (by simp[k])
   simp[Ab,i,c,e,d,n];exact a _ _ (by simp[DR,i,g,j,d,n]) (by simp[k])
  simp[Ab,i,c,e,d];exact a _ _ (by simp[DR,i,g,j,d]) (by simp[k])
 by_cases c:t=2
 ·by_cases e:p=0
  ·by_cases d:w=0
   ·by_cases n:o=1
    ·simp[Ab,c,e,d,n];exact a _ _ (by simp[DR,c,e,d,n]) (by simp[k])
    by_cases s:o = -1
    ·simp[Ab,c,e,d,s];exact a _ _ (by simp[DR,c,e,d,s]) (by simp[k])
    simp[Ab,c,e,d,n,s];exact a _ _ (by simp[DR,c,e,d,n,s]) (by simp[k])
   simp[Ab,c,e,d];exact a _ _ (by simp[DR,c,e,d]) (by simp[k])
  simp[Ab,c,e];exact a _ _ (by simp[DR,c,e]) (by simp[k])
 simp[Ab,i,c];exact a _ _ (by simp[DR,i,c]) (by simp[k])
theorem rO(f:Int)(ls:List Lt)(h:ls.length<=1000) :
 Bo prog 188 [.Al (ls.map Ab),.func (.func 172) [] [.ptr 2 0 0]] (PD f (ls.map Ab)) λr m=>(∃n:Int,r=.int .i64 n/\decide (0<=n) = !ls.all (DR f))/\m=PD f (ls.map Ab):=by
 refine D2 hm Tryz.func188 qn rfl rfl λK u=>?_;have v:=H1 ls;have c:∀q,Z3 q (ls.map Ab)=ls.map Ab:=λq=>Y2 q _ (Y6 ls);have z:=λl=>rK f (ls.map Ab) c l;generalize ls.map Ab=rows at *;have d:=v.len;have j:∀(n:Int) m,decide (0<=n)=(!ls.all (DR f))->Bm 3 [] [(0,.int .i64 n)] (PD f rows) [(0,.int .i64 n)] m->R9 3 K (.int .i64 n) m:=
  λn m y h=>Z6 (u (.int .i64 n) (PD f rows) ⟨⟨n,rfl,y⟩,rfl⟩) [] h
 clear u;simp;refine M4 (α:=Nat) (λi=>[(8,.int .i64 i),(7,.int .i64 ls.length),(1,.func (.func 172) [] [.ptr 2 0 0]),(0,.Al rows)]) (λi=>⟨[(2,.cells 1 [[.ptr 1 0 0]]),(1,Rz f rows)],5⟩)
  (λi=>ls.length-i) (λi=>i<=ls.length/\(ls.take i).all (DR f)=true) 0 [] (by simp[c,d]) (by simp) ?_
 rintro i ⟨hi,a⟩ N w;by_cases b:i<ls.length
 ·have o:=v.row i b;obtain⟨B,g⟩:=gS.1 o;have t:=Y0 ((i:Int)+1);have e:ls.take (i+1)=ls.take i++[at' ls i]:=by
   rw[List.take_add_one,at',List.getD,gE b];rfl
  have p:at' ls i∈ls:=P4 b;simp[d,b,g,Ab];refine S3 (z (at' ls i)) [(1,1),(2,2)] (by simp[Ab]) (by simp[c]) (by simp) ?_;rintro r C ⟨rfl,rfl⟩;cases k:DR f (at' ls i)with
  |true=>
   simp[c,t];exact w (i+1) [] _ _ (by omega) ⟨by omega,by rw[e,List.all_append,a];simp[k]⟩ (by simp[c])
  |false=>
   have s:ls.all (DR f)=false:=by rw[List.all_eq_false];exact⟨_,p,by simp[k]⟩
   simp[c];exact j _ _ (by simp[s]) (by simp[c])
 have A:i=ls.length:=by omega
 subst A;rw[List.take_length]at a;simp[];exact j _ _ (by simp[a]) (by simp[c])
theorem rJ(f:Int)(ls:List Lt)(h:ls.length<=1000) :
 Bo prog 171 [.Al (ls.map Ab),.func (.func 172) [] [.ptr 2 0 0]] (PD f (ls.map Ab)) λr m=>r=.bool (!ls.all (DR f))/\m=PD f (ls.map Ab):=by
 refine Ii hm Tryz.func171 Zye rfl rfl λK b=>?_;have a:∀q,Z3 q (ls.map Ab)=ls.map Ab:=λq=>Y2 q _ (Y6 ls);have c:=rO f ls h;generalize ls.map Ab=rows at *;simp;refine S3 c [(1,1),(2,2)] (by simp[a]) (by simp[a]) (by simp) ?_;rintro r e ⟨⟨n,rfl,d⟩,rfl⟩;simp[a,d];exact Z6 b [] (by simp[a])
theorem qY(f:Int)(ls:List Lt)(h:ls.length<=1000) :
 Bo prog 140 [.ptr 1 0 0] (HN f (ls.map Ab)) λr m=>r=.bool (ls.all (DR f))/\m=HN f (ls.map Ab):=by
 refine Ii hm Tryz.func140 tc rfl rfl λK b=>?_;have a:∀q,Z3 q (ls.map Ab)=ls.map Ab:=λq=>Y2 q _ (Y6 ls);have c:=rJ f ls h;generalize ls.map Ab=rows at *;simp;refine S3 c [(1,1),(2,2)] (by simp[a]) (by simp[a]) (by simp) ?_;rintro r d ⟨rfl,rfl⟩;simp[a];exact Z6 b [] (by simp[a])
theorem qZ(f:Int)(ls:List Lt)(h:ls.length<=1000)(j:0<ls.length) :
 Bo prog 141 [.ptr 1 0 0] (HN f (ls.map Ab)) λr m=>r=.bool (decide ((at' ls 0).k=1)&&decide (Z0 ls%2=0))/\m=HN f (ls.map Ab):=by
 refine Ii hm Tryz.func141 Zw0 rfl rfl λK d=>?_;have e:=H1 ls;have c:∀q,Z3 q (ls.map Ab)=ls.map Ab:=λq=>Y2 q _ (Y6 ls);have g:=rL f ls h;unfold cV at g;generalize ls.map Ab=rows at *;have i:=e.len;have a:=e.row 0 j;by_cases b:(at' ls 0).k=1
 ·simp[a,Ab,b];refine T0 g ?_;simp[Qq];refine Z6 (v0:=.bool (decide ((at' ls 0).k=1)&&decide (Z0 ls%2=0))) d [] ?_;simp[c,b,Z0];exact decide_eq_decide.2 (by omega)
 simp[a,Ab,b];refine Z6 (v0:=.bool (decide ((at' ls 0).k=1)&&decide (Z0 ls%2=0))) d [] ?_;simp[c,b]
end
attribute [local simp] No JX QG JJ JW ND KY Vg G4 Im E5 B7 Ih E3 JM Ka S2 AG Env.get Y8 R4 Ak Ac.at Ac.app Ac.get Z7 Aa.cells Aa.one I4 K4 H9 S7 S6 W5 S5 Gy Ez C3 K5 GX U9 Ai Xo WE M7 FT.indep G3 B5 Je Fs Ma S9 S8 W9 CY Dy Dx
theorem c70(l:List Nat)(x p:Nat)(h:l.length<=1000)(o:l[p]?=some x)(s:∀q,q<p->l[q]? ≠ some x):Au prog 59 [.Al (Z1 l),.int .i64 x] (.int .i64 p):=by
 refine IT (by simp only[Y7,Aa.closed,B3,Bool.and_self]) trivial (Io hm Tryz.func59 tE (Nat.le_of_ble_eq_true rfl) ?_);have b:(Z1 l).length=l.length:=by simp[Z1]
 have c:∀(i y:Nat),l[i]?=some y->(Z1 l)[i]?=some [Aa.int .i64 (y:Int)]:=by
  intro i y hi;rw[Z1,gM,hi];rfl
 have u:p<l.length:=(gS.1 o).1;generalize Z1 l=rows at b c;simp[Yt,oR];refine KI (α:=Nat×Nat) (λa=>[(5,.int .i64 a.1),(1,.int .i64 x),(0,.Al rows)]) (λa=>⟨[],a.2⟩)
  (λa=>l.length-a.1) (λa=>a.1<=p) (0,3) (by simp) (by simp) ?_
 rintro⟨i,q⟩ hi;simp only at hi ⊢;have d:i<l.length:=by omega
 have j:l[i]?=some l[i]:=gE d;have r:=c i _ j;obtain⟨t,g⟩:=gS.1 r;have n:=Y0 ((i:Int)+1);generalize l[i]=y at j r g;by_cases k:i=p
 ·subst k;rw[o]at j;injection j with j
  subst j;simp[b,d,g]
 have m:¬((y:Int)=x):=by
  intro e;have:y=x:=by omega
  subst this;exact s i (by omega) j
 simp[b,d,g,m,n];exact⟨(i+1,q+100),by simp;omega,by simp;omega,by simp<;>omega⟩
def V9(x:Nat):List Nat→Nat
 | []=>0
 | y :: r=>if y=x then 0 else 1+V9 x r
theorem Li{x:Nat}:∀{l:List Nat},x∈l->l[V9 x l]?=some x /\ ∀q,q<V9 x l->l[q]? ≠ some x
 |[],h=>by simp at h
 |y::r,h=>by
  simp only[V9];by_cases a:y=x
  ·subst a;simp
  rw[iN a];have hm:x∈r:=by
   rcases mC.1 h with h|h
   ·exact absurd h.symm a
   exact h
  obtain⟨b,c⟩:=Li hm;refine⟨by rw[Nat.add_comm,List.getElem?_cons_succ];exact b,λq d=>?_⟩;cases q with
  |zero=>simp[a]
  |succ q=>rw[List.getElem?_cons_succ];exact c q (by omega)
def X4(ls:List Lt)(ax:List Nat)(d:Nat):Nat:=
 if 2*ls.length≤d then
  if d % 2=0 then Y5 ls.length (ax.getD (((d - 2*ls.length) / 2+1) % ax.length) 0) (!down ls (ax.getD (((d - 2*ls.length) / 2+1) % ax.length) 0))
  else Y5 ls.length (ax.getD ((d - 2*ls.length) / 2) 0) (down ls (ax.getD ((d - 2*ls.length) / 2) 0))
 else
  let v:=if d % 2=0 then (d / 2+1) % ls.length else d / 2
  if (at' ls v).k=2 then Y5 ls.length (V4 ls v ls.length 0) ((d % 2 == 0) == ((at' ls v).o == ((at' ls v).s == 1)))
  else if down ls v=(d % 2 == 0)then 2*ls.length+2*V9 v ax else 2*ls.length+2*((V9 v ax+ax.length - 1) % ax.length)+1
theorem zL(f:Int)(ls:List Lt)(a:List Nat)(d:Nat):Y7 [cV f ls,.Al (Z1 a),.int .i64 d]=true:=by
 show((cV f ls).closed&&(W3 (Z1 a)&&(true&&true)))=true;rw[Ln,B3];rfl
theorem rU(f:Int)(ls:List Lt)(a:List Nat)(d:Nat)(h:ls.length<=1000)(U:a.length<=1000)(P:2*ls.length<=d)(T:d<2*ls.length+2*a.length)(hm:∀v,v∈a->v<ls.length) :
 Au prog 100 [cV f ls,.Al (Z1 a),.int .i64 d] (.int .i64 (X4 ls a d:Nat)):=by
 refine IT (zL f ls a d) trivial (Io Go.Ad.hm Tryz.func100 Za (Nat.le_of_ble_eq_true rfl) ?_);have S:=H1 ls;have s:=λp m=>c68 f ls p h m;have r:=λp b m=>c67 f ls p b h m;unfold cV at *;generalize ls.map Ab=rows at *;have c:=S.len;have t:(Z1 a).length=a.length:=by simp[Z1]
 have u:∀(i y:Nat),a[i]?=some y->(Z1 a)[i]?=some [Aa.int .i64 (y:Int)]:=by
  intro i y hi;rw[Z1,gM,hi];rfl
 generalize Z1 a=Q at *;have B:=Y0 (2*(ls.length:Int));have w:2*(ls.length:Int)<=d:=by omega
 obtain⟨F,I⟩:∃F,d-2*ls.length=F:=⟨_,rfl⟩;obtain⟨j,N⟩:∃j,F / 2=j:=⟨_,rfl⟩;have C:=W7 ((d:Int)-2*(ls.length:Int)) (F:Int);have z:tdiv (F:Int) 2=(j:Int):=by rw[Zxd,N]
 have D:=Y0 (j:Int);have g:j<a.length:=by omega
 unfold X4;rw[iP P,I,N];have J:¬a=[]:=by intro e;subst e;simp at g
 by_cases m:d%2=0
 ·have n:tmod (d:Int) 2=0:=by rw[Qq,m];rfl
  obtain⟨E,H⟩:∃E,j+1=E:=⟨_,rfl⟩;have M:=W7 ((j:Int)+1) (E:Int);rw[iP m,H];obtain⟨k,l⟩:∃k,E%a.length=k:=⟨_,rfl⟩;have O:k<a.length:=by rw[<-l];exact Nat.mod_lt _ (by omega)
  have L:tmod (E:Int) (a.length:Int)=(k:Int):=by rw[Xz,l]
  rw[l];have A:a[k]?=some (a.getD k 0):=by rw[List.getD,gE O];rfl
  have K:=u _ _ A;obtain⟨G,o⟩:=gS.1 K;have q:=hm _ (List.mem_of_getElem? A);generalize a.getD k 0=v at *;simp[FJ,oR,c,t,B,w,C,z,D,n,M,L,J,O,o]
  try simp[c]
  refine⟨_,(s v (by omega)).x _ _ _,?_⟩;simp[];exact(r v _ q).x _ _ _
 have n:¬tmod (d:Int) 2=0:=by rw[Qq];omega
 rw[iN m];have A:a[j]?=some (a.getD j 0):=by rw[List.getD,gE g];rfl
 have K:=u _ _ A;obtain⟨G,o⟩:=gS.1 K;have q:=hm _ (List.mem_of_getElem? A);generalize a.getD j 0=v at *;simp[FJ,oR,c,t,B,w,C,z,D,n,g,o]
 try simp[c]
 refine⟨_,(s v (by omega)).x _ _ _,?_⟩
 try simp[c]
 exact(r v _ q).x _ _ _
theorem rV(f:Int)(ls:List Lt)(a:List Nat)(d:Nat)(h:ls.length<=1000)(ha:a.length<=1000)(HQ:¬2*ls.length<=d)(hm:∀v,v<ls.length->(at' ls v).k≠2->v∈a)(h0:0<a.length) :
 Au prog 100 [cV f ls,.Al (Z1 a),.int .i64 d] (.int .i64 (X4 ls a d:Nat)):=by
 refine IT (zL f ls a d) trivial (Io Go.Ad.hm Tryz.func100 Za (Nat.le_of_ble_eq_true rfl) ?_);have hR:=H1 ls;have ak:=λp g=>c68 f ls p h g;have Y:=λp b g=>c67 f ls p b h g;have al:=λp g=>c69 f ls p h g;have Z:=λx p g hf=>c70 a x p ha g hf;unfold cV at *;generalize ls.map Ab=rows at *;have n:=hR.len;have B:(Z1 a).length=a.length:=by simp[Z1]
 generalize Z1 a=aj at *;have F:=Y0 (2*(ls.length:Int));have C:¬(2*(ls.length:Int)<=d):=by omega
 have ae:¬ls=[]:=by intro e;subst e;simp at HQ
 obtain⟨A,aa⟩:∃A,d / 2=A:=⟨_,rfl⟩;have D:tdiv (d:Int) 2=(A:Int):=by rw[Zxd,aa]
 have G:=Y0 (A:Int);obtain⟨V,am⟩:∃V,A+1=V:=⟨_,rfl⟩;have ah:=W7 ((A:Int)+1) (V:Int);obtain⟨I,O⟩:∃I,V%ls.length=I:=⟨_,rfl⟩;have ag:tmod (V:Int) (ls.length:Int)=(I:Int):=by rw[Xz,O]
 have ab:I<ls.length:=by rw[<-O];exact Nat.mod_lt _ (by omega)
 unfold X4;rw[iN HQ,aa,am,O];simp only;have body:∀(v:Nat) (fw:Bool),v<ls.length->(d%2=0↔fw=true)->(if d%2=0 then I else A)=v->(tmod (d:Int) 2=0↔fw=true) ->
  wpS prog FJ.ntmps FJ.body (GX FJ.ntmps FJ.results λr m'=>r=Aa.int i64 ((if (at' ls v).k=2 then Y5 ls.length (V4 ls v ls.length 0) (fw == ((at' ls v).o == ((at' ls v).s == 1)))
   else if down ls v=fw then 2*ls.length+2*V9 v a else 2*ls.length+2*((V9 v a+a.length-1)%a.length)+1:Nat):Int))
   (R4 0 [Aa.agg [Aa.int i64 f,Aa.Al rows],Aa.Al aj,Aa.int i64 d] []) ⟨[],1⟩:=by
  intro v fw N M E u;have af:=hR.row v N;obtain⟨ao,c⟩:=gS.1 af;have ad:=hm v N;have K:=al v N;have J:=ak v (by omega);generalize hl:at' ls v=l at *;have L:V4 ls v ls.length 0<ls.length:=by
   have:∀k j,j+k<=ls.length->V4 ls v k j<ls.length:=by
    intro k;induction k with
    |zero=>intro j _;exact N
    |succ k ih=>
     intro j hj;simp only[V4];split
     ·omega
     exact ih (j+1) (by omega)
   exact this ls.length 0 (by omega)
  rcases l with⟨lk,lg,lr,li,ai,lo⟩;simp only at *;cases fw with
  |true=>
   have U:tmod (d:Int) 2=0:=u.2 rfl;rw[iP (M.2 rfl)]at E;subst E;by_cases t:lk=2
   ·rw[iP t];obtain⟨T,w⟩:∃T,(ai == (1:Int))=T:=⟨_,rfl⟩;cases lo<;>cases T
    all_goals
     have hs:=w;simp at hs;rw[w];simp[FJ,oR,n,B,F,C,U,D,G,ah,ag,ae,N,c,Ab,t,hs]
     try simp
     refine⟨_,K.x _ _ _,?_⟩
     try simp
     exact(Y _ _ L).x _ _ _
   rw[iN t];obtain⟨X,g2⟩:=Li (ad t);have hj:=(gS.1 X).1;have q:=Z _ _ X g2;generalize V9 I a=H at *;simp[FJ,oR,n,B,F,C,U,D,G,ah,ag,ae,N,c,Ab,t];refine T0 q ?_;simp;refine T0 J ?_;obtain⟨y,P⟩:∃y,H+a.length=y:=⟨_,rfl⟩;obtain⟨z,Q⟩:∃z,y-1=z:=⟨_,rfl⟩;obtain⟨m,i⟩:∃m,z%a.length=m:=⟨_,rfl⟩;have e1:=W7 ((H:Int)+a.length) (y:Int);have e2:=W7 ((y:Int)-1) (z:Int);have e3:tmod (z:Int) (a.length:Int)=(m:Int):=by rw[Xz,i]
   have ac:m<a.length:=by rw[<-i];exact Nat.mod_lt _ h0
   have e4:=Y0 (2*(m:Int));have e5:=Y0 (2*(ls.length:Int)+2*(m:Int));have e6:=Y0 (2*(ls.length:Int)+2*(m:Int)+1);have e7:=Y0 (2*(H:Int));have e8:=Y0 (2*(ls.length:Int)+2*(H:Int));have S:¬a=[]:=by intro e;subst e;simp at h0
   cases an:down ls I
   all_goals simp[e1,e2,e3,e4,e5,e6,e7,e8,S,P,Q,i]
  |false=>
   have U:¬tmod (d:Int) 2=0:=λe=>absurd (u.1 e) (by simp);rw[iN (λe=>absurd (M.1 e) (by simp))]at E;subst E;by_cases t:lk=2
   ·rw[iP t];obtain⟨T,w⟩:∃T,(ai == (1:Int))=T:=⟨_,rfl⟩;cases lo<;>cases T
    all_goals
     have hs:=w;simp at hs;rw[w];simp[FJ,oR,n,B,F,C,U,D,G,N,c,Ab,t,hs]
     try simp
     refine⟨_,K.x _ _ _,?_⟩
     try simp
     exact(Y _ _ L).x _ _ _
   rw[iN t];obtain⟨X,g2⟩:=Li (ad t);have hj:=(gS.1 X).1;have q:=Z _ _ X g2;generalize V9 A a=H at *;simp[FJ,oR,n,B,F,C,U,D,G,N,c,Ab,t];refine T0 q ?_;simp;refine T0 J ?_;obtain⟨y,P⟩:∃y,H+a.length=y:=⟨_,rfl⟩;obtain⟨z,Q⟩:∃z,y-1=z:=⟨_,rfl⟩;obtain⟨m,i⟩:∃m,z%a.length=m:=⟨_,rfl⟩;have e1:=W7 ((H:Int)+a.length) (y:Int);have e2:=W7 ((y:Int)-1) (z:Int);have e3:tmod (z:Int) (a.length:Int)=(m:Int):=by rw[Xz,i]
   have ac:m<a.length:=by rw[<-i];exact Nat.mod_lt _ h0
   have e4:=Y0 (2*(m:Int));have e5:=Y0 (2*(ls.length:Int)+2*(m:Int));have e6:=Y0 (2*(ls.length:Int)+2*(m:Int)+1);have e7:=Y0 (2*(H:Int));have e8:=Y0 (2*(ls.length:Int)+2*(H:Int));have S:¬a=[]:=by intro e;subst e;simp at h0
   cases an:down ls A
   all_goals simp[e1,e2,e3,e4,e5,e6,e7,e8,S,P,Q,i]
 by_cases g:d%2=0
 ·rw[iP g];have:=body I true ab (by simp[g]) (by rw[iP g]) (by rw[Qq,g];simp);have e:(d%2 == 0)=true:=by simp[g]
  rw[e];exact this
 rw[iN g];have:=body A false (by omega) (by simp[g]) (by rw[iN g]) (by rw[Qq];simp;omega);have e:(d%2 == 0)=false:=by simp[g]
 rw[e];exact this
end Go.Ad
