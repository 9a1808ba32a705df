/- Part 53 -/
import Derived.Test.YtilmpmlkndfbjaaGreatDoorT52
set_option linter.all false
set_option maxRecDepth 100000
set_option maxHeartbeats 16000000
open List (map_cons range map_map)
open Prod (fst snd)
namespace Go.Ad
open Go.Plain Go Go.AE Go.Proofs Go.ChangeShapes Go.WideShapes Go.RowKit Go.Deep
theorem jV{g:Nat×Nat->Nat}:∀{P:List (Nat×Nat)},(P.map g).Nodup -> ∀p q,p∈P->q∈P->g p=g q->p=q
 |[],_,p,_,b,_,_=>by cases b
 |a::P,h,p,q,b,f,e=>by
  rw[map_cons,List.nodup_cons]at h;rcases mC.1 b with i|c
  ·grind
  rcases mC.1 f with j|d
  ·grind
  exact jV h.2 p q c d e
section
variable {f:Int} {x:List Lt} (hv:AH f x) (h0:x≠[]) {L:List (Nat×Nat)} {X:List Nd} {P:List (Nat×Nat)} (hM:Mt x (Z0 x) L X P) (hR:Jy (Z0 x) X L)
include hv h0 hM hR
omit hv h0 hR in
theorem Mt.fE{d a e:Nat}(b:(d,e)∈P)(c:(a,e)∈P):d=a:=congrArg fst (jV (g:=snd) hM.en _ _ b c rfl)
omit hv h0 hR in
theorem Mt.fD{d e e':Nat}(a:(d,e)∈P)(b:(d,e')∈P):e=e':=congrArg snd (jV (g:=fst) hM.nd _ _ a b rfl)
omit hv h0 in
theorem Mt.part{d e:Nat}(h:(d,e)∈P):(Av d,Eb L e)∈P:=by
 obtain⟨p,c,f⟩:=BA.1 ((hR.en e).1 (hM.eb _ h));obtain⟨g,i⟩:=lI hR.nd c;obtain⟨j,a,b⟩:=hM.jn p c;rcases f with rfl|rfl
 ·rw[g,hM.fE h a];exact b
 rw[i,hM.fE h b,K3];exact a
omit hR in
theorem Mt.IK{v:Nat}{b:Bool}{e:Nat}(a:v<x.length)(h:(Y5 x.length v b,e)∈P):(Y5 x.length v (!b),Ec (Z0 x) e)∈P:=by
 have C:=hv.wv h0;have k:=hM.eb _ h;by_cases t:e<2*Z0 x
 ·rw[aH t];obtain⟨p1,g⟩:=hM.ps (e / 2) (by omega);obtain⟨w,w1,w2,D,F⟩:=IV (ls:=x) (p:=e / 2) (by omega);rw[D]at p1 g;rcases Nat.mod_two_eq_zero_or_one e with c|c
  ·rw[show 2*(e / 2)=e by omega]at p1 g;obtain⟨d,f⟩:=J4 a w1 (hM.fE h p1);have eb:Av e=e+1:=by unfold Av;rw[iP c]
   rw[eb,d,f,Bool.not_not];exact g
  rw[show 2*(e / 2)+1=e by omega]at g;obtain⟨d,f⟩:=J4 a w1 (hM.fE h g);have eb:Av e=2*(e / 2):=by unfold Av;grind
  rw[eb,d,f];exact p1
 obtain⟨j,q,A,B,rfl⟩:=kF (m:=Z0 x) (X:=X) t k;rw[Wf B];obtain⟨w,c,w1,w2,_,y,z,o,r⟩:=hM.cr j A;obtain⟨u,E,_⟩:=C.Cp w w1 w2;have n:q=0\/q=1\/q=2\/q=3:=by omega
 rcases n with rfl|rfl|rfl|rfl
 ·obtain⟨d,f⟩:=J4 a w1 (hM.fE h y);simp_all
 ·obtain⟨d,f⟩:=J4 a u (hM.fE h o);rw[d,f];have i:∀s l:Bool,(!(s != l))=(s == l):=λs l=>by grind
  rw[i];exact r
 ·obtain⟨d,f⟩:=J4 a w1 (hM.fE h z);grind
 obtain⟨d,f⟩:=J4 a u (hM.fE h r);rw[d,f];have i:∀s l:Bool,(!(s == l))=(s != l):=λs l=>by grind
 rw[i];exact o
variable (ax:(Z2 x).getD 0 0=0)
include ax
theorem Mt.walk:∀t,t<x.length->(Y5 x.length t false,AK (Z0 x) L t)∈P
 |0,_=>by
  have a:=(hM.ps 0 (hv.wv h0).Eo).1;rw[ax]at a;have:Ca x 0=Y5 x.length 0 false:=by rfl
  rw[this]at a;exact a
 |t+1,d=>by
  have f:=Mt.walk t (by omega);have a:=hM.IK hv h0 (by omega) f;have b:=hM.part hR a;obtain⟨c,_⟩:=qj d;have e:Av (Y5 x.length t (!false))=Y5 x.length (t+1) false:=by
   rw[c];show Av (2*t)=_;exact eR t
  rw[e]at b;exact b
theorem Mt.yE:x.length=Z0 x+2*X.length/\FI (Z0 x) X L:=by
 have f:0<x.length:=by grind
 have g:=hM.walk hv h0 hR ax;have m:AK (Z0 x) L x.length=0:=by
  have j:=hM.IK hv h0 (by omega) (g (x.length-1) (by omega));have h:=hM.part hR j;have e:Av (Y5 x.length (x.length-1) (!false))=Y5 x.length 0 false:=by
   show Av (2*(x.length-1))=_;rw[eR];unfold Y5;simp
  rw[e]at h;have q:=hM.fD h (g 0 f);have o:AK (Z0 x) L x.length=Eb L (Ec (Z0 x) (AK (Z0 x) L (x.length-1))):=by
   obtain⟨k,s⟩:∃k,x.length=k+1:=⟨x.length-1,by omega⟩;rw[s];rfl
  rw[o];exact q
 have i:∀t,0<t->t<x.length->AK (Z0 x) L t≠0:=λt j h e=>by
  have a:=g t h;rw[e]at a;have b:=g 0 f;have:=(J4 h f (hM.fE a b)).1;omega
 have u:P.length<=2*x.length:=by
  have:=List.Nodup.length_le_of_subset (l₁:=P.map fst) (l₂:=range (2*x.length)) hM.nd λd l=>by
   obtain⟨p,v,rfl⟩:=mM.1 l;exact mR.2 (hM.lt p v)
  simpa using this
 have r:2*x.length<=P.length:=by
  have:=List.Nodup.length_le_of_subset (l₁:=range (2*x.length)) (l₂:=P.map fst) List.nodup_range λd l=>by
   have l:=mR.1 l;have j:=hM.IK hv h0 (by omega) (g (d / 2) (by omega));have j:(2*(d / 2),Ec (Z0 x) (AK (Z0 x) L (d / 2)))∈P:=j;rcases Nat.mod_two_eq_zero_or_one d with c|c
   ·grind
   have h:=hM.part hR j;rw[eR,show 2*(d / 2)+1=d by omega]at h;grind
  simpa using this
 have w:=hM.cn;have n:x.length=Z0 x+2*X.length:=by omega
 exact⟨n,by grind,λt j h=>i t j (by rw[n];exact h)⟩
theorem Mt.ar{v e:Nat}{c:Bool}(a:v<x.length)(h:(Y5 x.length v c,e)∈P):e∈CV (Z0 x) X L↔c=false:=by
 obtain⟨f,_⟩:=hM.yE hv h0 hR ax;have b:=hM.walk hv h0 hR ax;unfold CV;rw[mM,<-f];constructor
 ·rintro⟨t,d,rfl⟩;have d:=mR.1 d;exact(J4 a d (hM.fE h (b t d))).2
 rintro rfl;exact⟨v,mR.2 a,hM.fD (b v a) h⟩
variable {F:Nat} {gs:List Nat} (hf:f=(F:Nat)) (DT:gs.length=F+1) (hg:∀ i c,gs[i]? = some c→Bl ((i:Nat):Int) x=c) (hF:F≤40) (hlen:x.length≤400) (hX:X.length≤100)
include hf DT hg hF hlen hX
theorem Mt.same(Z:(AN 0 gs).length=Z0 x):De true (X9 (Z0 x) (AN 0 gs) X L) x:=by
 obtain⟨hn,hw⟩:=hM.yE hv h0 hR ax;have aj:=hM.walk hv h0 hR ax;have av:=Po hR hw Z;have E:=oK hR hw Z DT;rw[<-hf]at E;have az:=Zws hR hw Z DT;have wx:=hv.wv h0;obtain⟨y,hy⟩:∃y,y=X9 (Z0 x) (AN 0 gs) X L:=⟨_,rfl⟩;have T:∀t,t<x.length->at' y t=Fl (Z0 x) (AN 0 gs) X (CV (Z0 x) X L) (AK (Z0 x) L t):=λt u=>by rw[hy];exact WN hR hw Z (by omega)
 have ae:∀g,Bl g x=Bl g y:=λg=>by
  by_cases ba:0<=g/\g<=f
  ·obtain⟨i,rfl⟩:∃i:Nat,g=(i:Nat):=⟨g.toNat,by omega⟩;have af:i<gs.length:=by omega
   have h1:=hg i gs[i] (gE af);have h2:=nQ gs 0 i gs[i] (gE af);rw[Nat.zero_add]at h2;rw[h1,hy];unfold Bl;rw[SA hR hw Z,VQ (λl hl=>by simp[As,hl]),Nat.add_zero];exact h2.symm
  have z:∀ls:List Lt,(∀l,l∈ls->BQ f ls l=true)->Bl g ls=0:=λls h=>by
   unfold Bl Z4;rw[List.length_eq_zero_iff,List.filter_eq_nil_iff];intro l hl;simp only[bA,beq_iff_eq,not_and];intro hp e;have h1:=eU h l hl hp;have h2:=zP h l hl hp;omega
  rw[z x hv.Ea,z y (by rw[hy];exact E)]
 have I:∀t,t<x.length->AK (Z0 x) L t<2*Z0 x->(at' x t).k=1/\V9 t (Z2 x)=AK (Z0 x) L t / 2:=λt u G=>by
  obtain⟨p1,p2⟩:=hM.ps (AK (Z0 x) L t / 2) (by omega);obtain⟨w,w1,w2,w3,w4⟩:=IV (ls:=x) (p:=AK (Z0 x) L t / 2) (by omega);rw[w3]at p1 p2;have A:=aj t u;have:t=w:=by
   rcases Nat.mod_two_eq_zero_or_one (AK (Z0 x) L t)with c|c
   ·rw[show 2*(AK (Z0 x) L t / 2)=AK (Z0 x) L t by omega]at p1;exact(J4 u w1 (hM.fE A p1)).1
   rw[show 2*(AK (Z0 x) L t / 2)+1=AK (Z0 x) L t by omega]at p2;exact(J4 u w1 (hM.fE A p2)).1
  grind
 have n:∀t,t<x.length -> ¬AK (Z0 x) L t<2*Z0 x -> ∃j,j<X.length/\(AK (Z0 x) L t-2*Z0 x) / 4=j/\(at' x t).k=2/\(at' y t).k=2/\(at' y t).g=0/\(at' y t).r=0/\(at' y t).i=((j+1:Nat):Int)/\(at' y t).s=(at' x t).s/\(at' y t).o=(at' x t).o /\
  ∃v,v<x.length/\(at' x v).k=2/\(t=v\/t=BY x v)/\(2*Z0 x+4*j)∈P.map snd /\ ∀d,(d,2*Z0 x+4*j)∈P -> ∃b,d=Y5 x.length v b:=λt u G=>by
  obtain⟨j,q,hj,hq,he⟩:=kF (m:=Z0 x) (X:=X) G (Lm hR t);obtain⟨U,au⟩:(AK (Z0 x) L t-2*Z0 x) / 4=j/\(AK (Z0 x) L t-2*Z0 x)%4=q:=by omega
  obtain⟨v,b,v1,Y,v3,J,c2,c1,c3⟩:=hM.cr j hj;obtain⟨u1,u2,u3,u4,u5⟩:=wx.Cp v v1 Y;have A:=aj t u;rw[he]at A;obtain⟨⟨ov,F⟩,ad⟩:∃z,z=X.getD j (false,false):=⟨_,rfl⟩;rw[<-ad]at v3 c1 c3;simp only at v3 c1 c3;have hA:Fl (Z0 x) (AN 0 gs) X (CV (Z0 x) X L) (AK (Z0 x) L t)=⟨2,0,0,((j+1:Nat):Int),Hj (GJ (Z0 x) (CV (Z0 x) X L) j) (GK (Z0 x) (CV (Z0 x) X L) j) ov,(ov == (q%2 == 0)) != F⟩:=by
   unfold Fl;rw[iN G,U,au,<-ad]
  have k0:=hM.ar hv h0 hR ax v1 J;have k1:=hM.ar hv h0 hR ax u1 c1;have hs:Hj (GJ (Z0 x) (CV (Z0 x) X L) j) (GK (Z0 x) (CV (Z0 x) X L) j) ov=(at' x v).s:=by
   have e0:GJ (Z0 x) (CV (Z0 x) X L) j=if b then 0 else 2:=by
    unfold GJ;grind
   have e1:GK (Z0 x) (CV (Z0 x) X L) j=if ((b == Cw x v) != F)=false then 1 else 3:=by
    unfold GK;grind
   have aw:=((Ik Y).1 (hv.Ea _ (P4 v1))).2.2.1;have O:Cw x v=((ov != F) == ((at' x v).s == 1)):=by unfold Cw;rw[v3]
   rw[e0,e1];rcases aw with e|e
   ·rw[e]at O ⊢;have:Cw x v=(ov != F):=by rw[O];simp
    rw[this];unfold Hj;grind
   rw[e]at O ⊢;have:Cw x v = !(ov != F):=by
    rw[O];cases ov<;>cases F<;>rfl
   rw[this];unfold Hj;grind
  have ah:(q%2=0->t=v)/\(q%2=1->t=BY x v):=by
   have aq:q=0\/q=1\/q=2\/q=3:=by omega
   rcases aq with rfl|rfl|rfl|rfl
   ·exact⟨λ_=>(J4 u v1 (hM.fE A J)).1,λh=>by omega⟩
   ·exact⟨λh=>by omega,λ_=>(J4 u u1 (hM.fE A c1)).1⟩
   ·exact⟨λ_=>(J4 u v1 (hM.fE A c2)).1,λh=>by omega⟩
   exact⟨λh=>by omega,λ_=>(J4 u u1 (hM.fE A c3)).1⟩
  have H:(2*Z0 x+4*j)∈P.map snd /\ ∀d,(d,2*Z0 x+4*j)∈P -> ∃b,d=Y5 x.length v b:=⟨mM.2 ⟨_,J,rfl⟩,λd hd=>⟨_,hM.fE hd J⟩⟩;rw[T t u,hA];rcases Nat.mod_two_eq_zero_or_one q with c|c
  ·have D:=ah.1 c;refine⟨j,hj,U,by rw[D];exact Y,rfl,rfl,rfl,rfl,by rw[D];exact hs,?_,v,v1,Y,.inl D,H⟩;simp_all
  have D:=ah.2 c;have e4:(at' x (BY x v)).o = !(at' x v).o:=u4;have e5:(at' x (BY x v)).s=(at' x v).s:=u5;refine⟨j,hj,U,by rw[D];exact u2,rfl,rfl,rfl,rfl,by rw[D,e5];exact hs,?_,v,v1,Y,.inr D,H⟩;simp_all
 have bb:∀p q,p<x.length->q<x.length->(at' y p).k=2->(at' y q).k=2->((at' y p).i=(at' y q).i↔(at' x p).i=(at' x q).i):=λp q hp hq kp kq=>by
  have np:∀t,t<x.length->(at' y t).k=2 -> ¬AK (Z0 x) L t<2*Z0 x:=λt u hk c=>by
   rw[T t u]at hk;unfold Fl at hk;rw[iP c]at hk;cases hk
  obtain⟨j,hj,_,_,_,_,_,i1,_,_,v,v1,Y,v3,v4,v5⟩:=n p hp (np p hp kp);obtain⟨j',am,_,_,_,_,_,a2,_,_,v',V,a3,a4,bg,ak⟩:=n q hq (np q hq kq);have xi:∀t w,w<x.length->(at' x w).k=2->(t=w\/t=BY x w)->(at' x t).i=(at' x w).i:=λt w w1 w2 w3=>by
   rcases w3 with rfl|rfl
   ·rfl
   exact(hv.CK w1 w2).2
  rw[i1,a2,xi p v v1 Y v3,xi q v' V a3 a4];constructor
  ·intro e;have:j=j':=by omega
   subst this;obtain⟨z,hz,he⟩:=mM.1 v4;obtain⟨d,Q⟩:=z;have he:Q=_:=he;subst he;obtain⟨b,hb⟩:=v5 d hz;obtain⟨b',M⟩:=ak d hz;rw[hb]at M;rw[(J4 v1 V M).1]
  intro e;obtain⟨w,c,w1,w2,_,J,c2,c1,c3⟩:=hM.cr j hj;obtain⟨w',c',al,a5,_,K,a7,aa,ab⟩:=hM.cr j' am;obtain⟨b,hb⟩:=v5 _ J;obtain⟨b',M⟩:=ak _ K;have ay:=(J4 w1 v1 hb).1;have ai:=(J4 al V M).1;subst ay;subst ai;have key:∃ee ac,ee<4/\ac<4/\2*Z0 x+4*j+ee=2*Z0 x+4*j'+ac:=by
   rcases hv.uniq al a5 w1 w2 e with Q|Q
   ·subst Q;by_cases CC:c=c'
    ·subst CC;exact⟨0,0,by omega,by omega,hM.fD J K⟩
    have:c' = !c:=by revert CC;cases c<;>cases c'<;>simp
    rw[this,Bool.not_not]at K;exact⟨2,0,by omega,by omega,hM.fD c2 K⟩
   have Q:w=BY x w':=Q;by_cases CC:(!c)=((c' == Cw x w') != (X.getD j' (false,false)).2)
   ·rw[<-CC,<-Q]at aa;exact⟨0,1,by omega,by omega,hM.fD J aa⟩
   have e3:(!c)=((c' == Cw x w') == (X.getD j' (false,false)).2):=by
    revert CC;cases c<;>cases (c' == Cw x w')<;>cases (X.getD j' (false,false)).2<;>simp
   rw[<-e3,<-Q]at ab;exact⟨0,3,by omega,by omega,hM.fD J ab⟩
  omega
 have an:∀t,t<x.length->(at' x t).k=(at' y t).k:=λt u=>by
  by_cases G:AK (Z0 x) L t<2*Z0 x
  ·rw[(I t u G).1,T t u];unfold Fl;rw[iP G];rfl
  grind
 obtain⟨φ,a1⟩:∃φ:Int->Int,∀p,p<x.length->(at' y p).k=2->φ (at' y p).i=(at' x p).i:=by
  refine⟨λz=>match (range x.length).find? (λp=>AO (at' y p)&&(at' y p).i == z)with
   |some p=>(at' x p).i
   |none=>0,λp B hk=>?_⟩
  simp only;cases N:(range x.length).find? (λq=>AO (at' y q)&&(at' y q).i == (at' y p).i)with
  |none=>
   rw[List.find?_eq_none]at N;exact absurd (by simp[AO,hk]) (N p (mR.2 B))
  |some q=>
   simp only;have h1:=List.find?_some N;have h2:=mR.1 (List.mem_of_find?_eq_some N);simp only[bA,beq_iff_eq,AO]at h1;grind
 have a0:y.length=x.length:=by rw[hy,av,hn]
 have a6:0<y.length:=by grind
 have ao:∀p,p<y.length->BF y.length true 0 p=p:=λp B=>by unfold BF;grind
 rw[<-hy]at E az ⊢;refine⟨a0.symm,0,φ,a6,λa G b hb bc bd a8=>?_,λp B=>?_⟩
 ·obtain⟨pa,be,rfl⟩:=KV G;obtain⟨pb,bf,rfl⟩:=KV hb;grind
 rw[ao p B];have C:p<x.length:=by omega
 have ag:∀t,t<=x.length->Z0 (x.take t)=Z0 (y.take t):=by
  intro t;induction t with
  |zero=>intro _;rfl
  |succ t ih=>
   intro u;rw[ON (by omega),ON (by omega),ih (by omega)];unfold As;rw[an t (by omega)]
 have a9:down x p=down y p:=by unfold down;rw[ag p (by omega)]
 refine⟨?_,λ_=>by grind⟩;by_cases G:AK (Z0 x) L p<2*Z0 x
 ·obtain⟨k1,k2⟩:=I p C G;have S:(at' y p).k=1:=by grind
  have iy:V9 p (Z2 y)=AK (Z0 x) L p / 2:=by rw[hy];exact Ylv hR hw Z DT (by omega) G
  obtain⟨r1,r2,_⟩:=AH.Cq hv.lo hv.Ea;obtain⟨q1,q2,_⟩:=AH.Cq hv.lo E;rw[Lp r2 r1 C k1]at k2;rw[Lp q2 q1 B S]at iy;obtain⟨g1,g2⟩:=Z7u hv.Ea E ae (P4 C) (P4 B) k1 S (by rw[k2,iy]);have a:=(JY k1).1 (hv.Ea _ (P4 C));have b:=(JY S).1 (E _ (P4 B));rw[A1 (by omega)];exact zS (k1.trans S.symm) g1 g2 (a.1.trans b.1.symm) (a.2.1.trans b.2.1.symm) (a.2.2.1.trans b.2.2.1.symm)
 obtain⟨j,hj,_,kx,S,g,r,i1,s1,o1,_⟩:=n p C G;have a:=(Ik kx).1 (hv.Ea _ (P4 C));rw[J2 S,a1 p C S];exact zS (kx.trans S.symm) (a.1.trans g.symm) (a.2.1.trans r.symm) rfl s1.symm o1.symm
end
theorem Z71{m:Nat}{A B:List Ro}{L:List (Nat×Nat)}{X:List Nd}(h:K9 m A B=(true,L,X)):X.length=R7 A+R7 B:=by
 unfold K9 at h;obtain⟨c,d,e,f⟩:∃c d e,U1 m false A (Q5 m) [] []=(c,d,e):=⟨_,_,_,rfl⟩;rw[f]at h;cases c with
 |false=>simp at h
 |true=>
  simp only[if_true]at h;have a:=Uq A _ _ _ _ _ f;have b:=Uq B _ _ _ _ _ h;grind
theorem Zwv(p:Lt->Bool):∀l:List Lt,(l.filter p).length+(l.filter λa=>!p a).length=l.length
 |[]=>rfl
 |a::r=>by
  have b:=Zwv p r;grind
theorem sw{x:List Lt}(a:∀l,l∈x->As l=true->0<=l.g):∀t:Nat,((range t).map λg:Nat=>Bl (g:Int) x).sum=Z4 (λo=>As o&&decide (o.g<(t:Int))) x
 |0=>by
  symm
  show Z4 _ x=0;unfold Z4;simp_all
 |t+1=>by
  rw[List.range_succ,List.map_append,List.sum_append,sw a t,Pp (λo=>As o&&decide (o.g<((t+1:Nat):Int))) (λo=>decide (o.g<(t:Int)))]
  congr 1
  ·grind
  simp only[map_cons,List.map_nil,List.sum_cons,List.sum_nil,Nat.add_zero];unfold Bl;grind
theorem Ybf{F:Nat}{x:List Lt}(h:AH F x):((range (F+1)).map λg:Nat=>Bl (g:Int) x).sum=Z0 x:=by
 rw[sw (Z68 h)];unfold Z0;refine J3 λo a=>?_;cases b:As o with
 |false=>rfl
 |true=>
  have:=Ya3 h o a b;simp;omega
theorem Ykt{F:Nat}{ls:List Lt}(H:V3 F ls=0):∃N,GV F ((CW F ls ls.length).map λg=>((g:Nat):Int)) ((X3 4 ls).map HV) ((X3 4 (Bi ls)).map HV)=((F:Int),N,0)/\V3 F N=0/\R8 ls=R8 N/\fU F ((CW F ls ls.length).map λg=>((g:Nat):Int)) ((X3 4 ls).map HV) ((X3 4 (Bi ls)).map HV):=by
 obtain⟨Oz,EB⟩:=bU H;obtain⟨gs,f⟩:∃gs,gs=CW F ls ls.length:=⟨_,rfl⟩;have DT:gs.length=F+1:=by rw[f,KC]
 rw[<-f];have G:(gs.map λg=>((g:Nat):Int))≠[]:=λe=>by
  simp_all
 have ab:¬Hw (gs.map λg=>((g:Nat):Int))<0:=λh=>by
  obtain⟨y,hy,aa⟩:=(Zz3 G).1 h;grind
 have b:(gs.map λg=>((g:Nat):Int)).map Int.toNat=gs:=by
  rw[map_map]
  conv=>rhs;rw[<-List.map_id gs]
  rfl
 have u:∀A B z,(if 100<R7 A+R7 B\/400<gs.sum+2*(R7 A+R7 B)then (0,[],7)
  else if gs.sum=0/\A.length+B.length=0 then ((F:Int),[],0)
  else if gs.sum=0\/(K9 gs.sum A B).1=false then (0,[],3)
  else if FI gs.sum (K9 gs.sum A B).2.2 (K9 gs.sum A B).2.1 then ((F:Int),X7 (X9 gs.sum (AN 0 gs) (K9 gs.sum A B).2.2 (K9 gs.sum A B).2.1),0)else (0,[],3))=z->GV F (gs.map λg=>((g:Nat):Int)) A B=z:=λA B z d=>by
  unfold GV;rw[iN (by
   grind),b]
  exact d
 by_cases h0:ls=[]
 ·subst h0;have U:gs.sum=0:=by
   rw[f];unfold CW;rw[show (([]:List Lt).take ([]:List Lt).length)=[] from rfl];have:∀n,((range n).map λg:Nat=>Bl (g:Int) []).sum=0:=λn=>by
    induction n with
    |zero=>rfl
    |succ n ih=>rw[List.range_succ,List.map_append,List.sum_append,ih];rfl
   exact this _
  refine⟨[],u _ _ _ ?_,H,rfl,λ_ _ _ _ h=>absurd (by rw[b,U]) h⟩;have r:X3 4 []=[]:=rfl;rw[iU,r,U];rfl
 have hv:=Ll H h0;obtain⟨z,e,E,d,s,O,s1,s2,s3⟩:=Ybv hv h0;obtain⟨L,X,P,r,hM⟩:=Yg7 d s;rw[s1,s2]at r;have hR:=yw (d.wv s).Eo r;obtain⟨hn,D⟩:=hM.yE d s hR O;have I:∀i c,gs[i]?=some c->Bl ((i:Nat):Int) z=c:=λi c Q=>by
  have hi:i<F+1:=by rw[<-DT];exact(gS.1 Q).1
  rw[f,VR _ _ (by omega),List.take_length]at Q;grind
 have o:gs.sum=Z0 z:=by
  rw[<-Ybf d,f];unfold CW;simp_all
 have w:(AN 0 gs).length=Z0 z:=by rw[Xf,o]
 have V:Z0 z+X6 z=z.length:=by
  have J:=(d.wv s).Cs;have:Z4 As z+Z4 AO z=z.length:=by
   unfold Z4;have C:z.filter AO=z.filter λl=>!As l:=by
    refine List.filter_congr λl Z=>?_;obtain⟨p,T,rfl⟩:=KV Z;rcases Decidable.em ((at' z p).k=2)with c|c
    ·simp[AO,As,c]
    have:=J p T c;simp[AO,As,this]
   rw[C];exact Zwv As z
  exact this
 have hX:X.length<=100:=by have:=d.vis;omega
 have M:=d.len;have v:=Zws hR D w DT;have m:=hM.same d s hR O rfl DT I (by omega) M hX w;have t:AH F (X9 (Z0 z) (AN 0 gs) X L):=d.de m.symm (Yb6 hR D w DT) (λa hm J=>by
  have:=(Ik J).1 (oK hR D w DT a hm);omega)
 have q:=Yj5 t v;have S:=Z71 r;refine⟨X7 (X9 (Z0 z) (AN 0 gs) X L),u _ _ _ ?_,q.to,?_,?_⟩
 ·rw[o,r];have T:=(d.wv s).Eo;rw[iN (by omega),iN (by omega),iN (by simp;omega),iP D]
 ·have Y:=(E.trans m.symm).trans (mN v);have K:X7 (X9 (Z0 z) (AN 0 gs) X L)≠[]:=λc=>by
   have C:=q.fst;rw[c]at C;cases C
  exact Ygb (hv.To h0) (q.To K) Y
 intro L' X' j;rw[b,o]at j ⊢;rw[r]at j;injection j with _ j
 injection j with e1 e2
 subst e1 e2;exact λ_ _ _ _ _ _ _ _=>q.to
theorem Ygj(l:List Rw):l.map Bh=(l.map HV).map GY:=by
 rw[map_map];rfl
theorem zu(l:List Rw):CE (Bg (l.map Bh)) (l.map HV):=by
 unfold Bg;by_cases h:l=[]
 ·subst h;exact .inr ⟨rfl,rfl⟩
 rw[iN (by simpa using h)];exact .inl (by rw[Ygj])
theorem Z7j(l:List Nat):Z1 l=Y9 (l.map λg=>((g:Nat):Int)):=by
 unfold Z1 Y9;rw[map_map];rfl
theorem Zxk(ls:List Lt):(X3 4 ls).length<=ls.length+3*ls.length+1:=by
 unfold X3;refine Nat.le_trans (qK ls _ _ _) ?_;unfold En;have a:(Y4 ls).length<=ls.length:=by rw[Xi];exact List.length_filter_le _ _
 have b:Z4 (λl=>AO l && !([]:List Int).contains l.i) ls<=ls.length:=List.length_filter_le _ _;omega
theorem Z8m{F:Nat}{ls:List Lt}(c:V3 F ls=0)(j:ls.length<=40):∃a,V3 F a=0/\R8 ls=R8 a/\Au Tryz.prog 9 [HC F ls] (.tuple [.agg [.int .i64 F,Bg (a.map Ab)],.int .i64 0]):=by
 obtain⟨a,e,h,i,d⟩:=Ykt c;obtain⟨m,l⟩:=bU c;have n:=Zxk ls;have o:=Zxk (Bi ls);have k:(Bi ls).length<=40:=by
  by_cases h0:ls=[]
  ·subst h0;rw[iU];simp
  rw[E8];exact j
 have b:=Yly F ((CW F ls ls.length).map λg=>((g:Nat):Int)) _ _ _ _ d (zu (X3 4 ls)) (zu (X3 4 (Bi ls))) (by rw[lM,KC];omega) (by grind) (by grind);refine⟨a,h,i,?_⟩;unfold ZF at b;rw[e,<-Z7j]at b;exact b
theorem Ybp(rows:List (List Aa)):Wk (Bg rows) (.Al rows):=by
 unfold Bg;split
 ·rename_i h;subst h;exact uc
 exact Wk.refl _
theorem Ylf(f:Int)(ls:List Lt):Au Tryz.prog 4 [cV f ls] (.bool true):=by
 refine JH hm Tryz.func4 Ylp rfl rfl (by simp[Y7,Aa.closed,Y6]) trivial λK t=>?_;have h:=c18 f ls;by_cases w:ls.length<=40/\V3 f ls=0;rotate_left
 ·have A:(decide (ls.length<=40)&&decide (V3 f ls=0))=false:=by simpa using w
  rw[A]at h;unfold cV at *;generalize ls.map Ab=rows at *;simp;refine T0 h ?_;simp;refine T0 Zzj ?_;simp;exact Z6 t [] (by simp)
 obtain⟨p,b⟩:=w;have r:(decide (ls.length<=40)&&decide (V3 f ls=0))=true:=by simp[p,b]
 rw[r]at h;obtain⟨L,E⟩:=bU b;obtain⟨F,rfl⟩:∃F:Nat,f=F:=⟨f.toNat,by omega⟩;obtain⟨a,l,q,hR⟩:=Z8m b p;obtain⟨B,C⟩:=qf b;obtain⟨M,m2⟩:=qf l;have wk:Wk (.agg [.int .i64 (F:Int),Bg (a.map Ab)]) (cV F a):=Zwq ⟨Wk.refl _,Ybp _,trivial⟩;have y:=Z5m F ls b;have z:=(Z5m F a l).arg (args':=[.agg [.int .i64 (F:Int),Bg (a.map Ab)]]) ⟨wk,trivial⟩;have v:=(rS F F ls a b l (by omega) (by omega)).arg (args':=[cV F ls,.agg [.int .i64 (F:Int),Bg (a.map Ab)]]) ⟨Wk.refl _,wk,trivial⟩;rw[show (decide ((F:Int)=(F:Int))&&decide (R8 ls=R8 a))=true by simp[q]]at v;have u:=Z7o F F ls a (by omega) (by omega) B C;have s:Mi F F ls a=true:=Z82 b l q;rw[s]at u;have j:=Jb ((X3 4 ls).map Bh);have n:=Jh ((X3 4 ls).map Bh);have k:=Jb ((X3 4 (Bi ls)).map Bh);have o:=Jh ((X3 4 (Bi ls)).map Bh);have c:=Jb ((X3 4 a).map Bh);have e:=Jh ((X3 4 a).map Bh);have d:=Jb ((X3 4 (Bi a)).map Bh);have g:=Jh ((X3 4 (Bi a)).map Bh);have i:=Jb (a.map Ab);have m:=Jh (a.map Ab);unfold HC ZD at *;unfold cV at *;generalize Bg ((X3 4 ls).map Bh)=G at *;generalize Bg ((X3 4 (Bi ls)).map Bh)=H at *;generalize Bg ((X3 4 a).map Bh)=I at *
 generalize Bg ((X3 4 (Bi a)).map Bh)=J at *;generalize Bg (a.map Ab)=D at *;generalize Z1 (CW F ls ls.length)=U at *;generalize Z1 (CW F a a.length)=V at *;generalize ls.map Ab=rows at *;simp;refine T0 h ?_;simp;refine T0 y ?_;simp[j,n,k,o,c,e,d,g,i,m];refine T0 hR ?_;simp[j,n,k,o,c,e,d,g,i,m];refine T0 v ?_;simp[j,n,k,o,c,e,d,g,i,m];refine T0 z ?_;simp[j,n,k,o,c,e,d,g,i,m];refine T0 u ?_;simp;refine T0 Zzj ?_;simp;exact Z6 t [] (by simp)
variable {H:Type} {enc:TypeId×Value→H} {w:World} {base:Nat} {spare:Nat→Bool} {held:Bool}
theorem Ycj{v:Value}{f:Int}{ls:List Lt}(hR:∀ρ,R (FK w) ρ (cV f ls) v):Calls Tryz.prog 4 #[v] w λe w'=>e=.returned (.bool true)/\Below w.heap.size w w':=by
 have m:=Ylf f ls ⟨λ_=>none,1⟩ [];refine(m.2 ⟨w,λ_=>none,FK w⟩ (FK w) (λ_=>none) #[v] w ⟨⟨Below.refl _ _,λB o d=>(by cases d)⟩,λB c d=>Yhe d,λb x a=>(by cases a),λb b' x t l l' k=>(by cases k),λb l j=>(by cases j),λB c d=>.inl d⟩
  ⟨rfl,λi x u a g=>?_⟩ (λb j=>by simp at j)).mono λe w' n=>?_
 ·match i,a,g with
  |0,a,g=>cases a;cases g;exact hR _
  |i+1,a,g=>simp at a
 obtain⟨u,r,s,q,ρ',rfl,_,_,p,h,_,rfl,_⟩:=n;refine⟨?_,p.base.below⟩;cases h;rfl
end Go.Ad
