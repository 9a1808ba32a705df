/- Part 47 -/
import Derived.Test.YtilmpmlkndfbjaaGreatDoorT46
set_option linter.all false
set_option maxRecDepth 100000
set_option maxHeartbeats 16000000
open List (range getD map_map map_cons length)
open Go.Proofs.Tryz (prog)
namespace Go.Ad
open Go.Plain Go Go.AE Go.Proofs
section
variable {x y:List Lt} {f:Int} (hx:AH f x) (hy:AH f y) (x0:x≠[]) (y0:y≠[]) (ax:(Z2 x).getD 0 0=0) (ay:(Z2 y).getD 0 0=0) (hp:Z0 x=Z0 y)
 {R:Bool→Nat→Nat→Prop} (hR:∀ sd,Rl x y sd (R sd))
include hx hy x0 y0 hp hR
include ax ay in
include ax ay in
end
theorem zS{a b:Lt}(k:a.k=b.k)(g:a.g=b.g)(r:a.r=b.r)(i:a.i=b.i)(s:a.s=b.s)(o:a.o=b.o):a=b:=by
 cases a;simp_all
section
variable {x y:List Lt} {f:Int}
theorem Zzb(hx:∀l,l∈x->As l=true->0<=l.g)(hy:∀l,l∈y->As l=true->0<=l.g)(hg:∀g,Bl g x=Bl g y):∀t:Nat,Z4 (λo=>As o&&decide (o.g<(t:Int))) x=Z4 (λo=>As o&&decide (o.g<(t:Int))) y
 |0=>by
  have z:∀ls:List Lt,(∀l,l∈ls->As l=true->0<=l.g)->Z4 (λo=>As o&&decide (o.g<((0:Nat):Int))) ls=0:=λls h=>by
   unfold Z4;simp_all
  rw[z x hx,z y hy]
 |t+1=>by
  have s:∀ls:List Lt,Z4 (λo=>As o&&decide (o.g<((t+1:Nat):Int))) ls=Z4 (λo=>As o&&decide (o.g<(t:Int))) ls+Bl (t:Int) ls:=λls=>by
   rw[Pp (λo=>As o&&decide (o.g<((t+1:Nat):Int))) (λo=>decide (o.g<(t:Int)))]
   congr 1
   ·grind
   unfold Bl;grind
  rw[s,s,Zzb hx hy hg t,hg]
theorem eU(h:∀l,l∈x->BQ f x l=true):∀l,l∈x->As l=true->0<=l.g:=λl b hp=>by
 have a:l.k=1:=by simpa[As]using hp
 exact((JY a).1 (h l b)).2.2.2.1
theorem zP(h:∀l,l∈x->BQ f x l=true):∀l,l∈x->As l=true->l.g<=f:=λl b hp=>by
 have a:l.k=1:=by simpa[As]using hp
 exact((JY a).1 (h l b)).2.2.2.2.1
theorem Z68(h:AH f x):∀l,l∈x->As l=true->0<=l.g:=eU h.Ea
theorem Ya3(h:AH f x):∀l,l∈x->As l=true->l.g<=f:=zP h.Ea
theorem Z7u(hx:∀l,l∈x->BQ f x l=true)(hy:∀l,l∈y->BQ f y l=true)(hg:∀g,Bl g x=Bl g y){l l':Lt}(q:l∈x)(e:l'∈y)(p:l.k=1)(d:l'.k=1)(j:pos x l=pos y l'):l.g=l'.g/\l.r=l'.r:=by
 have a:=(JY p).1 (hx l q);have b:=(JY d).1 (hy l' e);have w:=a.2.2.2.1;have n:=b.2.2.2.1;have z:=a.2.2.2.2.2.1;have t:=a.2.2.2.2.2.2.1;have s:=b.2.2.2.2.2.1;have u:=b.2.2.2.2.2.2.1;rw[hg]at t;unfold pos at j;have i:=Zzb (eU hx) (eU hy) hg l.g.toNat;rw[show ((l.g.toNat:Nat):Int)=l.g by omega]at i;rw[i]at j;have step:∀g c:Int,g<c->Z4 (λo=>As o&&decide (o.g<g)) y+Bl g y<=Z4 (λo=>As o&&decide (o.g<c)) y:=λg c h=>by
  rw[Pp (λo=>As o&&decide (o.g<c)) (λo=>decide (o.g<g))];have m:Z4 (λo=>As o&&decide (o.g<c)&&decide (o.g<g)) y=Z4 (λo=>As o&&decide (o.g<g)) y:=by
   grind
  rw[m];have v:Bl g y<=Z4 (λo=>As o&&decide (o.g<c) && !decide (o.g<g)) y:=by
   rw[Pp (λo=>As o&&decide (o.g<c) && !decide (o.g<g)) (λo=>o.g == g)];have:Z4 (λo=>As o&&decide (o.g<c) && !decide (o.g<g)&&(o.g == g)) y=Bl g y:=by
    unfold Bl;apply J3;grind
   omega
  omega
 rcases Int.lt_trichotomy l.g l'.g with h|h|h
 ·grind
 ·grind
 have:=step _ _ h;omega
end
section
variable {x y:List Lt} {f:Int} (hx:AH f x) (hy:AH f y) (x0:x≠[]) (y0:y≠[]) (ax:(Z2 x).getD 0 0=0) (ay:(Z2 y).getD 0 0=0) (hg:∀ g,Bl g x=Bl g y)
 {R:Bool→Nat→Nat→Prop} (hR:∀ sd,Rl x y sd (R sd))
include hx hy x0 y0 ax ay hg hR
end
theorem Ybv{x:List Lt}{f:Int}(hx:AH f x)(x0:x≠[]):∃z e,De e x z/\AH f z/\z≠[]/\(Z2 z).getD 0 0=0/\KU z x:=by
 have key:∀y:List Lt,AH f y->y≠[]->down y ((Z2 y).getD 0 0)=true -> ∃z,De true y z/\AH f z/\z≠[]/\(Z2 z).getD 0 0=0/\KU z y:=λy hy y0 q=>by
  have wy:=hy.wv y0;obtain⟨v,v1,A,G,H⟩:=IV (ls:=y) (p:=0) wy.Eo;rw[G]at q;have h:=mQ hy.Jk v1 q;have s:(at' (U2 v y) 0).k=1:=by
   rw[Oh v1 (List.length_pos_iff.2 y0),Xu v1];exact A
  have t:GC (U2 v y):=λa Q l=>by
   have:=hy.nm a (jC Q) l;unfold X6 at this ⊢;rw[MT];exact this
  obtain⟨n,I,Y⟩:=aU hy y0 h s t;refine⟨U2 v y,h,n,I,?_,Y⟩;have wz:=n.wv I;obtain⟨U,V,_⟩:=AH.Cq n.lo n.Ea;obtain⟨S,T,_⟩:=AH.Cq hy.lo hy.Ea;have F:0<(U2 v y).length:=by grind
  have o:=Lp V U F s;have C:=Lp T S v1 A;have D:pos (U2 v y) (at' (U2 v y) 0)=pos y (at' y v):=by
   rw[Oh v1 (List.length_pos_iff.2 y0),Xu v1];unfold pos;rw[MT]
  rw[D,<-C,H]at o;have:=(SE F s).2;grind
 obtain⟨v,v1,A,G,H⟩:=IV (ls:=x) (p:=0) (hx.wv x0).Eo;cases q:down x ((Z2 x).getD 0 0)with
 |true=>
  grind
 |false=>
  have E:=VW (hx.To x0);obtain⟨j,B,J⟩:=Z95 hx x0;have r:down (Q6 x) ((Z2 (Q6 x)).getD 0 0)=true:=by
   obtain⟨ρ,σ,φ,i,_,_⟩:=lS hx E j.fst j.nm;obtain⟨u,m,w,Z,X⟩:=IV (ls:=Q6 x) (p:=0) (j.wv B).Eo;have o:=i.idx u m w;have C:=i.dn u m w;have l:=i.Cs u m;rw[w]at l;rw[X]at o;have D:=(SE (ls:=x) (v:=ρ u) (by rw[i.len];exact i.lt u m) l).2;grind
  obtain⟨z,a,b,c,d,e⟩:=key (Q6 x) j B r;refine⟨z,_,E.trans a,b,c,d,?_⟩;obtain⟨N,O,P⟩:=e;obtain⟨K,L,M⟩:=J;exact⟨N.trans K,O.trans L,λg=>(P g).trans (M g)⟩
def KP(s:Nat→Int)(o:Nat→Bool):Nat→List Lt
 | 0=>[]
 | n+1=>KP s o n++[⟨2,0,0,((n+1:Nat):Int),s n,o n⟩,⟨2,0,0,((n+1:Nat):Int),s n,!o n⟩]
section
variable {s:Nat→Int} {o:Nat→Bool}
theorem Zwf:∀{n:Nat}{l:Lt},l∈KP s o n -> ∃j b,j<n/\l=⟨2,0,0,((j+1:Nat):Int),s j,b⟩/\(b=o j\/b = !o j)
 |0,l,h=>by cases h
 |n+1,l,h=>by
  rcases List.mem_append.1 h with h|h
  ·obtain⟨j,b,d,a,c⟩:=Zwf h;exact⟨j,b,by omega,a,c⟩
  simp only[mC,List.not_mem_nil,or_false]at h;rcases h with h|h
  ·exact⟨n,o n,by omega,h,.inl rfl⟩
  exact⟨n,!o n,by omega,h,.inr rfl⟩
theorem gB(p:Lt->Bool)(n:Nat):Z4 p (KP s o (n+1))=Z4 p (KP s o n)+((if p ⟨2,0,0,((n+1:Nat):Int),s n,o n⟩ then 1 else 0)+if p ⟨2,0,0,((n+1:Nat):Int),s n,!o n⟩ then 1 else 0):=by
 show Z4 p (KP s o n++_)=_;rw[NJ,Pf,Pf];rfl
theorem ya:∀n,X6 (KP s o n)=2*n
 |0=>rfl
 |n+1=>by
  have:=ya n;unfold X6 at *;rw[gB,this];simp[AO];omega
theorem VQ{p:Lt->Bool}(hp:∀l:Lt,l.k=2->p l=false):∀n,Z4 p (KP s o n)=0
 |0=>rfl
 |n+1=>by rw[gB,VQ hp n,hp _ rfl,hp _ rfl];rfl
theorem q8(j:Nat):∀n,J8 ((j+1:Nat):Int) (KP s o n)=if j<n then 2 else 0
 |0=>rfl
 |n+1=>by
  have:=q8 j n;unfold J8 at *;rw[gB,this];by_cases e:n=j
  ·subst e;simp[AO]
  grind
theorem zA(j:Nat)(b:Bool)(a:b=o j\/b = !o j):∀n,JV ⟨2,0,0,((j+1:Nat):Int),s j,b⟩ (KP s o n)=if j<n then 1 else 0
 |0=>rfl
 |n+1=>by
  have:=zA j b a n;unfold JV at *;rw[gB,this];grind
end
theorem yo(m:Nat)(b:List (Nat×Nat))(X:List Nd)(a:List Nat):∀n,((range n).flatMap λj=>[2*m+4*j,2*m+4*j+1]).map (Fl m b X a) =
 KP (λj=>Hj (GJ m a j) (GK m a j) (X.getD j (false,false)).1) (λj=>(X.getD j (false,false)).1 != (X.getD j (false,false)).2) n
 |0=>rfl
 |n+1=>by
  rw[List.range_succ,List.flatMap_append,List.map_append,yo m b X a n];show _++[Fl m b X a (2*m+4*n),Fl m b X a (2*m+4*n+1)]=_;have c:Fl m b X a (2*m+4*n)=⟨2,0,0,((n+1:Nat):Int),Hj (GJ m a n) (GK m a n) (X.getD n (false,false)).1,(X.getD n (false,false)).1 != (X.getD n (false,false)).2⟩:=by
   unfold Fl;rw[iN (by omega),show (2*m+4*n-2*m) / 4=n by omega,show (2*m+4*n-2*m)%4%2=0 by omega];simp
  have d:Fl m b X a (2*m+4*n+1)=⟨2,0,0,((n+1:Nat):Int),Hj (GJ m a n) (GK m a n) (X.getD n (false,false)).1,!((X.getD n (false,false)).1 != (X.getD n (false,false)).2)⟩:=by
   unfold Fl;rw[iN (by omega),show (2*m+4*n+1-2*m) / 4=n by omega,show (2*m+4*n+1-2*m)%4%2=1 by omega];simp
  rw[c,d];rfl
section
variable {m:Nat} {X:List Nd} {L:List (Nat×Nat)} (h:Jy m X L) (hw:FI m X L) {gs:List Nat} {F:Nat} (Cb:(AN 0 gs).length=m) (DT:gs.length=F+1)
include h hw Cb
theorem Po:(X9 m (AN 0 gs) X L).length=m+2*X.length:=by unfold X9 CV;simp
theorem WN{t:Nat}(b:t<m+2*X.length):at' (X9 m (AN 0 gs) X L) t=Fl m (AN 0 gs) X (CV m X L) (AK m L t):=by
 have a:=Po h hw Cb;unfold at';rw[getD,gE (by rw[a];exact b)];show(X9 m (AN 0 gs) X L)[t]=_;unfold X9;rw[List.getElem_map]
 congr 1
 unfold CV;simp
theorem Zxw:(X9 m (AN 0 gs) X L).Perm ((AN 0 gs).map AP++KP (λj=>Hj (GJ m (CV m X L) j) (GK m (CV m X L) j) (X.getD j (false,false)).1) (λj=>(X.getD j (false,false)).1 != (X.getD j (false,false)).2) X.length):=by
 have b:X9 m (AN 0 gs) X L=((CV m X L).map (HW m)).map (Fl m (AN 0 gs) X (CV m X L)):=by
  unfold X9;rw[map_map];exact List.map_congr_left λa _=>(Yj2 m _ X _ a).symm
 have c:(Q5 m).map (Fl m (AN 0 gs) X (CV m X L))=(AN 0 gs).map AP:=by
  apply List.ext_getElem?;intro i;rw[gM,gM];unfold Q5;rw[gM];by_cases hi:i<m
  ·rw[List.getElem?_range hi,gE (by omega)];show some (Fl m (AN 0 gs) X (CV m X L) (2*i))=some (AP (AN 0 gs)[i]);unfold Fl;rw[iP (by omega),show 2*i / 2=i by omega,getD,gE (by omega)];rfl
  grind
 rw[b];refine((vq h hw).map _).trans ?_;unfold Qv;rw[List.map_append,c,yo]
theorem SA(p:Lt->Bool):Z4 p (X9 m (AN 0 gs) X L)=Z4 p ((AN 0 gs).map AP)+Z4 p (KP (λj=>Hj (GJ m (CV m X L) j) (GK m (CV m X L) j) (X.getD j (false,false)).1) (λj=>(X.getD j (false,false)).1 != (X.getD j (false,false)).2) X.length):=by
 rw[<-NJ];unfold Z4;exact((Zxw h hw Cb).filter p).length_eq
theorem Yhv:X6 (X9 m (AN 0 gs) X L)=2*X.length:=by
 unfold X6;rw[SA h hw Cb];have a:=ya (s:=λj=>Hj (GJ m (CV m X L) j) (GK m (CV m X L) j) (X.getD j (false,false)).1) (o:=λj=>(X.getD j (false,false)).1 != (X.getD j (false,false)).2) X.length;unfold X6 at a;rw[a];unfold Z4;rw[List.filter_eq_nil_iff.2 λl b=>?_]
 ·simp
 obtain⟨q,_,rfl⟩:=mM.1 b;simp[AO,AP]
include DT in
theorem oK:∀l,l∈X9 m (AN 0 gs) X L->BQ F (X9 m (AN 0 gs) X L) l=true:=by
 intro l a;rcases List.mem_append.1 ((Zxw h hw Cb).mem_iff.1 a)with a|a
 ·have f:=a;obtain⟨q,w,rfl⟩:=mM.1 a;obtain⟨i,c,d,t,y,z⟩:=pM gs 0 q w;have hi:i<gs.length:=by
   grind
  have v:Bl ((AP q).g) (X9 m (AN 0 gs) X L)=c:=by
   have n:=nQ gs 0 i c d;have e:(AP q).g=((0+i:Nat):Int):=by show((q.1:Nat):Int)=_;rw[t]
   rw[e];unfold Bl at n ⊢;rw[SA h hw Cb,n,VQ (λl a=>by simp[As,a])];rfl
  refine(JY (show (AP q).k=1 from rfl)).2 ⟨rfl,rfl,rfl,?_,?_,?_,?_,?_⟩
  ·show(0:Int)<=(q.1:Int);omega
  ·show(q.1:Int)<=(F:Int);omega
  ·show(1:Int)<=(q.2:Int);omega
  ·rw[v];show(q.2:Int)<=(c:Int);omega
  have p:=yK (kC gs 0) _ f;unfold same at p ⊢;rw[SA h hw Cb,p,VQ (λl a=>by rw[a];rfl)]
 obtain⟨j,b,r,rfl,u⟩:=Zwf a;refine(Ik rfl).2 ⟨rfl,rfl,?_,?_,?_,?_,?_⟩
 ·show Hj _ _ _=1\/Hj _ _ _ = -1;unfold Hj;omega
 ·grind
 ·rw[Yhv h hw Cb,Nat.mul_div_cancel_left _ (by omega)];grind
 ·have d:=zA (s:=λj=>Hj (GJ m (CV m X L) j) (GK m (CV m X L) j) (X.getD j (false,false)).1) (o:=λj=>(X.getD j (false,false)).1 != (X.getD j (false,false)).2) j b u X.length;unfold JV at d ⊢;rw[SA h hw Cb,d,iP r];unfold Z4;rw[List.filter_eq_nil_iff.2 λl a=>?_]
  ·rfl
  obtain⟨q,_,rfl⟩:=mM.1 a;simp[AP]
 have d:=q8 (s:=λj=>Hj (GJ m (CV m X L) j) (GK m (CV m X L) j) (X.getD j (false,false)).1) (o:=λj=>(X.getD j (false,false)).1 != (X.getD j (false,false)).2) j X.length;unfold J8 at d ⊢;rw[SA h hw Cb,d,iP r];unfold Z4;rw[List.filter_eq_nil_iff.2 λl a=>?_]
 ·rfl
 obtain⟨q,_,rfl⟩:=mM.1 a;simp[AP,AO]
theorem zR{t:Nat}(a:t<m+2*X.length):(at' (X9 m (AN 0 gs) X L) t).k=if AK m L t<2*m then 1 else 2:=by
 rw[WN h hw Cb a];unfold Fl;split<;>rfl
end
section
variable {m:Nat} {X:List Nd} {L:List (Nat×Nat)} (h:Jy m X L) (hw:FI m X L) {gs:List Nat} {F:Nat} (Cb:(AN 0 gs).length=m) (DT:gs.length=F+1)
include h hw Cb DT
theorem Yb6:(at' (X9 m (AN 0 gs) X L) 0).k=1:=by
 have hm:=h.hm;rw[zR h hw Cb (t:=0) (by omega)];have:AK m L 0=0:=rfl;omega
theorem Zws:X9 m (AN 0 gs) X L≠[]:=λe=>by
 have:=Po h hw Cb (gs:=gs);rw[e]at this;have:=h.hm;simp at *;omega
theorem Ylv{t:Nat}(c:t<m+2*X.length)(d:AK m L t<2*m):V9 t (Z2 (X9 m (AN 0 gs) X L))=AK m L t / 2:=by
 have g:=oK h hw Cb DT (F:=F);obtain⟨n,o,_⟩:=AH.Cq (f:=F) (by omega) g;have b:=Po h hw Cb (gs:=gs);have j:(at' (X9 m (AN 0 gs) X L) t).k=1:=by rw[zR h hw Cb c,iP d]
 have hp:As (at' (X9 m (AN 0 gs) X L) t)=true:=by simp[As,j]
 have hm:=P4 (ls:=X9 m (AN 0 gs) X L) (i:=t) (by rw[b];exact c);rw[Lp o n (by rw[b];exact c) j,<-Z5d o n hm hp,SA h hw Cb,VQ (λl p=>by simp[As,p])];have hi:AK m L t / 2<(AN 0 gs).length:=by omega
 have e:((AN 0 gs).map AP)[AK m L t / 2]?=some (at' (X9 m (AN 0 gs) X L) t):=by
  rw[WN h hw Cb c];unfold Fl;grind
 rw[Zz9 (kC gs 0) (λa d=>by obtain⟨q,_,rfl⟩:=mM.1 d;rfl) e];rfl
end
def C6(J:List Int)(a b:Nat):List Int:=(J.set a (b:Int)).set b (a:Int)
def Fj(P:Aa)(J:Aa)(X:Aa):Af:=.cells 3 [[P,J,X]]
def Co(x:Int×Nd):List Aa:=[.int .i64 x.1,.int .i64 (x.1+1),.int .i64 (x.1+2),.int .i64 (x.1+3),.bool x.2.1,.bool x.2.2]
theorem Sp:∀(l:List (Int×Nd)),W3 (l.map Co)=true
 |[]=>rfl
 |r::l=>by
  have:=Sp l;simp only[map_cons,W3,Co,Y7,Aa.closed,Bool.and_true,Bool.true_and]at this ⊢;exact this
theorem ZZ{l:List Int}{i:Nat}(h:i<l.length):(Y9 l)[i]?=some [.int .i64 (l.getD i 0)]:=by
 unfold Y9;grind
theorem Uu(l:List Int):(Y9 l).length=l.length:=by simp[Y9]
theorem Z7t(P:List (List Aa))(C:W3 P=true)(J:List Int)(c:List (Int×Nd))(a b:Nat)(w:a<J.length)(z:b<J.length) :
 Bo prog 53 [.ptr 1 0 0,.int .i64 a,.int .i64 b] ⟨(1,Fj (Bg P) (.sl 2 0 J.length) (Bt 3 (c.map Co)))::(2,.cells 1 (Y9 J))::Bp 3 6 (c.map Co) [],4⟩ λr m=>
  r=.tuple []/\m=⟨(1,Fj (Bg P) (.sl 2 0 J.length) (Bt 3 (c.map Co)))::(2,.cells 1 (Y9 (C6 J a b)))::Bp 3 6 (c.map Co) [],4⟩:=by
 refine Ii hm Tryz.func53 Zi rfl rfl λK B=>?_;have o:=Jb P;have p:=Jh P;have s:∀q,(Bg P).AM q=Bg P:=λq=>Aa.Be q _ (JU C);have A:∀q,Z3 q (c.map Co)=c.map Co:=λq=>Y2 q _ (Sp _);have n:=Uu J;have g:=ZZ w;obtain⟨_,h⟩:=Y3 g;have d:(J.set a (b:Int)).length=J.length:=List.length_set;have j:=ZZ (l:=J.set a (b:Int)) (i:=b) (by rw[d];exact z);obtain⟨_,k⟩:=Y3 j;have u:=qo J a (b:Int);have v:=qo (J.set a (b:Int)) b (a:Int);have e:=Uu (J.set a (b:Int));have t:∀q,Z3 q (Y9 (C6 J a b))=Y9 (C6 J a b):=λq=>Y2 q _ (NG _);unfold C6 at *;generalize Bg P=F at *;generalize (J.set a (b:Int)).getD b 0=y at *;generalize J.getD a 0=x at *;generalize c.map Co=L at *;generalize E:Y9 ((J.set a (b:Int)).set b (a:Int))=I at *;generalize D:Y9 (J.set a (b:Int))=H at *;generalize Y9 J=G at *;unfold Fj at *;simp[o,p,w,z,n,g,h,u,e,d,j,k,v];exact Z6 B [(1,1),(2,2),(3,3)] (by simp +contextual [s,A,t])
end Go.Ad
namespace Go.AE
open Go.RowKit
section
variable {k base n x:Nat} {rest:List (Nat×Af)}
def C4(base n x N:Nat)(l:List (Nat×Nat))(nx b:Nat):Nat:=if b=base+x∧x<n then N else if b<base then V5 l 0 b else if b<base+n then b else b - (base+n)+nx
def IG(n0 base lo nx N:Nat):List (Nat×Nat)→Prop
 | []=>True
 | (c,o) :: r=>(n0≤c∧c<base∧lo≤o∧o<nx∧o≠N ∧ ∀ p,p∈r→p.2≠o)∧IG n0 base lo nx N r
theorem Wx{n0 base lo nx N:Nat}:∀{l:List (Nat×Nat)},IG n0 base lo nx N l -> ∀b,V5 l 0 b=b\/(n0<=b/\lo<=V5 l 0 b/\V5 l 0 b<nx/\V5 l 0 b≠N/\(b,V5 l 0 b)∈l)
 |[],_,b=>.inl rfl
 | (c,o)::r,h,b=>by
  simp only[V5];split
  ·rename_i e;subst e;obtain⟨⟨a,d,f,g,i,_⟩,_⟩:=h;grind
  rcases Wx h.2 b with e|⟨a,d,f,g,i⟩
  ·exact .inl e
  grind
theorem yN{n0 base lo nx N:Nat}:∀{l:List (Nat×Nat)},IG n0 base lo nx N l -> ∀b d,b<lo->d<lo->V5 l 0 b=V5 l 0 d->b=d
 |[],_,b,d,_,_,e=>e
 | (c,o)::r,h,b,d,i,j,e=>by
  obtain⟨⟨k,m,n,p,q,g⟩,a⟩:=h;have key:∀z,z<lo->V5 r 0 z≠o:=λz s e=>by
   rcases Wx a z with f|⟨_,_,_,_,f⟩
   ·omega
   exact g _ f e
  simp only[V5]at e;split at e
  ·grind
  split at e
  ·grind
  exact yN a b d i j e
theorem Di.DJ{H n0 N:Nat}{l:List (Nat×Nat)}{r e:Env}{m:Ac}{a:Nat->List (List Aa)}(D:n0<=base)(j:∀c y,Z7 rest c=some y->c<base)(h:IG n0 base (base+n) m.next N l)(v:x<n->base+n<=N/\N<m.next)
 (w:Cm (C4 base n x N l m.next) r e) (o:BO (C4 base n x N l m.next) rest m) (A:∀y,y<n->y≠x->a y≠[]->m.get (base+y)=some (.cells k (a y)))
 (B:x<n->m.get N=some (.cells k (a x))) (s:∀y,y<n->W3 (a y)=true):Di H n0 r ⟨G7 k base a n rest,base+n⟩ e m:=by
 have g:∀y,y<n->(Af.cells k (a y)).AM (C4 base n x N l m.next)=.cells k (a y):=λy hy=>by
  rw[Af.AM,Y2 _ _ (s y hy)]
 refine Di.xU (q:=C4 base n x N l m.next) (by grind) (λb f=>?_) (λb f=>?_) w (λb y hy=>?_) (λb d y z hy G F=>?_)
 ·unfold C4;rw[iN (by omega),iP (by omega)];rcases Wx h b with e|⟨e,_⟩
  ·exact e
  omega
 ·show b<base+n;unfold C4 at f;grind
 ·rcases pE n j hy with⟨f,hy⟩|⟨i,hi,rfl,E,rfl⟩
  ·exact o.get b y hy
  rw[g i hi];by_cases p:i=x
  ·subst p;refine⟨_,?_,.inl rfl⟩;show m.get (C4 base n i N l m.next (base+i))=_;unfold C4;grind
  refine⟨_,?_,.inl rfl⟩;show m.get (C4 base n x N l m.next (base+i))=_;unfold C4;grind
 have f:b<base+n:=by
  rcases pE n j hy with⟨f,_⟩|⟨i,hi,rfl,_,_⟩<;>omega
 have I:d<base+n:=by
  rcases pE n j G with⟨f,_⟩|⟨i,hi,rfl,_,_⟩<;>omega
 have t:=Wx h b;have u:=Wx h d;have C:=yN h b d (by omega) (by omega);unfold C4 at F;grind
theorem O4{N:Nat}{l:List (Nat×Nat)}{nx b:Nat}(h:b<base):C4 base n x N l nx b=V5 l 0 b:=by unfold C4;grind
theorem Z94{N:Nat}{l:List (Nat×Nat)}{nx:Nat}(h:x<n):C4 base n x N l nx (base+x)=N:=by unfold C4;grind
theorem Qt{N:Nat}{l:List (Nat×Nat)}{nx y:Nat}(h:y<n)(hy:y≠x):C4 base n x N l nx (base+y)=base+y:=by unfold C4;grind
theorem Z6a{F:Nat->List (List Aa)}(q:Nat->Nat):Z3 q (H2 base n F)=(range n).map λx=>[Bt (q (base+x)) (F x)]:=by
 unfold H2;rw[J1,map_map];refine List.map_congr_left λx _=>?_;show Q3 q [Bt (base+x) (F x)]=_;simp only[Q3,map_cons,List.map_nil,uq]
theorem JN{N:Nat}{l:List (Nat×Nat)}{nx:Nat}{F:Nat->List (List Aa)}:Z3 (C4 base n n N l nx) (H2 base n F)=H2 base n F:=by
 rw[Z6a];unfold H2;refine List.map_congr_left λx hx=>?_;have:=mR.1 hx;rw[Qt (by omega) (by omega)]
theorem ZX{N:Nat}{l:List (Nat×Nat)}{nx:Nat}{F:Nat->List (List Aa)}{R:List (List Aa)}(hx:x<n):Z3 (C4 base n x N l nx) (H2 base n (Gb F x R))=(H2 base n F).set x [Bt N R]:=by
 rw[Z6a];unfold H2;refine List.ext_getElem (by simp) λi a b=>?_;simp only[lM,List.length_range]at a;rw[List.getElem_set];simp only[List.getElem_map,List.getElem_range];by_cases hi:i=x
 ·subst hi;rw[iP rfl,WU,Z94 hx]
 rw[iN (λe=>hi e.symm),VF hi,Qt a hi]
theorem kK{c:Nat}{F:Nat->List (List Aa)}(h:c<base):Z7 (G7 k base F n rest) c=Z7 rest c:=VL n (.inl h)
theorem iZ{c:Nat}{F:Nat->List (List Aa)}(h:c<base):O7 (G7 k base F n rest) c=G7 k base F n (O7 rest c):=td n (.inl h)
theorem VI{B c:Nat}{y:Af}:∀{l:List (Nat×Af)},(∀p,p∈l->p.1<B)->Z7 l c=some y->c<B
 |[],_,h=>by simp[Z7]at h
 | (d,x)::r,a,h=>by
  simp only[Z7]at h;split at h
  ·simp_all
  exact VI (λp hp=>a p (List.mem_cons_of_mem _ hp)) h
theorem Wn{b k:Nat}{rows:List (List Aa)}{rest:List (Nat×Af)}{p:Nat×Af}(h:p∈Bp b k rows rest):p.1=b\/p∈rest:=by
 unfold Bp at h;grind
end
end Go.AE
namespace Go.Ad
open Go Go.AE Go.Proofs Go.Plain
theorem Zxc{α:Type}{l m:List α}{i:Nat}(h:i<l.length)(a:i<m.length)(b:l.take i=m.take i)(hx:l[i]=m[i]):l.take (i+1)=m.take (i+1):=by
 rw[List.take_add_one,List.take_add_one,b,gE h,gE a,hx]
theorem Zzy{α:Type}{l m:List α}{i:Nat}(h:i<l.length)(a:i<m.length)(hx:¬l[i]=m[i]):¬l=m:=λe=>by
 subst e;exact hx rfl
theorem Zx5{α:Type}{l m:List α}{i:Nat}(b:l.length=m.length)(h:¬i<l.length)(a:l.take i=m.take i):l=m:=by
 rw[tL (by omega),tL (by omega)]at a;exact a
theorem Ykn(a b c f b' c':Nat)(o d:Bool):W5 .neq (.flat [.int,.int,.int,.bool]) (.agg [.int .i64 a,.int .i64 b,.int .i64 c,.bool o]) (.agg [.int .i64 f,.int .i64 b',.int .i64 c',.bool d])=some (.bool (!decide ((a,b,c,o)=(f,b',c',d)))):=by
 have e:∀x y:Nat,((x:Int) == (y:Int))=decide (x=y):=λx y=>by rw[Bool.eq_iff_iff];simp;omega
 have g:(o == d)=decide (o=d):=by cases o<;>cases d<;>rfl
 simp only[W5,Ez,KW,A7,e,g];by_cases h:a=f<;>by_cases i:b=b'<;>by_cases j:c=c'<;>by_cases k:o=d<;>simp[h,i,j,k]
theorem Z5q(l m:List Rw)(F:l.length<=10000):Au prog 39 [Bg (l.map Bh),Bg (m.map Bh)] (.bool (decide (l=m))):=by
 refine JH hm Tryz.func39 Z90 rfl rfl (by simp[Y7,JU,KB]) trivial λK p=>?_;have y:∀q,(Bg (l.map Bh)).AM q=Bg (l.map Bh):=λq=>Aa.Be q _ (JU (KB _));have z:∀q,(Bg (m.map Bh)).AM q=Bg (m.map Bh):=λq=>Aa.Be q _ (JU (KB _));have d:(l.map Bh).length=l.length:=lM ..;have g:(m.map Bh).length=m.length:=lM ..;by_cases a:l.length=m.length;rotate_left
 ·have h:¬l=m:=λe=>a (by rw[e]);rw[decide_eq_false h]at p;have D:¬((l.length:Nat):Int)=m.length:=by omega
  simp[d,g,a,D];exact Z6 p [] (by simp)
 simp[d,g,a];refine M4 (α:=Nat) (λi=>[(5,.int .i64 i),(0,Bg (l.map Bh)),(1,Bg (m.map Bh))]) (λ_=>⟨[],1⟩) (λi=>l.length-i) (λi=>i<=l.length/\l.take i=m.take i) 0 [] (by simp[y,z]) (by simp) ?_;intro i hi N B
 try simp only at hi B ⊢
 obtain⟨hi,A⟩:=hi;have hw:=Y0 ((i:Int)+1);by_cases c:i<l.length
 ·have b:i<m.length:=by omega
  have hg:(l.map Bh)[i]?=some [.int .i64 (l[i].1:Nat),.int .i64 (l[i].2.1:Nat),.int .i64 (l[i].2.2.1:Nat),.bool l[i].2.2.2]:=by
   rw[gM,gE c];rfl
  have o:(m.map Bh)[i]?=some [.int .i64 (m[i].1:Nat),.int .i64 (m[i].2.1:Nat),.int .i64 (m[i].2.2.1:Nat),.bool m[i].2.2.2]:=by
   rw[gM,gE b];rfl
  obtain⟨_,s⟩:=Y3 hg;obtain⟨_,j⟩:=Y3 o;have v:=Ykn l[i].1 l[i].2.1 l[i].2.2.1 m[i].1 m[i].2.1 m[i].2.2.1 l[i].2.2.2 m[i].2.2.2;have h:¬l.map Bh=[]:=λe=>by have:=congrArg length e;simp at this;subst this;simp at c
  have k:¬m.map Bh=[]:=λe=>by have:=congrArg length e;simp at this;subst this;simp at b
  by_cases hx:l[i]=m[i]
  ·have n:=B (i+1) [];rw[Int.natCast_add,Int.natCast_one]at n;have w:=Zxc c b A hx;rw[decide_eq_true (by exact hx)]at v;generalize l[i]=r at *;generalize m[i]=E at *;have t:∀q,Z3 q (l.map Bh)=l.map Bh:=λq=>Y2 q _ (KB _);have u:∀q,Z3 q (m.map Bh)=m.map Bh:=λq=>Y2 q _ (KB _);rw[cT h,cT k]at n ⊢;generalize l.map Bh=R at *;generalize m.map Bh=C at *;simp[c,b,d,g,a,hg,s,o,j,v,hw];exact n _ _ (by omega) ⟨by omega,w⟩ (by simp[t,u])
  rw[decide_eq_false (Zzy c b hx)]at p;rw[decide_eq_false (by exact hx)]at v;generalize l[i]=r at *;generalize m[i]=E at *;rw[cT h,cT k];generalize l.map Bh=R at *;generalize m.map Bh=C at *;simp[c,b,d,g,a,hg,s,o,j,v,hw];exact Z6 p [] (by simp)
 rw[decide_eq_true (Zx5 a c A)]at p;simp[c,d,g,<-a];exact Z6 p [] (by simp)
theorem rT(l m:List Nat)(C:l.length<=10000)(B:l≠[])(w:m≠[]):Au prog 38 [.Al (Z1 l),.Al (Z1 m)] (.bool (decide (l=m))):=by
 refine JH hm Tryz.func38 sV rfl rfl (by simp[Y7,B3,Aa.closed]) trivial λK o=>?_;have A:∀q,Z3 q (Z1 l)=Z1 l:=λq=>Z5 q _;have p:∀q,Z3 q (Z1 m)=Z1 m:=λq=>Z5 q _;have d:(Z1 l).length=l.length:=M6 l;have g:(Z1 m).length=m.length:=M6 m;by_cases a:l.length=m.length;rotate_left
 ·have t:¬l=m:=λe=>a (by rw[e]);rw[decide_eq_false t]at o;have w:¬((l.length:Nat):Int)=m.length:=by omega
  generalize Z1 l=R at *;generalize Z1 m=v at *;simp[d,g,a,w];exact Z6 o [] (by simp)
 have hg:∀(i x:Nat),l[i]?=some x->(Z1 l)[i]?=some [.int .i64 (x:Int)]:=λi x=>Ip;have s:∀(i x:Nat),m[i]?=some x->(Z1 m)[i]?=some [.int .i64 (x:Int)]:=λi x=>Ip;generalize Z1 l=R at *;generalize Z1 m=v at *;simp[d,g,a];refine M4 (α:=Nat) (λi=>[(5,.int .i64 i),(1,.Al v),(0,.Al R)]) (λ_=>⟨[],1⟩) (λi=>l.length-i) (λi=>i<=l.length/\l.take i=m.take i) 0 [] (by simp[A,p]) (by simp) ?_;intro i hi N z
 try simp only at hi z ⊢
 obtain⟨hi,y⟩:=hi;have hw:=Y0 ((i:Int)+1);by_cases c:i<l.length
 ·have b:i<m.length:=by omega
  have n:=hg i _ (gE c);have h:=s i _ (gE b);obtain⟨_,k⟩:=Y3 n;obtain⟨_,j⟩:=Y3 h;by_cases hx:l[i]=m[i]
  ·have r:=Zxc c b y hx;simp[c,b,d,g,a,n,k,h,j,hw,hx];exact z (i+1) [] _ _ (by omega) ⟨by omega,r⟩ (by simp[A,p])
  rw[decide_eq_false (Zzy c b hx)]at o;have u:¬((l[i]:Nat):Int)=(m[i]:Nat):=by omega
  simp[c,b,d,g,a,n,k,h,j,hw,hx,u];exact Z6 o [] (by simp)
 rw[decide_eq_true (Zx5 a c y)]at o;simp[c,d,g,<-a];exact Z6 o [] (by simp)
def Mi(F G:Nat)(x y:List Lt):Bool:=decide (F=G)&&(decide (CW F x x.length=CW G y y.length)&&(decide (X3 4 x=X3 4 y)&&decide (X3 4 (Bi x)=X3 4 (Bi y))))
theorem Z7o(F G:Nat)(x y:List Lt)(B:F<=40)(C:G<=40)(h:x.length<=400)(A:(Bi x).length<=400):Au prog 15 [HC F x,HC G y] (.bool (Mi F G x y)):=by
 refine JH hm Tryz.func15 sO rfl rfl (by simp[Y7,Z6c]) trivial λK i=>?_;have p:CW F x x.length≠[]:=λe=>by have:=KC F x x.length;rw[e]at this;simp at this
 have q:CW G y y.length≠[]:=λe=>by have:=KC G y y.length;rw[e]at this;simp at this
 have o:=rT (CW F x x.length) (CW G y y.length) (by rw[KC];omega) p q;have r:=Z5q (X3 4 x) (X3 4 y) (by have:=Zw5 x;omega);have s:=Z5q (X3 4 (Bi x)) (X3 4 (Bi y)) (by have:=Zw5 (Bi x);omega);have k:=Jb ((X3 4 x).map Bh);have m:=Jh ((X3 4 x).map Bh);have l:=Jb ((X3 4 (Bi x)).map Bh);have n:=Jh ((X3 4 (Bi x)).map Bh);have b:=Jb ((X3 4 y).map Bh);have d:=Jh ((X3 4 y).map Bh);have c:=Jb ((X3 4 (Bi y)).map Bh);have g:=Jh ((X3 4 (Bi y)).map Bh);unfold HC ZD;unfold Mi at i;generalize Bg ((X3 4 x).map Bh)=u at *;generalize Bg ((X3 4 (Bi x)).map Bh)=v at *;generalize Bg ((X3 4 y).map Bh)=w at *;generalize Bg ((X3 4 (Bi y)).map Bh)=z at *;generalize Z1 (CW F x x.length)=U at *;generalize Z1 (CW G y y.length)=V at *;generalize decide (CW F x x.length=CW G y y.length)=t at *;generalize decide (X3 4 x=X3 4 y)=t2 at *;generalize decide (X3 4 (Bi x)=X3 4 (Bi y))=D at *;by_cases a:F=G;rotate_left
 ·have j:¬((F:Nat):Int)=G:=by omega
  rw[decide_eq_false a,Bool.false_and]at i;simp[k,m,l,n,b,d,c,g,a,j];exact Z6 i [] (by simp)
 rw[decide_eq_true a,Bool.true_and]at i;subst a;simp[k,m,l,n,b,d,c,g];refine T0 o ?_;cases t with
 |false=>
  simp;exact Z6 i [] (by simp)
 |true=>
  simp;refine T0 r ?_;cases t2 with
  |false=>
   simp;exact Z6 i [] (by simp)
  |true=>
   simp;refine T0 s ?_;simp;exact Z6 i [] (by simp)
end Go.Ad
