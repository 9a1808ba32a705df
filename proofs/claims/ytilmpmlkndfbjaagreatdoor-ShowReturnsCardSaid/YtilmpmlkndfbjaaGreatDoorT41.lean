/- Part 41 -/
import Derived.Test.YtilmpmlkndfbjaaGreatDoorT40
set_option linter.all false
open List (map_nil map_cons map_append getD range flatMap_cons count_append count)
namespace Go.Ad
open Go.Plain
section
variable {ls:List Lt}
abbrev DM(ls:List Lt):Nat→Nat:=X4 ls (Z2 ls)
def Mc(ls:List Lt):Nat→Nat→List Nat
 | 0,_=>[]
 | k+1,x=>x :: Mc ls k (Z8 ls x)
theorem Zx4(ls:List Lt):∀(k x:Nat),Mc ls (k+1) x=Mc ls k x++[it (Z8 ls) k x]
 |0,_=>rfl
 |k+1,x=>by
  have:=Zx4 ls k (Z8 ls x);show x::Mc ls (k+1) (Z8 ls x)=x::Mc ls k (Z8 ls x)++[it (Z8 ls) (k+1) x];rw[this,KK];rfl
theorem Z5r:∀(a:List Nat) (e u j:Nat),Ku (DM ls) Av e a u->a.map Av++Mc ls j (Av u)=Mc ls (a.length+j) (Z8 ls e)
 |[],e,u,j,h=>by
  have h:u=DM ls e:=h;subst h;rw[map_nil,List.nil_append,List.length_nil,Nat.zero_add];rfl
 |o::os,e,u,j,h=>by
  have b:Av o=Z8 ls e:=by rw[h.1];rfl
  have:=Z5r os (Av o) u j h.2;rw[map_cons,List.cons_append,this,lC,Nat.succ_add,b];rfl
theorem iF:∀(ins:List Nat),ER (DM ls) Av ins->ins.reverse=Mc ls ins.length (P0 ins)/\it (Z8 ls) (ins.length-1) (P0 ins)=Gj ins
 |[y],_=>⟨rfl,rfl⟩
 |y::a::r,h=>by
  obtain⟨d,b⟩:=iF (a::r) h.2;have e:Z8 ls a=y:=by
   have:CX ls a=Av y:=h.1;unfold Z8;rw[this,K3]
  have c:it (Z8 ls) (a::r).length (P0 (a::r))=y:=by
   rw[lC]at b ⊢;show Z8 ls (it (Z8 ls) r.length (P0 (a::r)))=y;rw[show it (Z8 ls) r.length (P0 (a::r))=a from b,e]
  rw[Oq];refine⟨?_,c⟩;rw[List.reverse_cons,d,show (y::a::r).length=(a::r).length+1 from rfl,Zx4 ls (a::r).length,c]
structure Wu (ls:List Lt):Prop where
 w:Wv ls
 ne:∀ v,v<ls.length→(at' ls v).k=2→V4 ls v ls.length 0≠v∧(at' ls (V4 ls v ls.length 0)).i=(at' ls v).i
 un:∀ v x,v<ls.length→(at' ls v).k=2→x<ls.length→(at' ls x).k=2→(at' ls x).i=(at' ls v).i→x=v∨x=V4 ls v ls.length 0
theorem AH.wu{f:Int}(h:AH f ls)(c:ls≠[]):Wu ls:=⟨h.wv c,λ_ b a=>h.CK b a,λ_ _ b a d e hi=>h.uniq b a d e hi⟩
theorem Yfy(g:Wu ls){e:Nat}(z:e<2*ls.length)(f:(Ay ls e).k=2):(Mc ls 4 (Z8 ls e)).Nodup /\ ∀a,a∈Mc ls 4 (Z8 ls e)↔a<2*ls.length/\(Ay ls a).k=2/\(Ay ls a).i=(Ay ls e).i:=by
 obtain⟨v,b,d,rfl⟩:=L4 z;rw[K1 d]at f ⊢;obtain⟨j,y,F,G,H⟩:=g.w.Cp v d f;obtain⟨n1,n2⟩:=g.ne v d f;have A:=Mv g.w d f b;have B:=Kp g.w d f b;have s:Z8 ls (arr ls.length v !b)=arr ls.length (BY ls v) ((!b) != Cw ls v):=Mv g.w d f (!b);have C:Z8 ls (arr ls.length (BY ls v) ((!b) != Cw ls v))=arr ls.length v b:=by
  rw[<-s,Kp g.w d f,Bool.not_not]
 have e:Mc ls 4 (Z8 ls (arr ls.length v b))=[arr ls.length (BY ls v) (b != Cw ls v),arr ls.length v (!b),arr ls.length (BY ls v) ((!b) != Cw ls v),arr ls.length v b]:=by
  show [Z8 ls (arr ls.length v b),Z8 ls (Z8 ls (arr ls.length v b)),Z8 ls (Z8 ls (Z8 ls (arr ls.length v b))),Z8 ls (Z8 ls (Z8 ls (Z8 ls (arr ls.length v b))))]=_;rw[B,s,C,A]
 have q:BY ls v≠v:=n1;have o:∀c,(Ay ls (arr ls.length v c))=at' ls v:=λc=>K1 d c;have p:∀c,(Ay ls (arr ls.length (BY ls v) c))=at' ls (BY ls v):=λc=>K1 j c;rw[e];constructor
 ·have D:∀c c',arr ls.length (BY ls v) c≠arr ls.length v c':=λc c' e=>q (Jf j d e).1;have E:∀c c',arr ls.length v c≠arr ls.length (BY ls v) c':=λc c' e=>q (Jf d j e).1.symm;have c4:arr ls.length v (!b)≠arr ls.length v b:=λe=>by
   have:=(Jf d d e).2;revert this;cases b<;>simp
  grind
 intro a;constructor
 ·intro I;have l:(∃c,a=arr ls.length v c) \/ ∃c,a=arr ls.length (BY ls v) c:=by
   grind
  rcases l with⟨c,rfl⟩|⟨c,rfl⟩
  ·exact⟨(KL d c).1,by rw[o];exact f,by rw[o]⟩
  exact⟨(KL j c).1,by rw[p];exact y,by rw[p];exact n2⟩
 rintro⟨t,m,n⟩;obtain⟨u,c,r,rfl⟩:=L4 t;rw[K1 r]at m n;rcases g.un v u d f r m n with rfl|rfl
 ·by_cases h:c=b
  ·subst h;simp
  have:c = !b:=by revert h;cases c<;>cases b<;>simp
  subst this;simp
 by_cases h:c=(b != Cw ls v)
 ·subst h;simp
 have:c=((!b) != Cw ls v):=by revert h;cases c<;>cases b<;>cases Cw ls v<;>simp
 subst this;simp
inductive Kw (ls:List Lt):List Nat→List Int→List Nat→List Int→Prop
 | cap (l r:List Nat) (x y:Nat) (dn:List Int):Av x=y→Kw ls (l++x :: y :: r) dn (l++r) dn
 | DH (l ins outs r:List Nat) (dn:List Int) (id:Int):id∉dn→ER (DM ls) Av ins→Ku (DM ls) Av (Gj ins) outs (Av (P0 ins))→ins.length+outs.length=4 →
  (∀ d,d∈ins→d<2*ls.length∧(Ay ls d).k=2∧(Ay ls d).i=id)→Kw ls (l++ins++r) dn (l++outs++r) (dn++[id])
theorem lV{T bk:Nat->Nat}{ins:List Nat}(h:ER T bk ins):ins≠[]:=λe=>by subst e;exact h
theorem star{ins f:List Nat}{id:Int}(u:Wu ls)(o:ER (DM ls) Av ins)(t:Ku (DM ls) Av (Gj ins) f (Av (P0 ins)))(s:ins.length+f.length=4)
 (hi:∀d,d∈ins->d<2*ls.length/\(Ay ls d).k=2/\(Ay ls d).i=id) :
 (f++ins.map Av).Nodup /\ ∀d,d∈f++ins.map Av↔d<2*ls.length/\(Ay ls (Av d)).k=2/\(Ay ls (Av d)).i=id:=by
 obtain⟨p,q,r⟩:=hi _ (aN (lV o));obtain⟨l,j⟩:=Yfy u p q;rw[r]at j;have m:=Z5r f (Gj ins) _ ins.length t;rw[K3,<-(iF ins o).1,Nat.add_comm,s]at m;rw[<-m]at l j;have n:(f++ins.map Av).map Av=f.map Av++ins:=by
  rw[map_append,List.map_map]
  congr 1
  conv=>rhs;rw[<-List.map_id ins]
  exact List.map_congr_left λx _=>K3 x
 have g:((f++ins.map Av).map Av).Perm (f.map Av++ins.reverse):=by
  grind
 constructor
 ·have:=g.nodup_iff.2 l;unfold List.Nodup at this;rw[List.pairwise_map]at this;exact this.imp λh e=>h (by rw[e])
 intro d;have hm:d∈f++ins.map Av↔Av d∈(f++ins.map Av).map Av:=by
  rw[mM];exact⟨λh=>⟨d,h,rfl⟩,λ⟨x,h,e⟩=>by
   have:x=d:=by rw[<-K3 x,e,K3]
   exact this ▸ h⟩
 rw[hm,g.mem_iff,j];constructor
 ·rintro⟨a,b,c⟩;have:=JS a;rw[K3]at this;exact⟨this,b,c⟩
 rintro⟨a,b,c⟩;exact⟨JS a,b,c⟩
structure Dr (ls:List Lt) (Mb:Nat→Prop) (A:Nat) (d0:List Int) (front:List Nat) (done:List Int) (CR:List Nat) (c:Nat):Prop where
 gT:Jz (DM ls) Av A front CR c
 nd:CR.Nodup
 GH:∀ d,d∈CR↔Mb d∨(d<2*ls.length∧(Ay ls (Av d)).k=2∧(Ay ls (Av d)).i∈done∧(Ay ls (Av d)).i∉d0)
 fd:∀ d,d∈front→d∈CR∧d<2*ls.length
 jn:∀ d,d∈CR→d<2*ls.length→d∈front∨Av d∈CR
 cnt:2*c+front.length+2*d0.length=Z0 ls+2*done.length
 sub:∀ z,z∈d0→z∈done
 gI:done.Nodup
 ids:∀ z,z∈done→z∈d0 ∨ ∃ v,v<ls.length∧(at' ls v).k=2∧(at' ls v).i=z
theorem Dr.step(S:Wu ls){Mb:Nat->Prop}(V:∀d,Mb d->d<2*ls.length->(Ay ls (Av d)).k≠2){A:Nat}{v:List Int}{front E:List Nat}{done i:List Int}{D:List Nat}{c:Nat}
 (h:Dr ls Mb A v front done D c) (Q:Kw ls front done E i):∃o c',Dr ls Mb A v E i o c':=by
 cases Q with
 |cap l r x y _ n=>
  have t:Av y=x:=by rw[<-n,K3]
  have C:x∈l++x::y::r:=by simp
  have T:y∈l++x::y::r:=by simp
  refine⟨D,c+1,h.gT.cap n t,h.nd,h.GH,λd g=>h.fd d ?_,λd g m=>?_,?_,h.sub,h.gI,h.ids⟩
  ·grind
  ·rcases h.jn d g m with f|f
   ·simp only[List.mem_append,mC]at f;rcases f with f|f|f|f
    ·exact .inl (by simp[f])
    ·subst f;rw[n];exact .inr (h.fd _ T).1
    ·subst f;rw[t];exact .inr (h.fd _ C).1
    grind
   exact .inr f
  have:=h.cnt;grind
 |DH l ins J r _ id w u s q p=>
  obtain⟨U,K⟩:=star S u s q p;have B:=lV u;have I:0<ins.length:=by grind
  have H:id∉v:=λhm=>w (h.sub _ hm);refine⟨_,_,h.gT.DH u s,?_,λd=>?_,λd g=>?_,λd g m=>?_,?_,λz j=>List.mem_append_left _ (h.sub z j),?_,λz j=>?_⟩
  ·rw[List.nodup_append];refine⟨h.nd,U,λa F b G e=>?_⟩;subst e;obtain⟨L,M,X⟩:=(K a).1 G;rcases (h.GH a).1 F with f|⟨_,_,Y,_⟩
   ·exact V a f L M
   grind
  ·rw[List.mem_append,h.GH,K];grind
  ·rcases List.mem_append.1 g with g|g
   ·rcases List.mem_append.1 g with g|g
    ·have:=h.fd d (by simp[g]);exact⟨List.mem_append_left _ this.1,this.2⟩
    grind
   have:=h.fd d (by simp[g]);grind
  ·rcases List.mem_append.1 g with g|g
   ·rcases h.jn d g m with f|f
    ·rcases List.mem_append.1 f with f|f
     ·rcases List.mem_append.1 f with f|f
      ·exact .inl (by simp[f])
      exact .inr (List.mem_append_right _ (List.mem_append_right _ (mM.2 ⟨d,f,rfl⟩)))
     exact .inl (by simp[f])
    grind
   rcases List.mem_append.1 g with g|g
   ·grind
   obtain⟨x,C,rfl⟩:=mM.1 g;rw[K3];exact .inr (List.mem_append_left _ (h.fd x (by simp[C])).1)
  ·have:=h.cnt;grind
  ·rw[List.nodup_append];refine⟨h.gI,by simp,λa F b G e=>?_⟩;grind
  rcases List.mem_append.1 j with j|j
  ·exact h.ids z j
  rw[List.mem_singleton]at j;subst j;obtain⟨N,O,P⟩:=p _ (aN B);exact .inr ⟨_,Lg N,O,P⟩
theorem nF{id:Int}{front:List Nat}:∀(k j:Nat),j<=front.length->k<=D0 ls id front j->j+k<=front.length /\ ∀i,i<k->okF ls id front (j+i)=true
 |0,j,b,_=>⟨by omega,λi hi=>by omega⟩
 |k+1,j,b,h=>by
  by_cases a:j<front.length/\okF ls id front j=true
  ·rw[Qu a.1 a.2]at h;obtain⟨c,d⟩:=nF (id:=id) (front:=front) k (j+1) (by omega) (by omega);refine⟨by omega,λi hi=>?_⟩;cases i with
   |zero=>exact a.2
   |succ i=>
    grind
  rw[JP a]at h;omega
theorem Zyi{l:List Nat}{i:Nat}(h:i+1<l.length):l=l.take i++l.getD i 0::l.getD (i+1) 0::l.drop (i+2):=by
 conv=>lhs;rw[<-List.take_append_drop i l]
 rw[List.drop_eq_getElem_cons (by omega),List.drop_eq_getElem_cons h];grind
theorem qm{l:List Nat}{a n:Nat}:l=l.take a++(l.drop a).take n++l.drop (a+n):=by
 rw[List.append_assoc,<-List.drop_drop,List.take_append_drop,List.take_append_drop]
theorem zX:∀(l:List Nat),l≠[]->(∀i,i+1<l.length->DM ls (l.getD (i+1) 0)=Av (l.getD i 0))->ER (DM ls) Av l
 |[],h,_=>absurd rfl h
 |[_],_,_=>trivial
 |x::y::r,_,h=>⟨h 0 (by simp),zX (y::r) (by simp) λi hi=>h (i+1) (by grind)⟩
theorem zZ:∀(k x:Nat),Ku (DM ls) Av x (U8 ls x k) (Av (it (Z8 ls) (k+1) x))
 |0,x=>by
  show Av (Z8 ls x)=DM ls x;unfold Z8;rw[K3];rfl
 |k+1,x=>by
  refine⟨rfl,?_⟩;have:=zZ k (Z8 ls x);rw[KK]at this;exact this
theorem jQ(G:Wu ls){front f:List Nat}{done dn:List Int}{r:Rw}(u:∀d,d∈front->d<2*ls.length)(N:front≠[])(h:O5 4 ls front done=some (r,f,dn)):Kw ls front done f dn:=by
 have B:0<front.length:=by grind
 unfold O5 at h;split at h
 ·rename_i F;simp only[oI,AT]at h;obtain⟨_,rfl,rfl⟩:=h;have l:=iD (Pj front) (front.length-1) 0 (by
   have:L7 front<front.length-1:=F;unfold L7 at this;omega)
  have y:front.getD (L7 front) 0=Av (front.getD (L7 front+1) 0):=of_decide_eq_true l;have q:Av (front.getD (L7 front) 0)=front.getD (L7 front+1) 0:=by rw[y,K3]
  have z:=Kw.cap (ls:=ls) (front.take (L7 front)) (front.drop (L7 front+2)) _ _ done q;rw[<-Zyi (by omega)]at z;exact z
 split at h
 ·cases h
 rename_i E;simp only[oI,AT]at h;obtain⟨_,rfl,rfl⟩:=h;rcases QE (U6 4 ls done front) front.length with⟨l,_,_⟩|⟨l,y,q⟩
 ·exact absurd l E
 obtain⟨O,H,P⟩:=Um (c:=4) (ls:=ls) (done:=done) (front:=front) (i:=(W1 (U6 4 ls done front) front.length).1) (by rw[q];exact l);generalize (W1 (U6 4 ls done front) front.length).1=a at *;generalize (W1 (U6 4 ls done front) front.length).2=n at *;have C:n<=1+D0 ls (Ay ls (front.getD a 0)).i front (a+1)/\n<=4:=by
  unfold U6 at q;grind
 obtain⟨M,D⟩:=nF (ls:=ls) (id:=(Ay ls (front.getD a 0)).i) (front:=front) (n-1) (a+1) (by omega) (by omega);have b:((front.drop a).take n).length=n:=by grind
 have g:∀i,i<n->((front.drop a).take n).getD i 0=front.getD (a+i) 0:=λi hi=>by
  grind
 have o:(front.drop a).take n≠[]:=λe=>by grind
 have t:Gj ((front.drop a).take n)=front.getD a 0:=by
  have:=g 0 l;rw[Nat.add_zero]at this;rw[<-this];unfold Gj;cases (front.drop a).take n<;>rfl
 have v:∀i,i+1<n->(Ay ls (front.getD (a+(i+1)) 0)).k=2/\(Ay ls (front.getD (a+(i+1)) 0)).i=(Ay ls (front.getD a 0)).i/\CX ls (front.getD (a+(i+1)) 0)=Av (front.getD (a+i) 0):=λi hi=>by
  have:=D i (by omega);simp only[okF,bA,decide_eq_true_eq]at this;grind
 have j:ER (DM ls) Av ((front.drop a).take n):=zX _ o λi hi=>by
  rw[b]at hi;rw[g _ hi,g _ (by omega)];exact(v i hi).2.2
 have m:∀d,d∈(front.drop a).take n->d<2*ls.length/\(Ay ls d).k=2/\(Ay ls d).i=(Ay ls (front.getD a 0)).i:=λd A=>by
  refine⟨u d (List.mem_of_mem_drop (List.mem_of_mem_take A)),?_⟩;obtain⟨i,hi,e⟩:=List.getElem_of_mem A;rw[b]at hi;have s:d=front.getD (a+i) 0:=by
   grind
  cases i with
  |zero=>grind
  |succ i=>grind
 obtain⟨I,J,Q⟩:=m _ (ZN o);have p:Ku (DM ls) Av (Gj ((front.drop a).take n)) (U8 ls (front.getD a 0) (4-n)) (Av (P0 ((front.drop a).take n))):=by
  have K:=zZ (ls:=ls) (4-n) (front.getD a 0);have s:=(iF _ j).2;rw[b,t]at s;have L:it (Z8 ls) (4-n+1) (front.getD a 0)=P0 ((front.drop a).take n):=by
   rw[<-s,<-Sq,show 4-n+1+(n-1)=4 by omega];exact Qd G.w I J
  grind
 have:=Kw.DH (ls:=ls) (front.take a) ((front.drop a).take n) (U8 ls (front.getD a 0) (4-n)) (front.drop (a+n)) done (Ay ls (front.getD a 0)).i H j p (by rw[b,VY];omega) m;rw[<-qm]at this;exact this
theorem zo{front:List Nat}{done:List Int}(s:front≠[])(h:O5 4 ls front done=none)(u:∀d,d∈front->(Ay ls d).k=2->(Ay ls d).i≠0) :
 (∀i,i+1<front.length->front.getD (i+1) 0≠Av (front.getD i 0)) /\ ∀d,d∈front->(Ay ls d).k=2->(Ay ls d).i∈done:=by
 have c:0<front.length:=by grind
 unfold O5 at h;split at h
 ·cases h
 rename_i l;split at h
 ·rename_i t;constructor
  ·intro i hi e;have key:∀k j,j<=i->i<j+k->F2 (Pj front) k j<=i:=by
    intro k;induction k with
    |zero=>intro j b g;omega
    |succ k q=>
     intro j b g;simp only[F2];split
     ·exact b
     rename_i p;refine q (j+1) ?_ (by omega);rcases lG j i with a|a
     ·exact a
     have:j=i:=by omega
     subst this;exfalso;apply p;unfold Pj;rw[e,K3];simp
   have:=key (front.length-1) 0 (Nat.zero_le _) (by omega);apply l;show F2 (Pj front) (front.length-1) 0<_;omega
  intro d m n;rcases QE (U6 4 ls done front) front.length with⟨_,_,a⟩|⟨b,_,_⟩
  ·obtain⟨i,hi,e⟩:=List.getElem_of_mem m;have f:front.getD i 0=d:=by rw[getD,gE hi,e];rfl
   have:=a i hi;unfold U6 at this;rw[f]at this;refine Classical.byContradiction λo=>?_;have r:It ls done d=(Ay ls d).i:=by unfold It;rw[iP ⟨n,o⟩]
   grind
  omega
 cases h
def A0(ls:List Lt):Nat→List Nat→List Int→List Nat×List Int
 | 0,f,d=>(f,d)
 | k+1,f,d=>if f=[]then (f,d)else match O5 4 ls f d with
  | none=>(f,d)
  | some (_,f',d')=>A0 ls k f' d'
theorem eV{P:List Nat->List Int->Prop}(e:∀f d r b a,P f d->f≠[]->O5 4 ls f d=some (r,b,a)->P b a):∀k f d,P f d->P (A0 ls k f d).1 (A0 ls k f d).2
 |0,_,_,h=>h
 |k+1,f,d,h=>by
  rw[A0];by_cases c:f=[]
  ·rw[iP c];exact h
  rw[iN c];cases g:O5 4 ls f d with
  |none=>exact h
  |some x=>
   obtain⟨r,b,a⟩:=x;exact eV e k b a (e f d r b a h c g)
theorem nV{P:List Nat->List Int->Prop}(g:∀f d r b a,P f d->f≠[]->O5 4 ls f d=some (r,b,a)->P b a)(i:∀f d,P f d -> ∀x,x∈f->x<2*ls.length):∀k f d,P f d->En ls f d<k ->
 (A0 ls k f d).1=[]\/O5 4 ls (A0 ls k f d).1 (A0 ls k f d).2=none
 |0,_,_,_,h=>absurd h (Nat.not_lt_zero _)
 |k+1,f,d,h,hm=>by
  rw[A0];by_cases c:f=[]
  ·grind
  rw[iN c];cases e:O5 4 ls f d with
  |none=>exact .inr e
  |some x=>
   obtain⟨r,b,a⟩:=x;have:=jB (i f d h) c e;exact nV g i k b a (g f d r b a h c e) (by omega)
end
abbrev Ro:=Int×Int×Int×Bool
abbrev Nd:=Bool×Bool
def DW(e n:Nat):List Nat:=(range (4 - n)).map fun k=>e+(k+1)
def ED(front:List Nat)(a e n:Nat):List (Nat×Nat):=(range n).map fun k=>(front.getD (a+k) 0,e+(4 - k) % 4)
def DS(f:Nat)(r:Ro):Prop:=r.1=1∧0≤r.2.1∧r.2.1<(f:Int) - 1∧r.2.2.1=0∧r.2.2.2=false
def Ey(f:Nat)(r:Ro):Prop:=r.1=2∧1≤r.2.2.1∧r.2.2.1≤4∧0≤r.2.1∧r.2.1≤(f:Int) - r.2.2.1
instance (f:Nat) (r:Ro):Decidable (DS f r):=by unfold DS; exact inferInstance
instance (f:Nat) (r:Ro):Decidable (Ey f r):=by unfold Ey; exact inferInstance
def U1(m:Nat)(below:Bool):List Ro→List Nat→List (Nat×Nat)→List Nd→Bool×List (Nat×Nat)×List Nd
 | [],front,L,X=>(decide (front=[]),L,X)
 | r :: rs,front,L,X=>
  if DS front.length r then U1 m below rs (front.take r.2.1.toNat++front.drop (r.2.1.toNat+2)) (L++[(front.getD r.2.1.toNat 0,front.getD (r.2.1.toNat+1) 0)]) X
  else if Ey front.length r then
   U1 m below rs (front.take r.2.1.toNat++DW (2*m+4*X.length) r.2.2.1.toNat++front.drop (r.2.1.toNat+r.2.2.1.toNat)) (L++ED front r.2.1.toNat (2*m+4*X.length) r.2.2.1.toNat) (X++[(r.2.2.2,below)])
  else (false,L,X)
def O1(L:List (Nat×Nat)):List Nat:=L.flatMap fun p=>[p.1,p.2]
def Eb(L:List (Nat×Nat))(e:Nat):Nat:=match L.find? (fun p=>p.1 == e||p.2 == e)with
 | some p=>if p.1=e then p.2 else p.1
 | none=>e
theorem BA{L:List (Nat×Nat)}{e:Nat}:e∈O1 L ↔ ∃p,p∈L/\(e=p.1\/e=p.2):=by
 unfold O1;grind
theorem lI{L:List (Nat×Nat)}(b:(O1 L).Nodup){p:Nat×Nat}(a:p∈L):Eb L p.1=p.2/\Eb L p.2=p.1:=by
 induction L with
 |nil=>cases a
 |cons q r f=>
  have e:O1 (q::r)=q.1::q.2::O1 r:=rfl;rw[e,List.nodup_cons,List.nodup_cons]at b;obtain⟨n1,n2,g⟩:=b;simp only[mC,not_or]at n1;unfold Eb;rcases mC.1 a with rfl|a
  ·grind
  have h:p.1≠q.1:=λe=>n1.2 (BA.2 ⟨p,a,.inl e.symm⟩);have i:p.1≠q.2:=λe=>n2 (BA.2 ⟨p,a,.inl e.symm⟩);have j:p.2≠q.1:=λe=>n1.2 (BA.2 ⟨p,a,.inr e.symm⟩);have k:p.2≠q.2:=λe=>n2 (BA.2 ⟨p,a,.inr e.symm⟩);obtain⟨c,d⟩:=f g a;unfold Eb at c d;grind
theorem Z9y{L:List (Nat×Nat)}(j:(O1 L).Nodup){e:Nat}(i:e∈O1 L):Eb L e∈O1 L/\Eb L (Eb L e)=e/\Eb L e≠e:=by
 obtain⟨p,d,h⟩:=BA.1 i;obtain⟨f,g⟩:=lI j d;have c:p.1≠p.2:=λe=>by
  have k:List.Sublist [p.1,p.2] (O1 L):=by
   obtain⟨a,b,rfl⟩:=List.append_of_mem d;unfold O1;rw[List.flatMap_append,flatMap_cons];exact(List.sublist_append_left _ _).trans (List.sublist_append_right _ _)
  grind
 rcases h with rfl|rfl
 ·rw[f,g];exact⟨BA.2 ⟨p,d,.inr rfl⟩,rfl,c.symm⟩
 rw[g,f];exact⟨BA.2 ⟨p,d,.inl rfl⟩,rfl,c⟩
def Fw(m:Nat)(front Cp:List Nat)(L:List (Nat×Nat))(X:List Nd):Prop:=(front++Cp++O1 L).Perm (range (2*m+4*X.length))
theorem jY(L M:List (Nat×Nat)):O1 (L++M)=O1 L++O1 M:=List.flatMap_append
theorem Ybw{front:List Nat}{a e n:Nat}(f:a+n<=front.length):(O1 (ED front a e n)).Perm ((front.drop a).take n++(range n).map λk=>e+(4-k)%4):=by
 induction n with
 |zero=>exact List.Perm.refl _
 |succ n b=>
  have b:=b (by omega);have c:ED front a e (n+1)=ED front a e n++[(front.getD (a+n) 0,e+(4-n)%4)]:=by
   unfold ED;rw[List.range_succ,map_append];rfl
  have d:(front.drop a).take (n+1)=(front.drop a).take n++[front.getD (a+n) 0]:=by
   rw[List.take_add_one,List.getElem?_drop,getD,gE (by omega)];rfl
  rw[c,jY,d,List.range_succ,map_append];rw[List.perm_iff_count]at b ⊢;intro z;have:=b z;simp only[O1,flatMap_cons,List.flatMap_nil,count_append,List.count_cons,List.count_nil,map_cons,map_nil,List.append_nil]at this ⊢;omega
theorem Yck(e n:Nat)(a:1<=n)(b:n<=4):(DW e n++(range n).map λk=>e+(4-k)%4).Perm [e,e+1,e+2,e+3]:=by
 have:n=1\/n=2\/n=3\/n=4:=by omega
 rcases this with rfl|rfl|rfl|rfl
 ·show [e+1,e+2,e+3,e+0].Perm _;grind
 ·show [e+1,e+2,e+0,e+3].Perm _;grind
 ·show [e+1,e+0,e+3,e+2].Perm _;grind
 show [e+0,e+3,e+2,e+1].Perm _;grind
theorem Ygv(k:Nat):(range (k+4)).Perm (range k++[k,k+1,k+2,k+3]):=by
 grind
theorem Fw.cap{m:Nat}{front Cp:List Nat}{L:List (Nat×Nat)}{X:List Nd}(h:Fw m front Cp L X){i:Nat}(hi:i+1<front.length):Fw m (front.take i++front.drop (i+2)) Cp (L++[(front.getD i 0,front.getD (i+1) 0)]) X:=by
 unfold Fw at *;refine List.Perm.trans ?_ h
 conv=>rhs;rw[Zyi hi]
 rw[jY,List.perm_iff_count];intro a;simp only[O1,flatMap_cons,List.flatMap_nil,count_append,List.count_cons,List.count_nil,List.append_nil];omega
theorem Fw.DH{m:Nat}{front Cp:List Nat}{L:List (Nat×Nat)}{X:List Nd}(h:Fw m front Cp L X){a n:Nat}(d:1<=n)(f:n<=4)(g:a+n<=front.length)(x:Nd) :
 Fw m (front.take a++DW (2*m+4*X.length) n++front.drop (a+n)) Cp (L++ED front a (2*m+4*X.length) n) (X++[x]):=by
 unfold Fw at *;have e:2*m+4*(X++[x]).length=2*m+4*X.length+4:=by simp;omega
 rw[e];refine List.Perm.trans ?_ (Ygv _).symm;refine List.Perm.trans ?_ (h.append_right _);have b:=Yck (2*m+4*X.length) n d f;have c:=Ybw (e:=2*m+4*X.length) g;rw[jY];rw[List.perm_iff_count]at b c ⊢;intro z;have b:=b z;have c:=c z;have i:count z front=count z (front.take a)+(count z ((front.drop a).take n)+count z (front.drop (a+n))):=by
  conv=>lhs;rw[qm (l:=front) (a:=a) (n:=n)]
  simp only[count_append];omega
 grind
theorem Wl{m:Nat}{below:Bool}{Cp:List Nat}:∀(c:List Ro) (front:List Nat) (L:List (Nat×Nat)) (X:List Nd) (a:List (Nat×Nat)) (b:List Nd),Fw m front Cp L X->U1 m below c front L X=(true,a,b) ->
 Fw m [] Cp a b/\(∃M,a=L++M) /\ ∃Y,b=X++Y /\ ∀y,y∈Y->y.2=below
 |[],front,L,X,a,b,d,h=>by
  simp only[U1,AT,decide_eq_true_eq]at h;simp_all
 |r::c,front,L,X,a,b,d,h=>by
  simp only[U1]at h;split at h
  ·rename_i e;obtain⟨_,j,k,_,_⟩:=e;obtain⟨f,⟨M,g⟩,i⟩:=Wl c _ _ _ _ _ (d.cap (by omega)) h;grind
  split at h
  ·rename_i e;obtain⟨_,j,k,c4,o⟩:=e;obtain⟨f,⟨M,g⟩,Y,i,l⟩:=Wl c _ _ _ _ _ (d.DH (n:=r.2.2.1.toNat) (by omega) (by omega) (by omega) _) h;grind
  cases h
end Go.Ad
namespace Go.AE
open Go.RowKit
def jU:Aa→Bool
 | .int _ _=>true
 | _=>false
variable {P:Program}
theorem BR.num{Φ d:Ap}{ρ ρ':AI}{k:Nat}{rows:List (List Aa)}{l:Loc}{o:Obj}(q:(rows.all λrow=>row.all jU)=true)(h:BR Φ ρ (.cells k rows) l o):BR d ρ' (.cells k rows) l o:=by
 cases h with
 |cells _ _ _ c e m p n b f=>
  refine .cells k rows l c e m p n ⟨b.1,λi row j x hi a=>?_⟩ f;obtain⟨v,r,s,t⟩:=b.2 i row j x hi a;refine⟨v,r,s,?_⟩;have g:=List.all_eq_true.1 (List.all_eq_true.1 q row (List.mem_of_getElem? hi)) x (List.mem_of_getElem? a);cases x<;>first|(cases g;done)|skip
  cases t;exact .int _ _
theorem UO{g:FuncId}{Bj args:List Aa}{m:Ac}{len nx n L:Nat}{rows:List (List Aa)}{x:List Nat}{K:Aa->Option Af->Prop}(S:List Nat)(ha:args.map (DP (Ig m.get x) S)=Bj)(ac:Y7 Bj=true)
 (hs:(rows.all λrow=>row.all jU)=true) (h:Bo P g Bj ⟨[],1⟩ λr sm=>r=.sl 1 0 len/\sm=⟨[(1,.cells L rows)],nx⟩) (hK:K (.sl n 0 len) (some (.cells L rows))):DC P g args n x m K:=by
 refine⟨_,some (.cells L rows),?_,hK⟩;show Aw P g args (m.mem.less x) [n] λr m'=>r=.sl n 0 len/\m'=(m.mem.less x).set n (.cells L rows);have eG:(m.mem.less x).get=Ig m.get x:=by
  funext c
  unfold Ig;show(if c∈x then none else m.get c)=_;by_cases J:c∈x
  ·rw[iP J,Bu.2 J];rfl
  rw[iN J];cases ae:V1 c x with
  |false=>rfl
  |true=>exact absurd (Bu.1 ae) J
 refine⟨h.1,λW Φ ρ vs w z p BE=>?_⟩;obtain⟨V,ag⟩:=BE n (List.mem_singleton.2 rfl);obtain⟨Bs,f0,f1,f2,f3,f4⟩:=Sg S z;rw[eG]at f4;have ab:RL Bs ρ Bj vs:=by
  refine⟨by rw[p.1,<-ha,lM],λi x v H hv=>?_⟩;rw[<-ha,gM]at H;cases k:args[i]? with
  |none=>rw[k]at H;cases H
  |some y=>
   rw[k]at H;injection H with H
   subst H;exact f4 _ _ (p.2 i y v k hv)
 refine(h.2 ⟨w,λ_=>none,Bs⟩ Bs (λ_=>none) vs w ⟨⟨Below.refl _ _,λB o hB=>(by cases hB)⟩,f1,λb y k=>(by cases k),λb b' y y' l l' h1=>(by cases h1),λb l t=>(by cases t),λB c hB=>.inl hB⟩
  (ab.closed ac) (λb hb=>by simp at hb)).mono λe w' Q=>?_
 obtain⟨u,r,m1,Am,d,e1,hE,hk,G,hR,hn,sm,rfl,rfl,rfl⟩:=Q;obtain⟨l1,o1,p1,Y,p3,p4,p5⟩:=G.live 1 (.cells L rows) rfl;have X:=z.below G.base.below;have C:∀b l,ρ b=some l->(if b=n then d 1 else ρ b)=some l:=λb l t=>by
  rw[iN]
  ·exact t
  rintro rfl;rw[V]at t;cases t
 have N:Ext Φ ρ Φ (λb=>if b=n then d 1 else ρ b):=⟨λ_ _ h=>h,C⟩;have q:∀b y,(m.mem.less x).get b=some y->b≠n /\ ∃l o,ρ b=some l/\W.Cu l.blk/\Φ l.blk=none/\w'.heap[l.blk]?=some o/\l.blk<w.heap.size/\BR Φ ρ y l o:=by
  intro b y k;obtain⟨l,o,A,E,g3,Z,g5⟩:=z.live b y k;have U:=D9 Z;refine⟨(λe=>by rw[e,V]at A;cases A),l,o,A,E,g3,?_,U,g5⟩;rw[G.base.below.block _ U];exact Z
 refine⟨u,.sl n 0 len,(m.mem.less x).set n (.cells L rows),Φ,λb=>if b=n then d 1 else ρ b,e1,N,λb hb D h0=>?_,⟨X.base,X.AX,λb y k=>?_,λb b' y y' l l' A E g3 Z Q=>?_,λb l t=>?_,z.BH⟩,?_,lR _,rfl,rfl⟩
 ·show(if b=n then d 1 else ρ b)=none;rw[iN (λe=>D (by rw[e];exact List.mem_singleton.2 rfl))];exact h0
 ·simp only[Mem.AB]at k;by_cases F:b=n
  ·rw[iP F]at k;injection k with k
   subst k;refine⟨l1,o1,by show(if b=n then d 1 else ρ b)=some l1;rw[iP F];exact p1,⟨Nat.le_trans z.base.below.size Y.1,?_⟩,?_,p4,p5.num hs⟩
   ·cases hg:W.g l1.blk with
    |none=>rfl
    |some o=>exact absurd (D9 (z.base.Ci _ _ hg)) (Nat.not_lt.2 Y.1)
   cases hp:Φ l1.blk with
   |none=>rfl
   |some c=>
    obtain⟨e,fz,hb⟩:=z.AX _ _ hp;exact absurd (D9 hb) (Nat.not_lt.2 Y.1)
  rw[iN F]at k;obtain⟨_,l,o,s,q2,q3,q4,M,q6⟩:=q b y k;exact⟨l,o,C _ _ s,q2,q3,q4,q6.ext N⟩
 ·have j:(if b=n then d 1 else ρ b)=some l:=g3;have f:(if b'=n then d 1 else ρ b')=some l':=Z;simp only[Mem.AB]at A E;by_cases I:b=n
  ·by_cases D:b'=n
   ·rw[I,D]
   rw[iN D]at E f;rw[iP I,p1]at j;injection j with j
   obtain⟨_,l0,o,s,q2,q3,q4,M,q6⟩:=q b' y' E;rw[f]at s;injection s with s
   rw[<-s,<-Q,<-j]at M;exact absurd M (Nat.not_lt.2 Y.1)
  rw[iN I]at A j;obtain⟨_,l0,o,s,q2,q3,q4,M,q6⟩:=q b y A;rw[j]at s;injection s with s
  by_cases D:b'=n
  ·rw[iP D,p1]at f;injection f with f
   rw[<-s,Q,<-f]at M;exact absurd M (Nat.not_lt.2 Y.1)
  rw[iN D]at E f;exact z.inj b b' y y' l l' A E j f Q
 ·have T:(if b=n then d 1 else ρ b)=some l:=t;show b<m.next;by_cases I:b=n
  ·rw[I];exact ag
  rw[iN I]at T;exact z.fresh b l T
 have aa:R Am d (.sl 1 0 len) u:=hR;cases aa with
 |sl _ _ _ a cap l t ad af J O=>
  have:(if n=n then d 1 else ρ n)=some l:=by rw[iP rfl];exact t
  exact .sl n 0 len a cap l this ad af J O
end Go.AE
namespace Go.Ad
open Go Go.AE Go.Proofs Go.Plain
theorem Zzj:Au Tryz.prog 8 [] (.bool true):=xS
theorem qK(ls:List Lt):∀k front done,(Kf 4 ls k front done).length<=k
 |0,_,_=>by simp[Kf]
 |k+1,front,done=>by
  rw[Kf];split
  ·simp
  split
  ·simp
  simp only[lC];have:=qK ls k (by assumption) (by assumption);omega
theorem Zw5(ls:List Lt):(X3 4 ls).length<=4*ls.length+1:=by
 have a:=qK ls (En ls (Y4 ls) []+1) (Y4 ls) [];have b:Z4 (λl=>AO l && !([]:List Int).contains l.i) ls<=ls.length:=Ib;have c:Z0 ls<=ls.length:=Ib;unfold X3;unfold En Y4 at *;rw[lM,Q7]at *;omega
end Go.Ad
