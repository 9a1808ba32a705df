/- Part 43 -/
import Derived.Test.YtilmpmlkndfbjaaGreatDoorT42
set_option linter.all false
namespace Go.Ad
open Go.Plain
section
variable {T T' bk θ:Nat→Nat} {Ar:Nat→Prop}
theorem yV:∀(l:List Nat) (e v w:Nat),Ku T bk e l v->w=T (bk v)->Ku T bk e (l++[v]) w
 |[],_,_,_,h,a=>⟨h,a⟩
 |_::os,_,_,_,h,a=>⟨h.1,yV os _ _ _ h.2 a⟩
theorem vj:∀(l:List Nat) (x:Nat),ER T bk l->T x=bk (P0 l)->ER T bk (l++[x])
 |[_],_,_,h=>⟨h,trivial⟩
 |_::b::r,x,h,a=>⟨h.1,vj (b::r) x h.2 (by rw[Oq]at a;exact a)⟩
theorem yb:∀(l:List Nat) (x:Nat),P0 (l++[x])=x
 |[],_=>rfl
 |[_],_=>rfl
 |_::y::r,x=>by
  show P0 (_::(y::r++[x]))=x;rw[show ∀a,P0 (a::(y::r++[x]))=P0 (y::r++[x]) from λa=>Oq a y (r++[x])];exact yb (y::r) x
theorem Yf9{l:List Nat}(h:l≠[])(x:Nat):Gj (l++[x])=Gj l:=by
 cases l with
 |nil=>exact absurd rfl h
 |cons a r=>rfl
variable (hT:∀ d,Ar d→T (bk (θ (T' d)))=bk (θ d)) (hA:∀ d,Ar d→Ar (bk (T' d))) (gL:∀ d,θ (bk d)=bk (θ d)) (hb:∀ d,bk (bk d)=d)
include hT gL hb
include hA in
theorem zC:∀(a:List Nat) (e u:Nat),Ar e->Ku T' bk e a u->Ku T bk (θ (bk u)) (a.map θ).reverse (bk (θ e))
 |[],e,u,b,h=>by
  have h:u=T' e:=h;subst h;show bk (θ e)=T (θ (bk (T' e)));rw[gL,hT e b]
 |o::os,e,u,b,h=>by
  have d:=h.1;subst d;have:=zC os _ u (hA e b) h.2;have c:bk (θ (bk (T' e)))=θ (T' e):=by rw[gL,hb]
  rw[c]at this;rw[List.map_cons,List.reverse_cons];exact yV _ _ _ _ this (hT e b).symm
theorem Zzm:∀(l:List Nat),ER T' bk l->(∀d,d∈l->Ar d)->ER T bk (l.map θ).reverse/\P0 (l.map θ).reverse=θ (Gj l)/\Gj (l.map θ).reverse=θ (P0 l)
 |[_],_,_=>⟨trivial,rfl,rfl⟩
 |y::a::r,h,b=>by
  obtain⟨c,e,f⟩:=Zzm (a::r) h.2 λd g=>b d (List.mem_cons_of_mem _ g);rw[List.map_cons,List.reverse_cons];refine⟨vj _ _ c ?_,yb _ _,?_⟩
  ·have:=hT a (b a (by simp));rw[h.1,gL,hb]at this;rw[e];exact this
  rw[Yf9 (by simp),f,Oq]
end
def th(σ:Nat→Nat)(d:Nat):Nat:=if d % 2=0 then 2*σ (d / 2)else 2*σ (d / 2)+1
theorem UM(σ:Nat->Nat)(d:Nat):th σ (Av d)=Av (th σ d):=by
 rcases Nat.mod_two_eq_zero_or_one d with e|e
 ·have a:Av d=d+1:=by unfold Av;rw[iP e]
  have b:th σ d=2*σ (d / 2):=by unfold th;rw[iP e]
  rw[a,b];unfold th Av;grind
 have a:Av d=d-1:=by unfold Av;rw[iN (by omega)]
 have b:th σ d=2*σ (d / 2)+1:=by unfold th;rw[iN (by omega)]
 rw[a,b];unfold th Av;grind
section
variable {ls y:List Lt} {ρ σ:Nat→Nat} (h:RK ls y ρ σ true)
include h
theorem Yg4{u:Nat}(b:u<ls.length):σ ((u+ls.length-1)%ls.length)=(σ u+ls.length-1)%ls.length:=by
 have a:=h.pre _ (h.Fz u b);rw[h.inr u b]at a;rw[<-a,h.inv _ (Nat.mod_lt _ (by omega))]
theorem Wh{u:Nat}(a:u<ls.length)(b:Bool):th σ (Y5 ls.length u b)=Y5 ls.length (σ u) b:=by
 unfold th Y5;cases b with
 |true=>
  grind
 |false=>
  simp only[bF,if_false];rw[iN (by omega),show (2*((u+ls.length-1)%ls.length)+1) / 2=(u+ls.length-1)%ls.length by omega,Yg4 h a]
theorem Sj{u:Nat}(a:u<ls.length)(b:Bool):th σ (arr ls.length u b)=arr ls.length (σ u) b:=by
 have c:=JZ a (!b);rw[Bool.not_not]at c;rw[<-c,UM,Wh h a,JZ (h.Fz u a),Bool.not_not]
theorem rz{d:Nat}(c:d<2*ls.length):th σ d<2*ls.length:=by
 obtain⟨u,b,a,rfl⟩:=L4 c;rw[Sj h a];exact(KL (h.Fz u a) b).1
theorem yj{d:Nat}(c:d<2*ls.length):∃v,v<ls.length/\Ay ls (th σ d)=at' ls v/\Ay y d=at' y (ρ v):=by
 obtain⟨u,b,a,rfl⟩:=L4 c;refine⟨σ u,h.Fz u a,?_,?_⟩
 ·rw[Sj h a,K1 (h.Fz u a)]
 have:=K1 (ls:=y) (v:=u) (by rw[h.len];exact a) b;rw[h.len]at this;rw[this,h.inr u a]
theorem Z9b{d:Nat}(s:d<2*ls.length)(j:(Ay y d).k=2):DM ls (Av (th σ (DM y d)))=Av (th σ d):=by
 obtain⟨u,b,g,rfl⟩:=L4 s;have a:=h.len;have n:u<y.length:=by rw[a];exact g
 have c:=K1 (ls:=y) n b;rw[a]at c;rw[c]at j;have e:=h.Fz u g;have l:=h.inr u g;have i:(at' ls (σ u)).k=2:=by rw[<-h.Cs _ e,l];exact j
 obtain⟨w1,w2,t,v,w⟩:=h.wv.Cp _ e i;have o:=h.Cp _ e i;rw[l]at o;have p:=h.ov _ e i;rw[l]at p;have f:=XB (ls:=y) n j b;unfold BY at f;rw[a,o]at f;have m:Cw y u = !Cw ls (σ u):=p;rw[m]at f;have q:DM y (arr ls.length u b)=Y5 ls.length (ρ (V4 ls (σ u) ls.length 0)) (b == !Cw ls (σ u)):=f;rw[q,Wh h (h.lt _ w1),h.inv _ w1,JZ w1];show CX ls _=_;rw[XB w1 w2,sv h.wv e i];have r:BY ls (V4 ls (σ u) ls.length 0)=σ u:=t;rw[r,Sj h g,KF]
 congr 1
 grind
theorem Kw.Uh(C:Wu y)(hi:∀v,v<ls.length->(at' y (ρ v)).i=(at' ls v).i){front f:List Nat}{done dn:List Int}(E:Kw y front done f dn):Kw ls (front.map (th σ)).reverse done (f.map (th σ)).reverse dn:=by
 have g:=h.len;cases E with
 |cap l r x z _ q=>
  have:=Kw.cap (ls:=ls) (r.map (th σ)).reverse (l.map (th σ)).reverse (th σ z) (th σ x) done (by rw[<-UM,<-q,K3]);simpa using this
 |DH l ins c r _ id n s p j b=>
  have m:∀d,(d<2*ls.length/\(Ay y d).k=2)->(Av (DM y d)<2*ls.length/\(Ay y (Av (DM y d))).k=2):=λd a=>by
   have:=UN C.w (d:=d) (by rw[g];exact a.1) a.2;rw[g]at this;exact this.2
  have hT:∀d,(d<2*ls.length/\(Ay y d).k=2)->DM ls (Av (th σ (DM y d)))=Av (th σ d):=λd a=>Z9b h a.1 a.2;rw[g]at b;have o:=lV s;obtain⟨G,H,I⟩:=Zzm hT (UM σ) K3 ins s λd a=>⟨(b d a).1,(b d a).2.1⟩;have t:=b _ (aN o);have B:=zC hT m (UM σ) K3 c _ _ ⟨t.1,t.2.1⟩ p;rw[K3]at B;have:=Kw.DH (ls:=ls) (r.map (th σ)).reverse (ins.map (th σ)).reverse (c.map (th σ)).reverse (l.map (th σ)).reverse done id n G (by rw[H,I];exact B) (by simpa using j) λd a=>by
   rw[List.mem_reverse]at a;obtain⟨e,D,rfl⟩:=mM.1 a;obtain⟨u,A,F⟩:=b e D;obtain⟨v,v1,J,K⟩:=yj h u;rw[J];rw[K]at A F;exact⟨rz h u,by rw[<-h.Cs v v1];exact A,by grind⟩
  simpa using this
theorem Z5p(p:∀v,v<y.length->(at' y v).k≠2->(at' y v).k=1):(Y4 y).map (th σ)=L9 ls:=by
 have b:=h.len;have n:Z2 y=(Z2 ls).map ρ:=by
  apply List.ext_getElem?;intro q;by_cases j:q<Z0 ls
  ·obtain⟨v,c,e,g,hi⟩:=IV j;obtain⟨i,d⟩:=SE (ls:=y) (v:=ρ v) (by rw[b];exact h.lt v c) (by rw[h.Cs v c];exact e);have a:=h.idx v c e;rw[iP rfl]at a;rw[a,hi]at i d;rw[gM];have l:q<(Z2 ls).length:=by rw[Q7];exact j
   have m:q<(Z2 y).length:=by rw[Q7];exact i
   rw[List.getD,gE l]at g;rw[List.getD,gE m]at d;rw[gE l,gE m];simp only[Option.getD_some]at g d;rw[g,d];rfl
  rw[List.getElem?_eq_none (by rw[Q7,h.Eo];omega),List.getElem?_eq_none (by rw[lM,Q7];omega)]
 unfold Y4 L9;rw[n,List.map_map,List.map_map];refine List.map_congr_left λv c=>?_;obtain⟨f,o⟩:=AA.1 c;have e:(at' ls v).k=1:=by simpa[As]using o
 show th σ (Ca y (ρ v))=Fe ls v;unfold Ca Fe;rw[b,Wh h (h.lt v f),h.inv v f,h.dn v f e];simp
end
theorem z6{f:Int}{ls:List Lt}(h:AH f ls)(D:ls≠[]):RK ls (Bi ls) (CN ls.length (BP ls ls.length)) (KS ls.length (BP ls ls.length)) true /\
 ∀v,v<ls.length->at' (Bi ls) (CN ls.length (BP ls ls.length) v)=CB (at' ls v):=by
 have j:0<ls.length:=by grind
 have z:∀l,l∈Bi ls->BQ f (Bi ls) l=true:=((h.IL D).1).Ea;obtain⟨O,P,V⟩:=AH.Cq h.lo h.Ea;obtain⟨M,N,U⟩:=AH.Cq h.lo z;have A:=h.wv D;obtain⟨i,J,K,L⟩:=Wt A.Eo h.Jk;obtain⟨t,H,p⟩:=Xq ls.length (lR _) ⟨i,by omega,J,K,L⟩;have c:=λv b=>Zyk (v:=v) t b;have I:∀v,v<ls.length->down (Bi ls) (CN ls.length (BP ls ls.length) v) = !down ls v:=λv b=>by
  have G:=dO (ls:=ls.map CB) (a:=BP ls ls.length) (v:=v) (by simpa using t) (by simpa using b);rw[lM,<-List.map_take,<-List.map_take,OY,OY,OY]at G;have S:Z0 (ls.take (BP ls ls.length))%2=1:=by
   unfold down at p;simp only[beq_eq_false_iff_ne,ne_eq]at p;omega
  have T:=h.Jk;unfold down Bi;grind
 have d:=λv b=>RQ (n:=ls.length) (a:=BP ls ls.length) (v:=v) t b;have m:=λv b=>zN (n:=ls.length) (a:=BP ls ls.length) (v:=v) t b;have g:∀v,v<ls.length->CN ls.length (BP ls ls.length) v<ls.length:=λv b=>Nat.mod_lt _ j;have w:∀v,v<ls.length->KS ls.length (BP ls ls.length) v<ls.length:=λv b=>Nat.mod_lt _ j;have q:∀v,v<ls.length->KS ls.length (BP ls ls.length) (CN ls.length (BP ls ls.length) v)=v:=λv b=>by
  rw[m _ (g v b),d v b];split<;>split<;>omega
 have C:∀v,v<ls.length->CN ls.length (BP ls ls.length) (KS ls.length (BP ls ls.length) v)=v:=λv b=>by
  rw[d _ (w v b),m v b];split<;>split<;>omega
 refine⟨⟨A,E8,UB,g,w,q,C,λv b=>?_,λv b=>by rw[c v b,Ga],λv b k=>?_,λv b k=>?_,λv b k=>?_,λv b k=>?_⟩,c⟩
 ·have hm:=Nat.mod_lt (v+ls.length-1) j;rw[d _ hm,QH b,QH (g v b),d v b];split<;>split<;>split<;>(try split)<;>omega
 ·obtain⟨w1,w2,X,Y,Z⟩:=A.Cp v b k;obtain⟨n1,n2⟩:=h.CK b k;have y:CN ls.length (BP ls ls.length) (V4 ls v ls.length 0)≠CN ls.length (BP ls ls.length) v:=λe=>by
   grind
  refine fV ?_ ?_ ls.length 0 (Nat.zero_le _) (by have:=g _ w1;omega) (by rw[E8];omega)
  ·rw[c _ w1,c v b,Sa,Ft,Ft,n2];simp[y,AO,w2]
  intro x u B;rw[E8]at B;have r:=w x B;have ex:=C x B;rw[<-ex]at u ⊢;rw[c _ r,c v b,Sa,Ft,Ft]at u;simp only[bA,bne_iff_ne,ne_eq,beq_iff_eq,AO]at u;obtain⟨⟨Q,E⟩,F⟩:=u;rcases h.uniq b k r E F with e|e
  ·grind
  rw[e]
 ·rw[c v b,Qp k];simp only;cases (at' ls v).o<;>cases ((at' ls v).s == 1)<;>rfl
 ·simp_all
 rw[iP rfl,Lp P O b k,Lp N M (by rw[E8];exact g v b) (by rw[c v b,Ga];exact k),c v b,sj]
end Go.Ad
