/- Part 18 -/
import Derived.Test.YtilmpmlkndfbjaaGreatDoorT17
set_option linter.all false
namespace Go.Ad
open Go.Plain
theorem HJ{n i:Nat}{fw:Bool}(h:i<n):Y5 n i fw<2*n:=by
 unfold Y5;have:=Nat.mod_lt (i+n-1) (show 0<n by omega);split<;>omega
theorem qE{ls:List Lt}{v:Nat}(a:v<ls.length):∀k j,j+k<=ls.length->V4 ls v k j<ls.length
 |0,j,_=>a
 |k+1,j,b=>by
  simp only[V4];split
  ·omega
  exact qE a k (j+1) (by omega)
theorem Wy{x:Nat}{l:List Nat}(h:x∈l):V9 x l<l.length:=(gS.1 (Li h).1).1
theorem jI{ls:List Lt}{a:List Nat}{d:Nat}(i:∀v,v∈a->v<ls.length)(hm:∀v,v<ls.length->(at' ls v).k≠2->v∈a)(f:0<a.length)(m:d<2*ls.length+2*a.length) :
 X4 ls a d<2*ls.length+2*a.length:=by
 have b:∀j,j<a.length->a.getD j 0<ls.length:=λj n=>by
  simp_all
 have c:=λx=>Nat.mod_lt x f;unfold X4;split
 ·split
  ·exact Nat.lt_of_lt_of_le (HJ (b _ (c _))) (by omega)
  exact Nat.lt_of_lt_of_le (HJ (b _ (by omega))) (by omega)
 rename_i h;have e:(if d%2=0 then (d / 2+1)%ls.length else d / 2)<ls.length:=by
  split
  ·exact Nat.mod_lt _ (by omega)
  omega
 simp only;generalize (if d%2=0 then (d / 2+1)%ls.length else d / 2)=v at e;split
 ·exact Nat.lt_of_lt_of_le (HJ (qE e ls.length 0 (by omega))) (by omega)
 rename_i g;have l:=Wy (hm v e g);split
 ·omega
 have:=c (V9 v a+a.length-1);omega
theorem Z6n{f:Int}{l:Lt}(h:DR f l=true):l.k=1\/l.k=2:=by
 unfold DR at h;grind
theorem UD{F:Nat}{ls:List Lt}(h:ls.all (DR F)=true):Lc F ls:=by
 intro l a b;have:=List.all_eq_true.1 h l a;simp only[As,beq_iff_eq]at b;unfold DR at this;grind
theorem jK{ls:List Lt}{m:Nat}:∀(i p:Nat),p<m -> ∃b,(H5 ls m i)[p]?=some b/\(b=true ↔ ∃j,j<i/\As (at' ls j)=true/\pos ls (at' ls j)=p)
 |0,p,a=>⟨false,by simp[H5,List.getElem?_replicate,a],by simp⟩
 |i+1,p,a=>by
  obtain⟨b,d,c⟩:=jK (ls:=ls) (m:=m) i p a;simp only[H5];grind
theorem kH{F:Nat}{ls:List Lt}(e:Lc F ls):∀i,i<=ls.length->EI ls (Z0 ls) i=true ->
 (∀j,j<i->As (at' ls j)=true->1<=(at' ls j).r/\(at' ls j).r<=(Bl (at' ls j).g ls:Nat)) /\
 (∀j k,j<k->k<i->As (at' ls j)=true->As (at' ls k)=true->pos ls (at' ls j)≠pos ls (at' ls k))
 |0,_,_=>⟨λj o=>by omega,λj k _ q=>by omega⟩
 |i+1,hi,h=>by
  simp only[EI,bA,Bool.or_eq_true,Bool.not_eq_true',decide_eq_true_eq]at h;obtain⟨l,a⟩:=h;obtain⟨t,u⟩:=kH e i (by omega) l;refine⟨λj o w=>?_,λj k p q s d=>?_⟩
  ·grind
  rcases lG k i with n|n
  ·grind
  have:k=i:=by omega
  subst this;rcases a with a|a
  ·grind
  have c:=aF e (P4 (by omega)) d a.1.1 a.1.2;obtain⟨b,v,f⟩:=jK (ls:=ls) (m:=Z0 ls) k (pos ls (at' ls k)) c;grind
theorem cK{F:Nat}{ls:List Lt}(b:Lc F ls)(h:EI ls (Z0 ls) ls.length=true):VM ls/\Qs ls:=by
 obtain⟨n,o⟩:=kH b ls.length (lR _) h;refine⟨λl e p=>?_,λi j hi a g m d k=>?_⟩
 ·obtain⟨j,a,c⟩:=List.getElem_of_mem e;have:at' ls j=l:=by rw[at',List.getD,gE a,c];rfl
  grind
 have f:pos ls (at' ls i)=pos ls (at' ls j):=by unfold pos;rw[d,k]
 grind
theorem Qx(ls:List Lt):(Z2 ls).Nodup:=by
 rw[Z2,(Nn ls ls.length).nodup_iff];exact List.nodup_range.filter _
theorem Xv{l:List Nat}(h:l.Nodup){i j x:Nat}(hi:l[i]?=some x)(c:l[j]?=some x):i=j:=by
 obtain⟨d,a⟩:=gS.1 hi;obtain⟨e,b⟩:=gS.1 c;exact(List.getElem_inj h).1 (a.trans b.symm)
theorem iM{F:Nat}{ls:List Lt}(c:Lc F ls)(h:EI ls (Z0 ls) ls.length=true):∀i,i<=ls.length -> ∀j,j<i->As (at' ls j)=true->(F3 ls (Z0 ls) i)[pos ls (at' ls j)]?=some j
 |0,_,j,l,_=>by omega
 |i+1,hi,j,l,d=>by
  obtain⟨g,k⟩:=kH c ls.length (lR _) h;simp only[F3];by_cases a:As (at' ls i)=true
  ·rw[iP a,List.getElem?_set,cO];obtain⟨m,n⟩:=g i (by omega) a;have f:=aF c (P4 (show i<ls.length by omega)) a m n;rcases lG j i with b|b
   ·rw[iN (λe=>k j i b (by omega) d a e.symm)];exact iM c h i (by omega) j b d
   grind
  rw[iN a];rcases lG j i with b|b
  ·exact iM c h i (by omega) j b d
  grind
theorem Yfo{F:Nat}{ls:List Lt}(e:Lc F ls)(h:EI ls (Z0 ls) ls.length=true):F3 ls (Z0 ls) ls.length=Z2 ls:=by
 obtain⟨k,i⟩:=cK e h;apply List.ext_getElem?;intro p;rcases lG p (Z0 ls)with a|a
 ·obtain⟨j,b⟩:∃j,(Z2 ls)[p]?=some j:=⟨_,gE (by rw[Q7];exact a)⟩;obtain⟨c,d⟩:=AA.1 (List.mem_of_getElem? b);have f:=lZ i k c d;have g:=Xv (Qx ls) b f;subst g;rw[b];exact iM e h _ (lR _) j c d
 rw[List.getElem?_eq_none (by rw[cO];exact a),List.getElem?_eq_none (by rw[Q7];exact a)]
theorem Z8f{F:Nat}{ls:List Lt}(d:Lc F ls)(h:EI ls (Z0 ls) ls.length=true){v:Nat}(b:v<ls.length)(f:(at' ls v).k=1):O8 ls v=V9 v (Z2 ls)/\V9 v (Z2 ls)<(Z2 ls).length:=by
 obtain⟨g,e⟩:=cK d h;have a:As (at' ls v)=true:=by simp[As,f]
 have c:=lZ e g b a;have hm:v∈Z2 ls:=AA.2 ⟨b,a⟩;refine⟨?_,Wy hm⟩;unfold O8;rw[iP a];exact Xv (Qx ls) c (Li hm).1
theorem bY{id a:Int}{w:Int×Int}:∀{E:List DO}{p:Nat}{v:Int×Int},Dz id E=some (p,v)->Dz a (E.set p (id,w))=if a=id then some (p,w)else Dz a E
 |[],p,v,h=>by cases h
 | (k,u)::r,p,v,h=>by
  simp only[Dz]at h;by_cases b:id=k
  ·rw[iP b]at h;cases h;subst b;simp only[List.set_cons_zero,Dz];split<;>rfl
  rw[iN b]at h;cases c:Dz id r with
  |none=>rw[c]at h;cases h
  |some d=>
   obtain⟨q,e⟩:=d;rw[c]at h;cases h;simp only[List.set_cons_succ,Dz];rw[bY c];grind
theorem qN{id a:Int}{w:Int×Int}:∀{E:List DO},Dz id E=none->Dz a (E++[(id,w)])=if a=id then some (E.length,w)else Dz a E
 |[],_=>by rfl
 | (k,u)::r,h=>by
  simp only[Dz]at h;by_cases c:id=k
  ·grind
  rw[iN c]at h;have b:Dz id r=none:=by
   cases b:Dz id r with
   |none=>rfl
   |some d=>rw[b]at h;cases h
  simp only[List.cons_append,Dz];rw[qN b];grind
def Jl(v:Int×Int):Nat:=(if 0≤v.1 then 1 else 0)+(if 0≤v.2 then 1 else 0)
def C9:List DO→Nat
 | []=>0
 | e :: r=>Jl e.2+C9 r
theorem Zxo(v:Int×Int):Jl v<=2:=by unfold Jl;grind
theorem sq:∀(E:List DO),C9 E<=2*E.length
 |[]=>lR _
 |e::r=>by have:=sq r;have:=Zxo e.2;simp only[C9,lC];omega
theorem qu:∀{E:List DO},C9 E=2*E.length -> ∀e,e∈E->Jl e.2=2
 |[],_,e,h=>by simp at h
 |x::r,a,e,h=>by
  have b:=sq r;have c:=Zxo x.2;simp only[C9,lC]at a;rcases mC.1 h with rfl|h
  ·omega
  exact qu (by omega) e h
theorem Zy1(x:DO):∀(E:List DO),C9 (E++[x])=C9 E+Jl x.2
 |[]=>by simp[C9]
 |e::r=>by simp only[List.cons_append,C9,Zy1 x r];omega
theorem s8{x y:DO}:∀{E:List DO}{p:Nat},E[p]?=some x->C9 (E.set p y)+Jl x.2=C9 E+Jl y.2
 |[],p,h=>by simp at h
 |e::r,0,h=>by
  simp only[List.getElem?_cons_zero,oI]at h;subst h;simp only[List.set_cons_zero,C9];omega
 |e::r,p+1,h=>by
  simp only[List.getElem?_cons_succ]at h;have:=s8 (y:=y) h;simp only[List.set_cons_succ,C9];omega
theorem mB(o a:Bool)(i:Int)(v:Int×Int):P9 a (F1 o i v)=if a=o then i else P9 a v:=by
 cases o<;>cases a<;>rfl
theorem u7{o:Bool}{i:Int}{v:Int×Int}(hi:0<=i)(a:P9 o v<0):Jl (F1 o i v)=Jl v+1:=by
 cases o<;>simp only[P9,bF,if_true,if_false]at a<;>unfold Jl F1<;>simp only[bF,if_true,if_false]
 ·rw[iP hi,iN (show ¬0<=v.1 by omega)];try omega
 grind
structure Vy (ls:List Lt) (i:Nat):Prop where
 slot:∀ id p w,Dz id (Bf ls i)=some (p,w) → ∀ o,0≤P9 o w → ∃ j:Nat,j<i∧P9 o w=j∧AO (at' ls j)=true∧(at' ls j).i=id∧(at' ls j).o=o
 visit:∀ j,j<i→AO (at' ls j)=true → ∃ p w,Dz (at' ls j).i (Bf ls i)=some (p,w)∧P9 (at' ls j).o w=j
 sign:∀ id p w,Dz id (Bf ls i)=some (p,w)→0≤w.1→0≤w.2→(at' ls w.1.toNat).s=(at' ls w.2.toNat).s
 sum:C9 (Bf ls i)=Z4 AO (ls.take i)
theorem dG{ls:List Lt}{n:Nat}:∀i,i<=ls.length->Fo ls n i=true->Vy ls i
 |0,_,_=>⟨λid p w h=>(by cases h),λj N=>(by omega),λid p w h=>(by cases h),rfl⟩
 |i+1,hi,h=>by
  simp only[Fo,bA,Bool.or_eq_true,Bool.not_eq_true',decide_eq_true_eq]at h;obtain⟨P,X⟩:=h;obtain⟨b,c,d,e⟩:=dG i (by omega) P;have u:=JL (p:=AO) (ls:=ls) (i:=i) (by omega);by_cases B:AO (at' ls i)=true
  ·have f:GM ls (Bf ls i) (at' ls i)=true:=by
    grind
   have E:Bf ls (i+1)=Fu (Bf ls i) (at' ls i).i (at' ls i).o i:=by simp only[Bf,iP B]
   rw[iP B]at u;obtain⟨q,v,t,O,A,m⟩:∃(q:Nat) (v:Int×Int),(∀r,Dz r (Bf ls (i+1))=if r=(at' ls i).i then some (q,F1 (at' ls i).o i v)else Dz r (Bf ls i)) /\
    P9 (at' ls i).o v<0/\C9 (Bf ls (i+1))=C9 (Bf ls i)+1 /\
    ((Dz (at' ls i).i (Bf ls i)=some (q,v)/\(at' ls (P9 (!(at' ls i).o) v).toNat).s=(at' ls i).s)\/(Dz (at' ls i).i (Bf ls i)=none/\v=(-1,-1))):=by
    unfold GM at f;cases a:Dz (at' ls i).i (Bf ls i)with
    |none=>
     have g:Bf ls (i+1)=Bf ls i++[((at' ls i).i,F1 (at' ls i).o i (-1,-1))]:=by rw[E];unfold Fu;rw[a]
     refine⟨(Bf ls i).length,(-1,-1),λr=>by rw[g,qN a],by cases (at' ls i).o<;>decide,?_,.inr ⟨rfl,rfl⟩⟩;rw[g,Zy1,u7 (by omega) (by cases (at' ls i).o<;>decide)];rfl
    |some V=>
     obtain⟨q,v⟩:=V;rw[a]at f;simp only[bA,decide_eq_true_eq]at f;have g:Bf ls (i+1)=(Bf ls i).set q ((at' ls i).i,F1 (at' ls i).o i v):=by rw[E];unfold Fu;rw[a]
     refine⟨q,v,λr=>by rw[g,bY a],f.1,?_,.inl ⟨rfl,f.2⟩⟩;have:=s8 (y:=((at' ls i).i,F1 (at' ls i).o i v)) (UP a);simp only at this;rw[u7 (by omega) f.1]at this;rw[g];omega
   refine⟨λid p w a o l=>?_,λj N C=>?_,λid p w a I J=>?_,by rw[A,e,u]⟩
   ·rw[t]at a;split at a
    ·rename_i k;cases a;rw[mB]at l ⊢;split at l
     ·rename_i z;subst z;rw[iP rfl];exact⟨i,by omega,rfl,B,k.symm,rfl⟩
     rename_i H;rw[iN H];rcases m with⟨a,_⟩|⟨a,G⟩
     ·obtain⟨j,Q,K,S,T,U⟩:=b _ _ _ a o l;exact⟨j,by omega,K,S,T.trans k.symm,U⟩
     subst G;cases o<;>simp[P9]at l
    grind
   ·rcases lG j i with M|M
    ·obtain⟨p,w,D,L⟩:=c j M C;rw[t];split
     ·rename_i k;refine⟨_,_,rfl,?_⟩;rcases m with⟨a,_⟩|⟨a,G⟩
      ·rw[k]at D;rw[D]at a;cases a;rw[mB];split
       ·rename_i z;rw[z]at L;omega
       exact L
      rw[k,a]at D;cases D
     grind
    have:j=i:=by omega
    subst this;rw[t,iP rfl];exact⟨_,_,rfl,by rw[mB,iP rfl]⟩
   rw[t]at a;split at a
   ·cases a;rcases m with⟨a,F⟩|⟨a,G⟩
    ·cases l:(at' ls i).o with
     |true=>
      simp only[l,F1,P9,if_true,Bool.not_true,bF,if_false]at F ⊢;rw[F,Int.toNat_natCast]
     |false=>
      simp only[l,F1,P9,if_true,Bool.not_false,bF,if_false]at F ⊢;rw[F,Int.toNat_natCast]
    subst G;cases l:(at' ls i).o<;>simp[l,F1]at I J
   grind
  have E:Bf ls (i+1)=Bf ls i:=by simp only[Bf,iN B]
  rw[iN B]at u;rw[<-E]at b c d e;refine⟨λid p w a o l=>?_,λj N C=>?_,d,by rw[e,u];rfl⟩
  ·obtain⟨j,Q,K⟩:=b id p w a o l;exact⟨j,by omega,K⟩
  grind
def HY(ls:List Lt):Prop:=X6 ls % 2=0∧Fo ls (X6 ls) ls.length=true∧(Bf ls ls.length).length=X6 ls / 2
theorem fV{ls:List Lt}{v j:Nat}(h:(j != v&&AO (at' ls j)&&(at' ls j).i == (at' ls v).i)=true)(d:∀x,(x != v&&AO (at' ls x)&&(at' ls x).i == (at' ls v).i)=true->x<ls.length->x=j) :
 ∀k s,s<=j->j<s+k->s+k<=ls.length->V4 ls v k s=j
 |0,s,a,b,_=>by omega
 |k+1,s,a,b,f=>by
  simp only[V4];split
  ·grind
  rename_i c;have:s≠j:=λe=>c (by rw[e];exact h);exact fV h d k (s+1) (by omega) (by omega) (by omega)
theorem Pv{ls:List Lt}(h:HY ls){v:Nat}(G:v<ls.length)(H:AO (at' ls v)=true) :
 ∃p w j,Dz (at' ls v).i (Bf ls ls.length)=some (p,w)/\P9 (at' ls v).o w=v/\P9 (!(at' ls v).o) w=(j:Nat)/\j<ls.length/\j≠v/\AO (at' ls j)=true/\(at' ls j).i=(at' ls v).i/\(at' ls j).o=(!(at' ls v).o)/\(at' ls j).s=(at' ls v).s /\
  (∀x,x<ls.length->AO (at' ls x)=true->(at' ls x).i=(at' ls v).i->x=v\/x=j)/\V4 ls v ls.length 0=j:=by
 obtain⟨L,D,E⟩:=h;obtain⟨b,c,d,e⟩:=dG ls.length (lR _) D;rw[List.take_length]at e;have F:C9 (Bf ls ls.length)=2*(Bf ls ls.length).length:=by
  rw[e,E];have:X6 ls=Z4 AO ls:=rfl;omega
 obtain⟨p,w,g,k⟩:=c v G H;have y:=qu F _ (List.mem_of_getElem? (UP g));simp only at y;have z:0<=w.1/\0<=w.2:=by
  unfold Jl at y;grind
 have q:0<=P9 (!(at' ls v).o) w:=by cases (at' ls v).o<;>simp only[P9,Bool.not_true,Bool.not_false,bF,if_true,if_false]<;>omega
 obtain⟨j,I,m,A,B,J⟩:=b _ _ _ g _ q;have l:j≠v:=by
  grind
 have f:∀x,x<ls.length->AO (at' ls x)=true->(at' ls x).i=(at' ls v).i->x=v\/x=j:=by
  intro x t u r;obtain⟨M,w',C,K⟩:=c x t u;rw[r,g]at C;cases C;by_cases n:(at' ls x).o=(at' ls v).o
  ·rw[n,k]at K;exact .inl (by omega)
  grind
 have a:=d _ _ _ g z.1 z.2;refine⟨p,w,j,g,k,m,I,l,A,B,J,?_,f,?_⟩
 ·cases n:(at' ls v).o<;>rw[n]at k m<;>simp only[P9,Bool.not_true,Bool.not_false,bF,if_true,if_false]at k m<;>rw[k,m]at a<;>simp only[Int.toNat_natCast]at a
  ·exact a.symm
  exact a
 refine fV ?_ ?_ ls.length 0 (Nat.zero_le _) (by omega) (by omega)
 ·simp[l,A,B]
 grind
theorem Yeo{F:Nat}{ls:List Lt}(h:ls.length<=1000)(c:ls.all (DR F)=true)(e:0<ls.length)(d:(at' ls 0).k=1)(i:EI ls (Z0 ls) ls.length=true)(g:HY ls):GA ls (Bf ls ls.length):=by
 have f:=UD c;refine⟨h,?_,λv a=>?_,λv a b=>Z8f f i a b,λv a b=>?_⟩
 ·have:0∈Z2 ls:=AA.2 ⟨e,by simp[As,d]⟩;grind
 ·exact Z6n (List.all_eq_true.1 c _ (P4 a))
 obtain⟨p,w,j,l,m,n,o,_,_,_,_,_,_,q⟩:=Pv g a (by simp[AO,b]);grind
end Go.Ad
