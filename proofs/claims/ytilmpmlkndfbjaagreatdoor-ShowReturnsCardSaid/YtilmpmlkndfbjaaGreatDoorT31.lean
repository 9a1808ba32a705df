/- Part 31 -/
import Derived.Test.YtilmpmlkndfbjaaGreatDoorT30
set_option linter.all false
namespace Go.Ad
open Go.Plain
def BF(n:Nat)(e:Bool)(s p:Nat):Nat:=if e then (if s+p<n then s+p else s+p - n)else (if p≤s then s - p else s+n - p)
theorem I5{n s p:Nat}{e:Bool}(b:s<n)(a:p<n):BF n e s p<n:=by
 unfold BF;grind
theorem Xu{n s:Nat}{e:Bool}(a:s<n):BF n e s 0=s:=by
 unfold BF;grind
theorem nX{n b c p:Nat}{a d:Bool}(e:b<n)(f:c<n)(g:p<n):BF n a b (BF n d c p)=BF n (a == d) (BF n a b c) p:=by
 unfold BF;grind
def OD(n:Nat)(e:Bool)(s:Nat):Nat:=if e then (if s=0 then 0 else n - s)else s
theorem Qo{n s:Nat}{e:Bool}(a:s<n):OD n e s<n:=by
 unfold OD;grind
theorem Xh{n s p:Nat}{e:Bool}(b:s<n)(a:p<n):BF n e s (BF n e (OD n e s) p)=p:=by
 unfold BF OD;grind
theorem oD{n s p:Nat}{e:Bool}(b:s<n)(a:p<n):BF n e (OD n e s) (BF n e s p)=p:=by
 unfold BF OD;grind
def ap(φ:Int→Int)(l:Lt):Lt:=if l.k=2 then { l with i:=φ l.i } else l
theorem ET(φ:Int->Int)(l:Lt):(ap φ l).k=l.k:=by unfold ap;split<;>rfl
theorem Vh(φ:Int->Int)(l:Lt):As (ap φ l)=As l:=by unfold As;rw[ET]
theorem J2{φ:Int->Int}{l:Lt}(h:l.k=2):ap φ l={ l with i:=φ l.i }:=by unfold ap;rw[iP h]
theorem A1{φ:Int->Int}{l:Lt}(h:¬l.k=2):ap φ l=l:=by unfold ap;rw[iN h]
theorem za(l:Lt):ap id l=l:=by unfold ap;split<;>rfl
theorem Z8a(φ ψ:Int->Int)(l:Lt):ap ψ (ap φ l)=ap (ψ∘φ) l:=by
 by_cases h:l.k=2
 ·rw[J2 h,J2 (l:={ l with i:=φ l.i }) h,J2 h];rfl
 rw[A1 h,A1 h,A1 h]
def GB(φ:Int→Int)(y:List Lt):Prop:=∀ a,a∈y → ∀ b,b∈y→a.k=2→b.k=2→φ a.i=φ b.i→a.i=b.i
def De(e:Bool)(y x:List Lt):Prop:=x.length=y.length ∧ ∃ s φ,s<y.length∧GB φ y ∧ ∀ p,p<y.length→at' x p=ap φ (at' y (BF y.length e s p))∧(As (at' x p)=true→down x p=(down y (BF y.length e s p) == e))
theorem KV{y:List Lt}{a:Lt}(h:a∈y):∃p,p<y.length/\at' y p=a:=by
 obtain⟨p,b,e⟩:=List.getElem_of_mem h;exact⟨p,b,by simp[at',List.getD,b,e]⟩
theorem De.trans{f l:Bool}{y x z:List Lt}(E:De f y x)(F:De l x z):De (f == l) y z:=by
 obtain⟨m,O,k,c,H,p1⟩:=E;obtain⟨J,P,r,d,I,A⟩:=F;rw[m]at d A;refine⟨J.trans m,BF y.length f O P,r∘k,I5 c d,λa v b w g h n=>?_,λp o=>?_⟩
 ·obtain⟨M,i,rfl⟩:=KV v;obtain⟨N,j,rfl⟩:=KV w;have B:=(p1 _ (I5 (e:=f) (Qo (e:=f) c) i)).1;have C:=(p1 _ (I5 (e:=f) (Qo (e:=f) c) j)).1;rw[Xh c i]at B;rw[Xh c j]at C;have K:ap k (at' y M)∈x:=by rw[<-B];exact P4 (by rw[m];exact I5 (Qo c) i)
  have L:ap k (at' y N)∈x:=by rw[<-C];exact P4 (by rw[m];exact I5 (Qo c) j)
  refine H _ v _ w g h ?_;have:=I _ K _ L (by rw[ET];exact g) (by rw[ET];exact h);rw[J2 g,J2 h]at this;exact this n
 have G:=I5 (e:=l) d o;obtain⟨s,D⟩:=A p o;obtain⟨t,u⟩:=p1 _ G;rw[nX c d o]at t u;refine⟨by rw[s,t,Z8a],λq=>?_⟩;rw[D q,u (by rw[s,Vh]at q;exact q)];cases f<;>cases l<;>cases down y _<;>rfl
theorem De.symm{e:Bool}{y x:List Lt}(h:De e y x):De e x y:=by
 obtain⟨t,s,φ,q,K,p1⟩:=h;obtain⟨ψ,m⟩:∃ψ:Int->Int,∀a,a∈y->a.k=2->ψ (φ a.i)=a.i:=by
  have F:∀j:Int,∃i:Int,∀a,a∈y->a.k=2->φ a.i=j->i=a.i:=λj=>by
   by_cases I:∃a,a∈y/\a.k=2/\φ a.i=j
   ·obtain⟨a,C,D,E⟩:=I;exact⟨a.i,λb w d G=>K a C b w D d (by rw[E,G])⟩
   simp_all
  obtain⟨ψ,h⟩:=Classical.axiomOfChoice F;exact⟨ψ,λa v d=>h _ a v d rfl⟩
 refine⟨t.symm,OD y.length e s,ψ,by rw[t];exact Qo q,λa v b w f g c=>?_,λp r=>?_⟩
 ·obtain⟨L,n,rfl⟩:=KV v;obtain⟨M,o,rfl⟩:=KV w;rw[t]at n o;have A:=(p1 L n).1;have B:=(p1 M o).1;rw[A,ET]at f;rw[B,ET]at g;rw[A,B,J2 f,J2 g]at c ⊢;simp only at c ⊢;rw[m _ (P4 (I5 q n)) f,m _ (P4 (I5 q o)) g]at c;rw[c]
 rw[t]at r ⊢;have H:=I5 (e:=e) (Qo (e:=e) q) r;obtain⟨u,z⟩:=p1 _ H;rw[Xh q r]at u z;have hm:=P4 r;refine⟨?_,λJ=>?_⟩
 ·rw[u];by_cases d:(at' y p).k=2
  ·rw[J2 d,J2 (l:={ at' y p with i:=φ (at' y p).i }) d];simp only[m _ hm d]
  rw[A1 d,A1 d]
 rw[z (by rw[u,Vh];exact J)];simp
theorem Py{g:Lt->Lt}{l:List Lt}{p:Nat}(h:p<l.length):at' (l.map g) p=g (at' l p):=by simp[at',List.getD,h]
theorem Yah(φ:Int->Int)(l:List Lt):Z0 (l.map (ap φ))=Z0 l:=by
 unfold Z0;rw[UK];exact J3 λa _=>Vh φ a
theorem Yd1(φ:Int->Int)(l:List Lt)(p:Nat):down (l.map (ap φ)) p=down l p:=by
 unfold down;rw[<-List.map_take,Yah]
theorem aO{y:List Lt}{x:Int}{p:Nat}(h:V0 x (U3 y p)≠0):∀k,p+k<=y.length->V0 x (U3 y (p+k))=V0 x (U3 y p)
 |0,_=>rfl
 |k+1,c=>by
  have a:=aO h k (by omega);have b:=UG (ls:=y) (i:=p+k) (by omega);rw[<-Nat.add_assoc,b];unfold M9;split
  ·rw[xq (by rw[a];exact h),a]
  exact a
theorem zM:∀{met:List Int}{x y:Int},V0 x met≠0->V0 x met=V0 y met->x=y
 |[],_,_,h,_=>absurd rfl h
 |z::r,x,y,h,e=>by
  simp only[V0]at h e;by_cases b:x=z
  ·grind
  rw[iN b]at h e;by_cases a:V0 x r=0
  ·grind
  rw[iN a]at e;by_cases c:y=z
  ·grind
  rw[iN c]at e;split at e
  ·omega
  exact zM a (by omega)
theorem oO{y:List Lt}{p:Nat}(b:p<y.length)(a:(at' y p).k=2):V0 (at' y p).i (U3 y (p+1))≠0:=by
 rw[UG b];unfold M9;by_cases h:V0 (at' y p).i (U3 y p)=0
 ·rw[iP ⟨a,h⟩,Wi h];omega
 grind
theorem Xt(y:List Lt):X7 y=y.map (ap λi=>(V0 i (U3 y y.length):Nat)):=by
 refine SB (by rw[Sy,lM]) λp b=>?_;rw[Sy]at b;rw[eZ b,Py b];unfold Ep;by_cases a:(at' y p).k=2
 ·rw[iP a,J2 a,<-UG b];have:=aO (oO b a) (y.length-(p+1)) (by omega);grind
 rw[iN a,A1 a]
theorem z8(y:List Lt):GB (λi=>(V0 i (U3 y y.length):Nat)) y:=by
 intro a f b k c h g;obtain⟨p,j,rfl⟩:=KV f;have d:=oO j c;have e:=aO d (y.length-(p+1)) (by omega);rw[show p+1+(y.length-(p+1))=y.length by omega]at e;refine zM (met:=U3 y y.length) (by rw[e];exact d) ?_;grind
theorem Z7l{y:List Lt}{φ:Int->Int}(d:y≠[])(b:GB φ y):De true y (y.map (ap φ)):=by
 have a:0<y.length:=by grind
 refine⟨lM _,0,φ,a,b,λp c=>?_⟩;have e:BF y.length true 0 p=p:=by simp[BF];omega
 rw[e,Py c,Yd1];grind
theorem mN{y:List Lt}(a:y≠[]):De true y (X7 y):=by
 rw[Xt];exact Z7l a (z8 y)
theorem Zzu(y:List Lt):GB id y:=λ_ _ _ _ _ _ h=>h
theorem mQ{y:List Lt}{s:Nat}(i:Z0 y%2=0)(a:s<y.length)(f:down y s=true):De true y (U2 s y):=by
 refine⟨Zyv s y,s,id,a,Zzu y,λp g=>?_⟩;have b:=I5 (e:=true) a g;have h:CN y.length s (BF y.length true s p)=p:=by
  rw[RQ a b];unfold BF;simp only[if_true];split<;>split<;>omega
 have c:=nH a b;have d:=dO a b;rw[h]at c d;refine⟨by rw[c,za],λ_=>?_⟩;unfold down at f ⊢;grind
theorem xm{y:List Lt}(j:Z0 y%2=0){p:Nat}(k:p<y.length)(g:As (at' y (y.length-1-p))=true):down y.reverse p = !down y (y.length-1-p):=by
 have e:∀a b:List Lt,Z0 (a++b)=Z0 a+Z0 b:=λa b=>NJ _ a b;have f:∀a:List Lt,Z0 a.reverse=Z0 a:=λa=>by unfold Z0 Z4;rw[List.filter_reverse,List.length_reverse]
 have h:y.reverse.take p=(y.drop (y.length-p)).reverse:=by rw[List.take_reverse]
 have d:=e (y.take (y.length-p)) (y.drop (y.length-p));rw[List.take_append_drop]at d;have c:=ON (ls:=y) (i:=y.length-1-p) (by omega);rw[g,show y.length-1-p+1=y.length-p by omega]at c;simp only[if_true]at c;unfold down;grind
theorem Ylo{y:List Lt}(f:y≠[])(b:Z0 y%2=0):De false y y.reverse:=by
 have c:0<y.length:=by grind
 refine⟨List.length_reverse,y.length-1,id,by omega,Zzu y,λp a=>?_⟩;have e:BF y.length false (y.length-1) p=y.length-1-p:=by simp[BF];omega
 rw[e,Sm a,za];refine⟨rfl,λd=>?_⟩;rw[xm b a d];grind
structure Ev (y:List Lt):Prop where
 ne:y≠[]
 ev:Z0 y % 2=0
 bk:∃ i,i<y.length∧Is y i=true
theorem AH.To{f:Int}{y:List Lt}(h:AH f y)(a:y≠[]):Ev y:=⟨a,h.Jk,h.bk a⟩
theorem pQ(y:List Lt):Z0 y.reverse=Z0 y:=by unfold Z0 Z4;grind
theorem VW{y:List Lt}(h:Ev y):De false y (Q6 y):=by
 obtain⟨b,c,a,e⟩:=lT h.bk;rw[mV c a e];have i:As (at' y.reverse b)=true:=by simp only[Is,bA]at a;exact a.1
 have f:down y (y.length-1-b)=false:=by simp only[Is,bA,Bool.not_eq_true']at a;exact a.2
 have g:=Ylo h.ne h.ev;have d:down y.reverse b=true:=by rw[xm h.ev c (by rw[<-Sm c];exact i),f];rfl
 have:=g.trans (mQ (s:=b) (by rw[pQ];exact h.ev) (by grind) d);exact this
theorem Z8o(y:List Lt):Z0 (Q6 y)=Z0 y:=by
 unfold Q6;split
 ·exact(MT _ _ _).trans (pQ y)
 exact pQ y
def Cn(y w:List Lt):Prop:=(∃ i,i<y.length∧(As (at' y i)&&down y i)=true∧w=M3 y i)∨(∃ i,i<y.length∧(As (at' (Q6 y) i)&&down (Q6 y) i)=true∧w=M3 (Q6 y) i)
theorem Yd4{y:List Lt}(s:Nat)(a:y≠[]):U2 s y≠[]:=by
 intro e;have:=congrArg List.length e;rw[A6]at this;grind
theorem Z5h{y:List Lt}{i:Nat}(b:y≠[])(c:Z0 y%2=0)(hi:i<y.length)(a:(As (at' y i)&&down y i)=true):De true y (M3 y i):=by
 simp only[bA]at a;exact(mQ c hi a.2).trans (mN (Yd4 i b))
theorem dD{y w:List Lt}(h:Ev y)(d:Cn y w):∃e,De e y w:=by
 rcases d with⟨i,a,b,rfl⟩|⟨i,a,b,rfl⟩
 ·exact⟨_,Z5h h.ne h.ev a b⟩
 have c:Q6 y≠[]:=by
  intro e;have:=congrArg List.length e;rw[Qi]at this;grind
 exact⟨_,(VW h).trans (Z5h c (by rw[Z8o];exact h.ev) (by rw[Qi];exact a) b)⟩
end Go.Ad
