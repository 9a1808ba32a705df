/- Part 30 -/
import Derived.Test.YtilmpmlkndfbjaaGreatDoorT29
set_option linter.all false
open List (map_cons map_append map_take map_drop range map_map)
open Prod (snd fst)
namespace Go.Ad
open Go.Plain Go Go.AE Go.Proofs
structure ZJ (x y:List Lt) (δ:Nat→Nat) (φ:Int→Int) (b:Bool):Prop where
 lt:∀ d,d<2*x.length→δ d<2*x.length
 inj:∀ d d',d<2*x.length→d'<2*x.length→δ d=δ d'→d=d'
 bk:∀ d,d<2*x.length→δ (Av d)=Av (δ d)
 tn:∀ d,d<2*x.length→(Ay x d).k=2→CX y (δ d)=δ (CX x d)
 tlt:∀ d,d<2*x.length→(Ay x d).k=2→CX x d<2*x.length∧(Ay x (Av (CX x d))).k=2
 k:∀ d,d<2*x.length→(Ay y (δ d)).k=(Ay x d).k
 i:∀ d,d<2*x.length→(Ay x d).k=2→(Ay x d).i=φ (Ay y (δ d)).i
 o:∀ d,d<2*x.length→(Ay x d).k=2→(Ay y (δ d)).o=((Ay x d).o != b)
 nx:∀ d,d<2*x.length→(Ay x d).k=2→(Ay x d).i≠0
 ny:∀ d,d<2*x.length→(Ay x d).k=2→(Ay y (δ d)).i≠0
 inn:∀ d d',d<2*x.length→d'<2*x.length→(Ay x d).k=2→(Ay x d').k=2→φ (Ay y (δ d)).i=φ (Ay y (δ d')).i→(Ay y (δ d)).i=(Ay y (δ d')).i
def Zp(b:Bool)(r:Rw):Rw:=if r.1=2 then (r.1,r.2.1,r.2.2.1,r.2.2.2 != b)else r
structure RN (x y:List Lt) (δ:Nat→Nat) (φ:Int→Int) (front:List Nat) (dx dy:List Int):Prop where
 lt:∀ d,d∈front→d<2*x.length
 dn:dx=dy.map φ
 src:∀ z,z∈dy → ∃ d,d<2*x.length∧(Ay x d).k=2∧(Ay y (δ d)).i=z
section
variable {x y:List Lt} {δ:Nat→Nat} {φ:Int→Int} {b:Bool} (h:ZJ x y δ φ b)
include h
theorem Z97{d a:Nat}(f:d<2*x.length)(b:a<2*x.length)(g:(Ay x d).k=2)(c:(Ay x a).k=2):(Ay x d).i=(Ay x a).i↔(Ay y (δ d)).i=(Ay y (δ a)).i:=by
 rw[h.i d f g,h.i a b c];exact⟨h.inn d a f b g c,λe=>by rw[e]⟩
variable {front:List Nat} {dx dy:List Int} (hF:RN x y δ φ front dx dy)
include hF
theorem Ylk{d:Nat}(a:d<2*x.length)(b:(Ay x d).k=2):(Ay x d).i∈dx↔(Ay y (δ d)).i∈dy:=by
 rw[hF.dn,h.i d a b];constructor
 ·intro hm;obtain⟨z,c,e⟩:=mM.1 hm;obtain⟨g,j,l,f⟩:=hF.src z c;rw[<-f]at e;have:=h.inn g d j a l b e;rw[<-this,f];exact c
 grind
theorem Yal{d:Nat}(e:d<2*x.length):It x dx d=0/\It y dy (δ d)=0\/((Ay x d).k=2/\It x dx d=(Ay x d).i/\It y dy (δ d)=(Ay y (δ d)).i/\(Ay x d).i≠0/\(Ay y (δ d)).i≠0):=by
 unfold It;rw[h.k d e];by_cases b:(Ay x d).k=2
 ·have:=Ylk h hF e b;by_cases hm:(Ay x d).i∈dx
  ·have a:=this.1 hm;exact .inl ⟨by rw[iN (λc=>c.2 hm)],by rw[iN (λc=>c.2 a)]⟩
  have a:(Ay y (δ d)).i∉dy:=λc=>hm (this.2 c);exact .inr ⟨b,by rw[iP ⟨b,hm⟩],by rw[iP ⟨b,a⟩],h.nx d e b,h.ny d e b⟩
 omega
omit h in
theorem Vc{j:Nat}(a:j<front.length):(front.map δ).getD j 0=δ (front.getD j 0)/\front.getD j 0<2*x.length:=by
 refine⟨?_,hF.lt _ (Kz a)⟩;grind
theorem Z64{d j:Nat}(l:d<2*x.length)(n:(Ay x d).k=2)(m:j+1<front.length):okF y (Ay y (δ d)).i (front.map δ) (j+1)=okF x (Ay x d).i front (j+1):=by
 obtain⟨f,b⟩:=Vc hF m;obtain⟨g,c⟩:=Vc hF (show j<front.length by omega);unfold okF;rw[show j+1-1=j from rfl,f,g,h.k _ b];generalize front.getD (j+1) 0=u at *;generalize front.getD j 0=v at *;by_cases a:(Ay x u).k=2
 ·have o:=Z97 h b l a n;have p:=h.tn u b a;have q:δ (CX x u)=Av (δ v)↔CX x u=Av v:=by
   rw[<-h.bk v c];exact⟨h.inj _ _ (h.tlt u b a).1 (JS c),λe=>by rw[e]⟩
  grind
 simp[a]
theorem Z72{d:Nat}(f:d<2*x.length)(l:(Ay x d).k=2):∀k j,front.length-(j+1)=k->D0 y (Ay y (δ d)).i (front.map δ) (j+1)=D0 x (Ay x d).i front (j+1):=by
 intro k;induction k with
 |zero=>
  intro j g;rw[JP (λc=>by grind),JP (λc=>by have:=c.1;omega)]
 |succ k m=>
  intro j g;have a:j+1<front.length:=by omega
  have e:=Z64 h hF f l a;by_cases b:okF x (Ay x d).i front (j+1)=true
  ·rw[Qu a b,Qu (by grind) (by rw[e];exact b),m (j+1) (by omega)]
  rw[JP (λc=>b c.2),JP (λc=>b (by rw[<-e];exact c.2))]
theorem Ybg(c:Nat){j:Nat}(f:j<front.length):U6 c y dy (front.map δ) j=U6 c x dx front j:=by
 obtain⟨e,d⟩:=Vc hF f;unfold U6;rw[e];rcases Yal h hF d with⟨a,b⟩|⟨g,a,b,n1,n2⟩
 ·grind
 rw[a,b,iN n1,iN n2,Z72 h hF d g _ j rfl]
omit h hF in
theorem qp{p q:Nat->Bool}:∀k j,(∀i,j<=i->i<j+k->p i=q i)->F2 p k j=F2 q k j
 |0,_,_=>rfl
 |k+1,j,h=>by
  simp only[F2];rw[h j (lR _) (by omega),qp k (j+1) (λi a b=>h i (by omega) (by omega))]
theorem Z9e:L7 (front.map δ)=L7 front:=by
 unfold L7;rw[lM];apply qp;intro i _ hi;obtain⟨b,d⟩:=Vc hF (show i<front.length by omega);obtain⟨c,a⟩:=Vc hF (show i+1<front.length by omega);unfold Pj;rw[b,c,<-h.bk _ a];have:δ (front.getD i 0)=δ (Av (front.getD (i+1) 0))↔front.getD i 0=Av (front.getD (i+1) 0):=⟨h.inj _ _ d (JS a),λe=>by rw[e]⟩;simp only[this]
omit hF in
theorem Zwk:∀k d,d<2*x.length->(Ay x d).k=2->U8 y (δ d) k=(U8 x d k).map δ /\ ∀u,u∈U8 x d k->u<2*x.length
 |0,_,_,_=>⟨rfl,λu a=>by simp[U8]at a⟩
 |k+1,d,c,e=>by
  obtain⟨b,t2⟩:=h.tlt d c e;obtain⟨f,g⟩:=Zwk k (Av (CX x d)) (JS b) t2;refine⟨?_,λu a=>?_⟩
  ·simp only[U8,map_cons];rw[h.tn d c e,<-h.bk _ b,f]
  rcases mC.1 a with rfl|a
  ·exact b
  exact g u a
theorem Yl9(c:Nat)(I:front≠[]):(O5 c x front dx=none->O5 c y (front.map δ) dy=none) /\ ∀r f dn,O5 c x front dx=some (r,f,dn) -> ∃v,O5 c y (front.map δ) dy=some (Zp b r,f.map δ,v)/\RN x y δ φ f dn v:=by
 have A:=Z9e h hF;have B:W1 (U6 c y dy (front.map δ)) (front.map δ).length=W1 (U6 c x dx front) front.length:=by
  rw[lM];exact s0 _ λj F=>Ybg h hF c F
 have w:0<front.length:=by grind
 unfold O5;rw[A,B,lM];by_cases l:L7 front<front.length-1
 ·rw[iP l,iP l];refine⟨λe=>(by cases e),λr f dn e=>?_⟩;simp only[oI,AT]at e;obtain⟨rfl,rfl,rfl⟩:=e;refine⟨dy,?_,⟨λd k=>?_,hF.dn,hF.src⟩⟩
  ·rw[map_append,map_take,map_drop];rfl
  rcases List.mem_append.1 k with k|k
  ·exact hF.lt _ (List.mem_of_mem_take k)
  exact hF.lt _ (List.mem_of_mem_drop k)
 rw[iN l,iN l];by_cases q:(W1 (U6 c x dx front) front.length).2=0
 ·grind
 rw[iN q,iN q];refine⟨λe=>(by cases e),λr f dn e=>?_⟩;simp only[oI,AT]at e;obtain⟨rfl,rfl,rfl⟩:=e;rcases QE (U6 c x dx front) front.length with⟨p,_,_⟩|⟨p,D,E⟩
 ·exact absurd p q
 obtain⟨s,J,K⟩:=Um (c:=c) (ls:=x) (done:=dx) (front:=front) (i:=(W1 (U6 c x dx front) front.length).1) (by rw[E];exact p);generalize (W1 (U6 c x dx front) front.length).1=a at *;generalize (W1 (U6 c x dx front) front.length).2=n at *;obtain⟨C,t⟩:=Vc hF D;rw[C];generalize front.getD a 0=d at *;obtain⟨G,H⟩:=Zwk h (4-n) d t s;refine⟨dy++[(Ay y (δ d)).i],?_,⟨λu g=>?_,?_,λz m=>?_⟩⟩
 ·rw[map_append,map_append,map_take,map_drop,G,h.o d t s];rfl
 ·rcases List.mem_append.1 g with g|g
  ·rcases List.mem_append.1 g with g|g
   ·exact hF.lt _ (List.mem_of_mem_take g)
   exact H _ g
  exact hF.lt _ (List.mem_of_mem_drop g)
 ·rw[map_append,<-hF.dn,h.i d t s];rfl
 rcases List.mem_append.1 m with m|m
 ·exact hF.src z m
 grind
end
theorem Zwr{x y:List Lt}{δ:Nat->Nat}{φ:Int->Int}{b:Bool}(h:ZJ x y δ φ b)(c:Nat):∀k front dx dy,RN x y δ φ front dx dy->Kf c y k (front.map δ) dy=(Kf c x k front dx).map (Zp b)
 |0,_,_,_,_=>rfl
 |k+1,front,dx,dy,hF=>by
  simp only[Kf];by_cases a:front=[]
  ·grind
  obtain⟨l,m⟩:=Yl9 h hF c a;rw[iN a,iN (λe=>a (List.map_eq_nil_iff.1 e))];cases d:O5 c x front dx with
  |none=>rw[l d];rfl
  |some w=>
   obtain⟨r,f,dn⟩:=w;obtain⟨g,i,j⟩:=m r f dn d;rw[i];simp only[map_cons];rw[Zwr h c k f dn g j]
theorem Ydf{x y:List Lt}{δ:Nat->Nat}{φ:Int->Int}{b:Bool}(h:ZJ x y δ φ b)(c:Nat)(a:∀d,d∈Y4 x->d<2*x.length)(g:Y4 y=(Y4 x).map δ)(j:X6 y=X6 x):X3 c y=(X3 c x).map (Zp b):=by
 have e:En y (Y4 y) []=En x (Y4 x) []:=by
  unfold En;rw[g,lM]
  congr 2
  have f:∀ls:List Lt,Z4 (λl=>AO l && !([]:List Int).contains l.i) ls=X6 ls:=λls=>by
   unfold X6;simp
  rw[f,f,j]
 unfold X3;rw[e,g];exact Zwr h c _ _ _ _ ⟨a,rfl,λz k=>by cases k⟩
theorem lT{p:Nat->Bool}:∀{n:Nat},(∃i,i<n/\p i=true) -> ∃i,i<n/\p i=true /\ ∀j,j<i->p j=false
 |0,⟨i,h,_⟩=>by omega
 |n+1,⟨i,h,e⟩=>by
  by_cases c:∃i,i<n/\p i=true
  ·obtain⟨i,d,a,b⟩:=lT c;exact⟨i,by omega,a,b⟩
  grind
def Gm(l:Lt):List Int:=[l.k,l.g,l.r,l.i,if l.o then 1 else 0,l.s]
def Hh:List Int→List Int→Bool
 | a :: r,b :: s=>if a=b then Hh r s else decide (a<b)
 | _,_=>false
theorem Yad(a b:Lt):Hh (Gm a) (Gm b)=Vt a b:=by
 unfold Vt Gm;simp only[Hh];grind
theorem qF:∀a:List Lt,E9 a a=false
 |[]=>rfl
 |x::r=>by simp[E9,qF r]
section
variable {α:Type}
def EA(id:Int):List (Int×α)→Option (Nat×α)
 | []=>none
 | (k,v) :: r=>if id=k then some (0,v)else match EA id r with
  | some (p,w)=>some (p+1,w)
  | none=>none
def A9(id:Int)(E:List (Int×α)):Option α:=(EA id E).map snd
def Gc(E:List (Int×α))(id:Int)(v:α):List (Int×α):=match EA id E with
 | some (p,_)=>E.set p (id,v)
 | none=>E++[(id,v)]
theorem zk(id:Int):A9 id ([]:List (Int×α))=none:=rfl
theorem WQ(id k:Int)(v:α)(r:List (Int×α)):A9 id ((k,v)::r)=if id=k then some v else A9 id r:=by
 unfold A9;simp only[EA];grind
theorem Yb5(id:Int)(v:α):Gc [] id v=[(id,v)]:=rfl
theorem Z9k(k:Int)(w:α)(r:List (Int×α))(id:Int)(v:α):Gc ((k,w)::r) id v=if id=k then (id,v)::r else (k,w)::Gc r id v:=by
 unfold Gc;by_cases h:id=k
 ·subst h;simp[EA]
 simp only[EA,iN h];cases EA id r<;>rfl
theorem oM(a id:Int)(v:α):∀(E:List (Int×α)),A9 a (Gc E id v)=if a=id then some v else A9 a E
 |[]=>by rw[Yb5,WQ,zk]
 | (k,w)::r=>by
  rw[Z9k];by_cases h:id=k
  ·subst h;rw[iP rfl,WQ,WQ];split<;>rfl
  rw[iN h,WQ,WQ,oM a id v r];grind
end
def FL(ls:List Lt):Nat→List (Int×Nat)
 | 0=>[]
 | i+1=>if AO (at' ls i)then Gc (FL ls i) (at' ls i).i i else FL ls i
def P6(ls:List Lt):Nat→List Nat
 | 0=>List.replicate ls.length 0
 | i+1=>if AO (at' ls i)then (match A9 (at' ls i).i (FL ls i)with
  | some j=>((P6 ls i).set i j).set j i
  | none=>P6 ls i)else P6 ls i
section
variable {ls:List Lt}
theorem VT:∀i,(P6 ls i).length=ls.length
 |0=>by simp[P6]
 |i+1=>by
  simp only[P6];split
  ·split<;>simp[VT i]
  exact VT i
theorem jO:∀i,(∀id j,A9 id (FL ls i)=some j->j<i/\AO (at' ls j)=true/\(at' ls j).i=id) /\ ∀j,j<i->AO (at' ls j)=true -> ∃k,A9 (at' ls j).i (FL ls i)=some k
 |0=>⟨λid j h=>by simp[FL,zk]at h,λj f=>by omega⟩
 |i+1=>by
  obtain⟨c,d⟩:=jO i;simp only[FL];split
  ·rename_i g;refine⟨λid j h=>?_,λj f a=>?_⟩
   ·rw[oM]at h;split at h
    ·rename_i e;injection h with h
     subst h;exact⟨Nat.lt_succ_self _,g,e.symm⟩
    have:=c id j h;exact⟨by omega,this.2⟩
   rw[oM];split
   ·exact⟨_,rfl⟩
   rename_i e;have:j≠i:=λb=>e (by rw[b]);exact d j (by omega) a
  grind
theorem y8(h:Wv ls)(p:∀v x,v<ls.length->(at' ls v).k=2->x<ls.length->(at' ls x).k=2->(at' ls x).i=(at' ls v).i->x=v\/x=V4 ls v ls.length 0)
 (o:∀v,v<ls.length->(at' ls v).k=2->V4 ls v ls.length 0≠v/\(at' ls (V4 ls v ls.length 0)).i=(at' ls v).i):∀i,i<=ls.length -> ∀v,v<i->(at' ls v).k=2->BY ls v<i->(P6 ls i)[v]?=some (BY ls v)
 |0,_,v,w,_,_=>by omega
 |i+1,hi,v,w,c,D=>by
  have l:=y8 h p o i (by omega);simp only[P6];by_cases d:AO (at' ls i)=true
  ·rw[iP d];have b:(at' ls i).k=2:=by simpa[AO]using d
   obtain⟨t,m⟩:=jO (ls:=ls) i;obtain⟨w1,w2,G,H,I⟩:=h.Cp i (by omega) b;obtain⟨C,F⟩:=o i (by omega) b;have n:=VT (ls:=ls) i;cases q:A9 (at' ls i).i (FL ls i)with
   |none=>
    simp only;have g:v≠i:=λe=>by
     subst e;have:BY ls v<v:=by
      have:BY ls v≠v:=C;omega
     obtain⟨y,f⟩:=m (BY ls v) this (by simp only[AO];unfold BY;rw[w2];rfl);grind
    have a:BY ls v≠i:=λe=>by
     obtain⟨y,f⟩:=m v (by omega) (by simp[AO,c]);grind
    exact l v (by omega) c (by omega)
   |some j=>
    simp only;obtain⟨E,z,A⟩:=t _ _ q;have u:j=BY ls i:=(p i j (by omega) b (by omega) (by simpa[AO]using z) A).resolve_left (by omega);subst u;rw[List.getElem?_set,List.getElem?_set];by_cases r:BY ls i=v
    ·grind
    rw[iN r];by_cases s:i=v
    ·grind
    rw[iN s];have a:BY ls v≠i:=λe=>by
     grind
    exact l v (by omega) c (by omega)
  rw[iN d];have g:v≠i:=λe=>d (by rw[<-e];simp[AO,c]);have a:BY ls v≠i:=λe=>d (by
   obtain⟨_,B,_⟩:=h.Cp v (by omega) c;have:(at' ls (BY ls v)).k=2:=B;rw[e]at this;simp[AO,this])
  exact l v (by omega) c (by omega)
abbrev Ps:=Nat×Nat
def EG(ls:List Lt)(i:Nat):List Ps:=((range i).filter fun j=>As (at' ls j)).map fun j=>(j,Ca ls j)
theorem Yeh:EG ls 0=[]:=rfl
theorem Yjj{i:Nat}(h:As (at' ls i)=true):EG ls (i+1)=EG ls i++[(i,Ca ls i)]:=by
 unfold EG;rw[List.range_succ,List.filter_append,map_append];simp[h]
theorem Yey{i:Nat}(h:As (at' ls i)=false):EG ls (i+1)=EG ls i:=by
 unfold EG;rw[List.range_succ,List.filter_append,map_append];simp[h]
theorem yp{i:Nat}{p:Ps}(h:p∈EG ls i):p.1<i/\As (at' ls p.1)=true/\p.2=Ca ls p.1:=by
 obtain⟨j,a,rfl⟩:=mM.1 h;grind
theorem ry(i:Nat):(EG ls i).length<=i:=by
 unfold EG;grind
def EU(ls:List Lt)(a b:Ps):Int:=if (at' ls a.1).g=(at' ls b.1).g then (at' ls a.1).r - (at' ls b.1).r else (at' ls a.1).g - (at' ls b.1).g
theorem Yir(n:Qs ls){d:List Ps}(o:d.Perm (EG ls ls.length))(v:d.Pairwise λa b=>EU ls a b<=0):d.map snd=Y4 ls:=by
 have hm:∀p,p∈d->p.1<ls.length/\As (at' ls p.1)=true/\p.2=Ca ls p.1:=λp h=>yp (o.mem_iff.1 h);have c:d.map snd=(d.map fst).map (Ca ls):=by
  rw[map_map];exact List.map_congr_left λp h=>(hm p h).2.2
 have u:d.map fst=Z2 ls:=by
  have g:(d.map fst).Perm (Z2 ls):=by
   refine(o.map fst).trans ?_;have:(EG ls ls.length).map fst=(range ls.length).filter λj=>As (at' ls j):=by
    unfold EG;rw[map_map];exact List.map_id' _
   rw[this];exact(Nn ls ls.length).symm
  have w:(d.map fst).Nodup:=g.nodup_iff.2 (Qx ls);have m:(d.map fst).Pairwise (λa b=>S1 (at' ls a) (at' ls b)=true):=by
   have f:d.Pairwise λa b=>a.1≠b.1:=by
    grind
   rw[List.pairwise_map];refine(v.and f).imp_of_mem λ{a b} k l h=>?_;obtain⟨i,c⟩:=h;obtain⟨q,r,_⟩:=hm a k;obtain⟨s,t,_⟩:=hm b l;rcases uj (a:=at' ls a.1) (b:=at' ls b.1) (λe=>c (n _ _ q s r t e.1 e.2))with h|h
   ·exact h
   exfalso;unfold EU at i;simp only[S1,Bool.or_eq_true,bA,decide_eq_true_eq,beq_iff_eq]at h;split at i<;>omega
  refine List.Perm.eq_of_pairwise (le:=λa b=>S1 (at' ls a) (at' ls b)=true) (λa b _ _ i c=>?_) m (ZS n ls.length (lR _)) g;rw[oT i]at c;cases c
 rw[c,u];rfl
end
end Go.Ad
