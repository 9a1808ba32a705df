/- Part 40 -/
import Derived.Test.YtilmpmlkndfbjaaGreatDoorT39
set_option linter.all false
open List (mem_cons_of_mem mem_cons_self mem_singleton range map_cons sum_cons flatten_cons append_assoc)
namespace Go.Ad
open Go.Plain
def Kv(T:Nat→Nat):List Nat→Prop
 | []=>False
 | [_]=>True
 | x :: y :: r=>y=T x∧Kv T (y :: r)
def P0(s:List Nat):Nat:=s.getLastD 0
def Gj(s:List Nat):Nat:=s.headD 0
theorem Z7k(x:Nat):P0 [x]=x:=rfl
theorem Oq(x y:Nat)(r:List Nat):P0 (x::y::r)=P0 (y::r):=by
 rfl
theorem ZN:∀{s:List Nat},s≠[]->P0 s∈s
 |[x],_=>by simp[Z7k]
 |x::y::r,_=>by rw[Oq];exact mem_cons_of_mem _ (ZN (by simp))
theorem aN{s:List Nat}(h:s≠[]):Gj s∈s:=by
 cases s with
 |nil=>exact absurd rfl h
 |cons x r=>exact mem_cons_self
theorem Yio{T:Nat->Nat}{s:List Nat}(h:Kv T s):s≠[]:=λe=>by subst e;exact h
theorem mE{T:Nat->Nat}{x y:Nat}{r:List Nat}(h:Kv T (x::y::r)):Kv T (y::r):=h.2
theorem aY{T:Nat->Nat}:∀{s:List Nat},Kv T s -> ∀x,x∈s -> ∃j,it T j x=P0 s
 |[y],_,x,a=>by
  rw[mem_singleton]at a;subst a;exact⟨0,rfl⟩
 |y::z::r,h,x,a=>by
  rw[Oq];rcases mC.1 a with rfl|a
  ·obtain⟨j,b⟩:=aY (mE h) z mem_cons_self;refine⟨j+1,?_⟩;show T (it T j x)=_;have e:=KK T j x;rw[<-e,<-h.1];exact b
  exact aY (mE h) x a
theorem zJ{T:Nat->Nat}:∀{s:List Nat},Kv T s->s.Nodup -> ∀y,y∈s->y=Gj s \/ ∃x,x∈s/\T x=y/\x≠P0 s
 |[z],_,_,y,c=>by
  rw[mem_singleton]at c;exact .inl c
 |a::b::r,h,d,y,c=>by
  rw[List.nodup_cons]at d;rcases mC.1 c with rfl|c
  ·exact .inl rfl
  refine .inr ?_;rw[Oq];rcases zJ (mE h) d.2 y c with e|⟨x,g,i,j⟩
  ·refine⟨a,mem_cons_self,?_,λf=>?_⟩
   ·rw[e];exact h.1.symm
   exact d.1 (f ▸ ZN (by simp))
  grind
theorem Ycw{S:List (List Nat)}(c:S.flatten.Nodup):∀{s b:List Nat}{x:Nat},s∈S->b∈S->x∈s->x∈b->s=b:=by
 unfold List.Nodup at c;have d:=(List.pairwise_flatten.1 c).2;clear c;induction S with
 |nil=>grind
 |cons a r i=>
  intro s b x g e h f;rw[List.pairwise_cons]at d;grind
theorem Ygn{S:List (List Nat)}(a:S.flatten.Nodup){s:List Nat}(h:s∈S):s.Nodup:=by
 grind
structure yG (T:Nat→Nat) (N:Nat) (S:List (List Nat)):Prop where
 seg:∀ s,s∈S→Kv T s
 nd:S.flatten.Nodup
 GH:∀ d,d<N↔d∈S.flatten
section
variable {T:Nat→Nat} {N:Nat} (hP:Cl T N)
include hP
variable {S:List (List Nat)} (hC:yG T N S)
include hC
omit hP in
theorem yz{s:List Nat}(h:s∈S):s≠[]:=Yio (hC.seg s h)
omit hP in
theorem qD{s:List Nat}{x:Nat}(h:s∈S)(a:x∈s):x<N:=(hC.GH x).2 (List.mem_flatten.2 ⟨s,h,a⟩)
theorem Zze{s:List Nat}(h:s∈S):T (P0 s)∈S.map Gj:=by
 have b:=ZN (yz hC h);have c:=hP.lt _ (qD hC h b);obtain⟨i,a,g⟩:=List.mem_flatten.1 ((hC.GH _).1 c);rcases zJ (hC.seg i a) (Ygn hC.nd a) _ g with e|⟨x,d,f,j⟩
 ·grind
 have:=hP.inj _ _ (qD hC a d) (qD hC h b) f;subst this;have:=Ycw hC.nd h a b d;grind
omit hP in
def DU(S:List (List Nat))(x:Nat):Bool:=decide (x∈S.map Gj)
def KN(T:Nat→Nat)(s:List Nat):Bool:=decide (T (P0 s)=Gj s)
theorem kI{w:List Nat}(a:w∈Q8 T N){x:Nat}(b:x∈w):∀j,it T j x∈w
 |0=>b
 |j+1=>(WB hP w a _ (kI a b j)).2
theorem Yjg{w:List Nat}(b:w∈Q8 T N):∃s,s∈S/\P0 s∈w/\T (P0 s)∈w.filter (DU S):=by
 have a:=Zx2 (n:=N) w b;obtain⟨x,f⟩:∃x,x∈w:=List.exists_mem_of_length_pos a;have e:=(WB hP w b x f).1;obtain⟨s,c,g⟩:=List.mem_flatten.1 ((hC.GH _).1 e);obtain⟨j,h⟩:=aY (hC.seg s c) x g;have d:=kI hP hC b f j;rw[h]at d;exact⟨s,c,d,List.mem_filter.2 ⟨(WB hP w b _ d).2,by unfold DU;exact decide_eq_true (Zze hP hC c)⟩⟩
theorem Yi7{w:List Nat}(g:w∈Q8 T N):2<=(w.filter (DU S)).length+(w.filter (DU (S.filter (KN T)))).length:=by
 obtain⟨s,p,q,d⟩:=Yjg hP hC g;by_cases h:2<=(w.filter (DU S)).length
 ·omega
 have r:=List.length_pos_of_mem d;obtain⟨a,n⟩:∃a,w.filter (DU S)=[a]:=List.length_eq_one_iff.1 (by omega);have l:=(List.mem_filter.1 d).2;unfold DU at l;obtain⟨b,c,e⟩:=mM.1 (of_decide_eq_true l);have k:T (P0 s)∈w:=by grind
 have f:P0 b∈w:=by
  obtain⟨j,o⟩:=aY (hC.seg b c) _ (aN (yz hC c));rw[<-o,e];exact kI hP hC g k j
 have i:T (P0 b)∈w.filter (DU S):=List.mem_filter.2 ⟨(WB hP w g _ f).2,by unfold DU;exact decide_eq_true (Zze hP hC c)⟩;rw[n,mem_singleton]at d i;have m:KN T b=true:=by
  unfold KN;rw[i,e,d];simp
 have:T (P0 s)∈w.filter (DU (S.filter (KN T))):=List.mem_filter.2 ⟨k,by
  unfold DU;exact decide_eq_true (mM.2 ⟨b,List.mem_filter.2 ⟨c,m⟩,e⟩)⟩
 grind
omit hP hC in
theorem Zw9(R:List (List Nat)):((range N).filter (DU R)).length<=R.length:=by
 have:=List.Nodup.length_le_of_subset (l₁:=(range N).filter (DU R)) (l₂:=R.map Gj) (List.nodup_range.filter _) λy a=>by
  have:=(List.mem_filter.1 a).2;unfold DU at this;grind
 simpa using this
omit hP hC in
theorem Zx3{f:List Nat->Nat}{c:Nat}:∀(L:List (List Nat)),(∀w,w∈L->c<=f w)->c*L.length<=(L.map f).sum
 |[],_=>by simp
 |w::r,h=>by
  have b:=h w mem_cons_self;have d:=Zx3 r λw a=>h w (mem_cons_of_mem _ a);rw[lC,map_cons,sum_cons,Nat.mul_add];omega
omit hP hC in
omit hP hC in
theorem Zxs{f g:List Nat->Nat}:∀(L:List (List Nat)),(L.map λw=>f w+g w).sum=(L.map f).sum+(L.map g).sum
 |[]=>rfl
 |w::r=>by
  rw[map_cons,map_cons,map_cons,sum_cons,sum_cons,sum_cons,Zxs r];omega
omit hP hC in
theorem Yd2:H0 T N=(Q8 T N).length:=by
 unfold H0 Q8;rw[Pc]
theorem Yjm:2*H0 T N<=S.length+(S.filter (KN T)).length:=by
 have a:=Zx3 (f:=λw=>(w.filter (DU S)).length+(w.filter (DU (S.filter (KN T)))).length) (c:=2) (Q8 T N) λw b=>Yi7 hP hC b;rw[Zxs,zq hP,zq hP]at a;have d:=Zw9 (N:=N) S;have e:=Zw9 (N:=N) (S.filter (KN T));rw[Yd2];omega
end
def HX(T:Nat→Nat):Nat→List Nat→Nat→Prop
 | s,[],e=>s=e
 | s,x :: p,e=>x=T s∧HX T x p e
theorem HX.app{T:Nat->Nat}:∀{p:List Nat}{s e g:Nat}{q:List Nat},HX T s p e->HX T e q g->HX T s (p++q) g
 |[],_,_,_,_,h,a=>by
  have:_=_:=h;subst this;exact a
 |x::p,_,_,_,_,h,a=>⟨h.1,h.2.app a⟩
theorem HX.seg{T:Nat->Nat}:∀{p:List Nat}{s e:Nat},HX T s p e->p≠[]->Kv T p/\Gj p=T s/\P0 p=e
 |[x],s,e,h,_=>⟨trivial,h.1,h.2⟩
 |x::y::p,s,e,h,_=>by
  obtain⟨a,b,c⟩:=HX.seg h.2 (by simp);refine⟨⟨?_,a⟩,h.1,by rw[Oq];exact c⟩;exact b
def Vz(T:Nat→Nat)(w:List Nat):Prop:=w≠[] ∧ ∃ z,HX T z w z
theorem Vz.seg{T:Nat->Nat}{w:List Nat}(h:Vz T w):Kv T w/\T (P0 w)=Gj w:=by
 obtain⟨h0,z,h⟩:=h;obtain⟨a,b,c⟩:=h.seg h0;grind
def Gs(T bk:Nat→Nat):Nat→List Nat→List (List Nat)→Prop
 | _,[],[]=>True
 | s,x :: fr,p :: ps=>p≠[]∧HX T s p x∧Gs T bk (bk x) fr ps
 | _,_,_=>False
def Tn(bk:Nat→Nat):Nat→List Nat→Nat
 | s,[]=>s
 | _,x :: l=>Tn bk (bk x) l
section
variable {T bk:Nat→Nat}
theorem Gs.split:∀{l r:List Nat}{s:Nat}{ps:List (List Nat)},Gs T bk s (l++r) ps -> ∃p1 a,ps=p1++a/\Gs T bk s l p1/\Gs T bk (Tn bk s l) r a
 |[],r,s,ps,h=>⟨[],ps,rfl,trivial,h⟩
 |x::l,r,s,p::ps,h=>by
  obtain⟨p1,a,e,b,c⟩:=Gs.split (l:=l) h.2.2;exact⟨p::p1,a,by rw[e];rfl,⟨h.1,h.2.1,b⟩,c⟩
theorem Gs.app:∀{l r:List Nat}{s:Nat}{p1 a:List (List Nat)},Gs T bk s l p1->Gs T bk (Tn bk s l) r a->Gs T bk s (l++r) (p1++a)
 |[],_,_,[],_,_,h=>h
 |_::_,_,_,_::_,_,h,b=>⟨h.1,h.2.1,h.2.2.app b⟩
def Ku(T bk:Nat→Nat):Nat→List Nat→Nat→Prop
 | e,[],u=>u=T e
 | e,o :: os,u=>o=T e∧Ku T bk (bk o) os u
def ER(T bk:Nat→Nat):List Nat→Prop
 | []=>False
 | [_]=>True
 | y :: y' :: r=>T y'=bk y∧ER T bk (y' :: r)
theorem yd{u z:Nat}{d:List Nat}{r:List Nat}{c:List (List Nat)}(g:HX T u d z)(f:Gs T bk (bk z) r c):∀(a:List Nat) (s e:Nat) (q:List Nat),HX T s q e->Ku T bk e a u ->
 ∃ps,Gs T bk s (a++z::r) ps/\ps.flatten=q++a++u::(d++c.flatten)
 |[],s,e,q,b,h=>by
  have h:u=T e:=h;refine⟨(q++u::d)::c,⟨by simp,b.app ⟨h,g⟩,f⟩,by simp⟩
 |o::os,s,e,q,b,h=>by
  obtain⟨ps,i,j⟩:=yd g f os (bk o) (bk o) [] rfl h.2;refine⟨(q++[o])::ps,⟨by simp,b.app ⟨h.1,rfl⟩,i⟩,?_⟩;grind
theorem Zwg:∀(ins r:List Nat) (s:Nat) (ps:List (List Nat)),ER T bk ins->r≠[]->Gs T bk s (ins++r) ps ->
 ∃(p1:List Nat) (z:Nat) (e b:List Nat) (c d:List (List Nat)),HX T s p1 (Gj ins)/\r=z::e/\b≠[]/\HX T (bk (P0 ins)) b z/\Gs T bk (bk z) e c/\(∀w,w∈d->Vz T w)/\d.length+1=ins.length /\
  (d.flatten++p1++bk (P0 ins)::(b++c.flatten)).Perm (ps.flatten++ins.map bk)
 |[y],r,s,ps,_,g,h=>by
  cases r with
  |nil=>exact absurd rfl g
  |cons z e=>
   match ps,h with
   |[],h=>exact h.elim
   |[_],h=>exact h.2.2.elim
   |p1::b::c,h=>
    refine⟨p1,z,e,b,c,[],h.2.1,rfl,h.2.2.1,h.2.2.2.1,h.2.2.2.2,λw f=>(by cases f),rfl,?_⟩;show(p1++bk y::(b++c.flatten)).Perm _;grind
 |y::i::t,r,s,ps,j,g,h=>by
  match ps,h with
  |[],h=>exact h.elim
  |p::ps,h=>
   obtain⟨p1,z,e,b,c,d,k,l,m,n,o,q,u,v⟩:=Zwg (i::t) r (bk y) ps j.2 g h.2.2;refine⟨p,z,e,b,c,(p1++[bk y])::d,h.2.1,l,m,by rw[Oq];exact n,o,λw f=>?_,by grind,?_⟩
   ·rcases mC.1 f with rfl|f
    ·refine⟨by simp,bk y,k.app ⟨?_,rfl⟩⟩;exact j.1.symm
    exact q w f
   rw[Oq];rw[flatten_cons,flatten_cons,map_cons];generalize bk (P0 (i::t))::(b++c.flatten)=X at *;generalize (i::t).map bk=M at *;have A:(p1++[bk y]++d.flatten++p++X).Perm (p++([bk y]++(d.flatten++p1++X))):=by
    rw[List.perm_iff_count];intro a;simp only[List.count_append];omega
   grind
def Jz(T bk:Nat→Nat)(A:Nat)(front CR:List Nat)(c:Nat):Prop:=
 ∃ ps cl:List (List Nat),Gs T bk A (front++[A]) ps∧(∀ w,w∈cl→Vz T w)∧cl.length=c∧(cl.flatten++ps.flatten).Perm CR
variable {A:Nat}
theorem Jz.cap{l r i:List Nat}{x y c:Nat}(h:Jz T bk A (l++x::y::r) i c)(v:bk x=y)(B:bk y=x):Jz T bk A (l++r) i (c+1):=by
 obtain⟨ps,p,m,t,u,G⟩:=h;rw[append_assoc]at m;obtain⟨p1,C,rfl,q,d⟩:=m.split;obtain⟨z,g,n⟩:∃z g,r++[A]=z::g:=by
  cases r with
  |nil=>exact ⟨A,[],rfl⟩
  |cons a b=>grind
 have e:(x::y::r)++[A]=x::y::z::g:=by rw[<-n];rfl
 rw[e]at d
 match C,d with
 |[],d=>exact d.elim
 |[_],d=>exact d.2.2.elim
 |[_,_],d=>exact d.2.2.2.2.elim
 |px::E::F::D,d=>
  obtain⟨n1,o,n2,j,H,k,s⟩:=d;rw[v]at j;rw[B]at k;refine⟨p1++(px++F)::D,E::p,?_,λw f=>?_,by rw[lC,u],?_⟩
  ·rw[append_assoc,n];exact q.app ⟨by simp[n1],o.app k,s⟩
  ·rcases mC.1 f with rfl|f
   ·exact⟨n2,y,j⟩
   exact t w f
  grind
theorem Jz.DH{l ins b r i:List Nat}{c:Nat}(h:Jz T bk A (l++ins++r) i c)(v:ER T bk ins)(u:Ku T bk (Gj ins) b (bk (P0 ins))) :
 Jz T bk A (l++b++r) (i++(b++ins.map bk)) (c+(ins.length-1)):=by
 obtain⟨ps,q,j,G,H,f⟩:=h;rw[append_assoc,append_assoc]at j;obtain⟨p1,y,rfl,s,t⟩:=j.split;obtain⟨B,z,L,K,J,e,k,m,C,n,o,D,E,d⟩:=Zwg ins (r++[A]) _ y v (by simp) t;obtain⟨g,p,F⟩:=yd n o b _ _ B k u;refine⟨p1++g,e++q,?_,λw I=>?_,by grind,?_⟩
 ·rw[append_assoc,append_assoc,m];exact s.app p
 ·grind
 rw[List.perm_iff_count]at f d ⊢;intro a;have f:=f a;have d:=d a;grind
theorem Jz.done{d:List Nat}{c:Nat}(h:Jz T bk A [] d c):∃S:List (List Nat),(∀s,s∈S->Vz T s)/\S.flatten.Perm d/\S.length=c+1:=by
 obtain⟨ps,e,a,f,g,i⟩:=h
 match ps,a with
 |[],a=>exact a.elim
 |[p],a=>
  refine⟨p::e,λs b=>?_,?_,by rw[lC,g]⟩
  ·rcases mC.1 b with rfl|b
   ·exact⟨a.1,A,a.2.1⟩
   exact f s b
  grind
 |_::_::_,a=>exact a.2.2.elim
theorem um{N:Nat}(hi:∀a b,a<N->b<N->T a=T b->a=b)(g:∀a,a<N->bk a<N):∀(fr:List Nat) (x:Nat) (ps:List (List Nat)),x<N->(∀d,d∈fr->d<N) ->
 (∀i,i+1<(x::fr).length->(x::fr).getD (i+1) 0≠bk ((x::fr).getD i 0))->Gs T bk (bk x) (fr++[A]) ps ->
 ∃c p,ps=c++[p]/\c.length=fr.length/\p≠[]/\(∃s,HX T s p A) /\ ∀q,q∈c->Kv T q/\KN T q=false
 |[],x,ps,_,_,_,h=>by
  match ps,h with
  |[],h=>exact h.elim
  |[p],h=>exact ⟨[],p,rfl,rfl,h.1,⟨_,h.2.1⟩,λq z=>(by cases z)⟩
  |_::_::_,h=>exact h.2.2.elim
 |y::fr,x,ps,B,k,j,h=>by
  match ps,h with
  |[],h=>exact h.elim
  |q::ps,h=>
   have l:=k y mem_cons_self;obtain⟨c,p,e,C,r,u,v⟩:=um hi g fr y ps l (λd w=>k d (mem_cons_of_mem _ w)) (λi hi=>j (i+1) (by grind)) h.2.2;refine⟨q::c,p,by rw[e];rfl,by grind,r,u,λt f=>?_⟩;rcases mC.1 f with rfl|f
   ·obtain⟨m,n,o⟩:=h.2.1.seg h.1;refine⟨m,?_⟩;unfold KN;rw[n,o];refine decide_eq_false λe=>?_;have:=hi _ _ l (g _ B) e;exact j 0 (by simp) this
   exact v t f
theorem Jz.stuck{N:Nat}(hi:∀a b,a<N->b<N->T a=T b->a=b)(w:∀a,a<N->bk a<N){front k:List Nat}{c:Nat}(h:Jz T bk A front k c)(h0:front≠[])(l:∀d,d∈front->d<N)
 (y:∀i,i+1<front.length->front.getD (i+1) 0≠bk (front.getD i 0)) :
 ∃S:List (List Nat),(∀s,s∈S->Kv T s)/\S.flatten.Perm k/\S.length=c+front.length/\(S.filter (KN T)).length<=c+1:=by
 obtain⟨ps,o,f,r,u,v⟩:=h;cases front with
 |nil=>exact absurd rfl h0
 |cons x fr=>
  match ps,f with
  |[],f=>exact f.elim
  |p0::ps,f=>
   obtain⟨j,p,rfl,C,m2,⟨s,D⟩,n⟩:=um hi w fr x ps (l x mem_cons_self) (λd z=>l d (mem_cons_of_mem _ z)) y f.2.2;have g:=D.app f.2.1;have m:j.filter (KN T)=[]:=List.filter_eq_nil_iff.2 λq B=>by rw[(n q B).2];simp
   refine⟨(p++p0)::(j++o),λt e=>?_,?_,?_,?_⟩
   ·rcases mC.1 e with rfl|e
    ·exact(g.seg (by simp[m2])).1
    rcases List.mem_append.1 e with e|e
    ·exact(n t e).1
    exact(r t e).seg.1
   ·refine List.Perm.trans ?_ v;rw[List.perm_iff_count];intro a;simp only[flatten_cons,List.flatten_append,List.flatten_nil,List.count_append,List.append_nil];omega
   ·rw[lC,lA,C,u,lC];omega
   grind
end
theorem AH.nm{f:Int}{x:List Lt}(h:AH f x):GC x:=λa hm b=>by
 have:=(Ik b).1 (h.Ea a hm);omega
theorem Ye0{y:List Lt}(h:Ev y):(at' (Q6 y) 0).k=1:=by
 obtain⟨c,b,a,d⟩:=lT h.bk;rw[mV b a d];have f:As (at' y.reverse c)=true:=by simp only[Is,bA]at a;exact a.1
 have e:=Oh (y:=y.reverse) (s:=c) (p:=0) (by grind) (by grind);rw[List.length_reverse,Xu b]at e;rw[e];simpa[As]using f
theorem qh{y:List Lt}{a:Lt}(h:a∈Q6 y):a∈y:=by
 unfold Q6 at h;split at h
 ·unfold U2 at h;rcases List.mem_append.1 h with h|h
  ·exact List.mem_reverse.1 (List.mem_of_mem_drop h)
  exact List.mem_reverse.1 (List.mem_of_mem_take h)
 grind
theorem Z6g:∀(l:List Lt) (met:List Int),met.Nodup->(l.foldl M9 met).Nodup
 |[],_,h=>h
 |a::r,met,h=>by
  rw[List.foldl_cons];refine Z6g r _ ?_;unfold M9;split
  ·rename_i b;have f:a.i∉met:=λhm=>by
    have:∀m:List Int,a.i∈m->V0 a.i m≠0:=by
     intro m;induction m with
     |nil=>intro c;cases c
     |cons z r d=>
      intro c;simp only[V0];by_cases e:a.i=z
      ·rw[iP e];decide
      rw[iN e];rcases mC.1 c with c|c
      ·exact absurd c e
      rw[iN (d c)];omega
    exact this met hm b.2
   grind
  exact h
theorem Zwb{ls:List Lt}:∀met:List Int,met.Nodup->(∀z,z∈met->J8 z ls=2)->Z4 (λl=>AO l&&met.contains l.i) ls=2*met.length
 |[],_,_=>by
  have:Z4 (λl=>AO l&&([]:List Int).contains l.i) ls=Z4 (λ_=>false) ls:=by grind
  rw[this];simp[Z4]
 |z::r,b,c=>by
  rw[List.nodup_cons]at b;have f:=Pp (λl=>AO l&&(z::r).contains l.i) (λl=>l.i == z) ls;have d:Z4 (λl=>AO l&&(z::r).contains l.i&&(l.i == z)) ls=J8 z ls:=by
   unfold J8;refine J3 λl _=>?_;by_cases a:l.i=z
   ·simp[a]
   have:(l.i == z)=false:=by simpa using a
   simp[this]
  have e:Z4 (λl=>AO l&&(z::r).contains l.i && !(l.i == z)) ls=Z4 (λl=>AO l&&r.contains l.i) ls:=by
   refine J3 λl _=>?_;by_cases a:l.i=z
   ·have:=b.1;simp[a,this]
   simp[a]
  rw[d,e,c z (mem_cons_self ..),Zwb r b.2 (λw g=>c w (mem_cons_of_mem _ g))]at f;grind
theorem Yab{y:List Lt}{z:Int}(h:z∈U3 y y.length):∃a,a∈y/\a.k=2/\a.i=z:=by
 have:∀(l:List Lt) (met:List Int),z∈l.foldl M9 met->z∈met \/ ∃a,a∈l/\a.k=2/\a.i=z:=by
  intro l;induction l with
  |nil=>exact λmet h=>.inl h
  |cons a r e=>
   intro met h;rw[List.foldl_cons]at h;rcases e _ h with h|⟨b,c,d⟩
   ·rcases bT h with h|h
    ·exact .inl h
    exact .inr ⟨a,mem_cons_self ..,h⟩
   exact .inr ⟨b,mem_cons_of_mem _ c,d⟩
 unfold U3 at h;grind
theorem lP{y:List Lt}(h:∀a,a∈y->a.k=2->J8 a.i y=2):GC (X7 y):=by
 have c:X6 (X7 y)=X6 y:=by
  rw[Xt];unfold X6;rw[UK];exact J3 λl _=>by unfold AO;rw[ET]
 have j:2*(U3 y y.length).length<=X6 y:=by
  rw[<-Zwb (ls:=y) (U3 y y.length) (Z6g _ [] List.nodup_nil) λz o=>by
   obtain⟨a,d,e,rfl⟩:=Yab o;exact h a d e]
  exact Zzx λl g=>by simp at g;exact g.1
 intro a hm f;rw[c];rw[Xt]at hm;obtain⟨b,m,rfl⟩:=mM.1 hm;rw[ET]at f;rw[J2 f];simp only;obtain⟨p,n,rfl⟩:=KV m;have d:=oO n f;have e:=aO d (y.length-(p+1)) (by omega);rw[show p+1+(y.length-(p+1))=y.length by omega]at e;have q:=Zwz (x:=(at' y p).i) (met:=U3 y y.length);omega
theorem jC{y:List Lt}{a:Lt}{i:Nat}(h:a∈U2 i y):a∈y:=by
 unfold U2 at h;grind
theorem Yas{f:Int}{y:List Lt}(hv:AH f y)(h0:y≠[]):GC (R8 y):=by
 have g:∀z,J8 z (Q6 y)=J8 z y:=λz=>by
  unfold J8 Q6;split
  ·rw[MT];unfold Z4;grind
  unfold Z4;grind
 have d:∀a,a∈y->a.k=2->J8 a.i y=2:=λa hm b=>((Ik b).1 (hv.Ea a hm)).2.2.2.2.2.2;have c:∀i z (l:List Lt),J8 z (U2 i l)=J8 z l:=λi z l=>MT _ _ _;rcases fS h0 (by simp[As,hv.fst])with⟨i,_,_,e⟩|⟨i,_,_,e⟩
 ·rw[e];unfold M3;exact lP λa hm b=>by rw[c];exact d a (jC hm) b
 rw[e];unfold M3;exact lP λa hm b=>by rw[c,g];exact d a (qh (jC hm)) b
section
variable {f:Int} {y:List Lt} (hv:AH f y) (h0:y≠[])
include hv h0
def KU(x y:List Lt):Prop:=X3 4 x=X3 4 y∧X3 4 (Bi x)=X3 4 (Bi y) ∧ ∀ g,Bl g x=Bl g y
theorem aU{e:Bool}{x:List Lt}(a:De e y x)(b:(at' x 0).k=1)(g:GC x):AH f x/\x≠[]/\KU x y:=by
 have d:=hv.de a b g;have x0:x≠[]:=λc=>by rw[c]at b;cases b
 have ty:=(hv.IL h0).1;have h:=(d.IL x0).1;exact⟨d,x0,Zxi hv a b g,Zxi ty (Yc1 (hv.tf h0) (d.tf x0) a) h.fst h.nm,uw a⟩
theorem Z95:AH f (Q6 y)/\Q6 y≠[]/\KU (Q6 y) y:=by
 have b:=hv.To h0;refine aU hv h0 (VW b) (Ye0 b) λa hm c=>?_;have:=hv.nm a (qh hm) c;rwa[<-nD (VW b)]at this
theorem Yh3:AH f (R8 y)/\R8 y≠[]/\KU (R8 y) y:=by
 have a:=hv.To h0;have hC:=fS h0 (by simp[As,hv.fst]);obtain⟨e,b⟩:=dD a hC;exact aU hv h0 b (by simpa[As]using (Zz1 a hC).1) (Yas hv h0)
theorem zl:Bi y≠[]:=λc=>by
 have:=congrArg List.length c;rw[E8]at this;grind
end
theorem Yhf{F:Nat}{x y:List Lt}(h:∀g,Bl g x=Bl g y):CW F x x.length=CW F y y.length:=by
 unfold CW;grind
end Go.Ad
