/- Part 50 of the proof: Qa, Qb, Zd. -/
import Derived.Test.YtilmpmlkndfbjaaGreatDoorI29
import Derived.Test.YtilmpmlkndfbjaaGreatDoorI48
import Derived.Test.YtilmpmlkndfbjaaGreatDoorI49
set_option linter.all false
section
namespace Go.Known
open Go.Plain
def Seg(T:Nat→Nat):List Nat→Prop
 | []=>False
 | [_]=>True
 | x :: y :: r=>y=T x∧Seg T (y :: r)
def T6(s:List Nat):Nat:=s.getLastD 0
def hdN(s:List Nat):Nat:=s.headD 0
theorem Z8o(x:Nat):T6 [x]=x:=rfl
theorem Zdn(x y:Nat)(r:List Nat):T6 (x :: y :: r)=T6 (y :: r):=by
 unfold T6;simp[List.getLastD_eq_getLast?]
theorem Zlp:∀ {s:List Nat},s≠[]→T6 s∈s
 | [x],_=>by simp[Z8o]
 | x :: y :: r,_=>by rw[Zdn]; exact List.mem_cons_of_mem _ (Zlp (by simp))
theorem Zlb{s:List Nat}(h:s≠[]):hdN s∈s:=by
 cases s with
 | nil=>exact absurd rfl h
 | cons x r=>exact List.mem_cons_self
theorem Ybr{T:Nat→Nat}{s:List Nat}(h:Seg T s):s≠[]:=fun e=>by subst e; exact h
theorem Zr7{T:Nat→Nat}{x y:Nat}{r:List Nat}(h:Seg T (x :: y :: r)):Seg T (y :: r):=h.2
theorem Zn1{T:Nat→Nat}:∀ {s:List Nat},Seg T s → ∀ x,x∈s → ∃ j,it T j x=T6 s
 | [y],_,x,a=>by
  rw[List.mem_singleton]at a;subst a;exact⟨0,rfl⟩
 | y :: z :: r,h,x,a=>by
  rw[Zdn];rcases List.mem_cons.1 a with rfl|a
  ·obtain⟨j,b⟩:=Zn1 (Zr7 h) z List.mem_cons_self;refine⟨j+1,?_⟩;show T (it T j x)=_;have e:=Zaz T j x;rw[← e,← h.1];exact b
  ·exact Zn1 (Zr7 h) x a
theorem Ztm{T:Nat→Nat}:∀ {s:List Nat},Seg T s→s.Nodup → ∀ y,y∈s→y=hdN s ∨ ∃ x,x∈s∧T x=y∧x≠T6 s
 | [z],_,_,y,c=>by
  rw[List.mem_singleton]at c;exact .inl c
 | a :: b :: r,h,d,y,c=>by
  rw[List.nodup_cons]at d;rcases List.mem_cons.1 c with rfl|c
  ·exact .inl rfl
  ·refine .inr ?_;rw[Zdn];rcases Ztm (Zr7 h) d.2 y c with e|⟨x,g,i,j⟩
   ·refine⟨a,List.mem_cons_self,?_,fun f=>?_⟩
    ·rw[e]; exact h.1.symm
    ·exact d.1 (f ▸ Zlp (by simp))
   ·exact⟨x,List.mem_cons_of_mem _ g,i,j⟩
theorem Z9u{S:List (List Nat)}(i:S.flatten.Nodup):∀ {s c:List Nat} {x:Nat},s∈S→c∈S→x∈s→x∈c→s=c:=by
 unfold List.Nodup at i;have f:=(List.pairwise_flatten.1 i).2;clear i
 induction S with
 | nil=>intro s c x j; cases j
 | cons a r l=>
  intro s c x j d k b;rw[List.pairwise_cons]at f;rcases List.mem_cons.1 j with e|g
  ·rcases List.mem_cons.1 d with e'|h
   ·rw[e,e']
   ·exact absurd rfl (f.1 c h x (e ▸ k) x b)
  ·rcases List.mem_cons.1 d with e'|h
   ·exact absurd rfl (f.1 s g x (e' ▸ b) x k)
   ·exact l f.2 g h k b
theorem Ygg{S:List (List Nat)}(a:S.flatten.Nodup){s:List Nat}(h:s∈S):s.Nodup:=by
 unfold List.Nodup at a;rw[List.pairwise_flatten]at a;exact a.1 s h
structure Cov (T:Nat→Nat) (N:Nat) (S:List (List Nat)):Prop where
 seg:∀ s,s∈S→Seg T s
 nd:S.flatten.Nodup
 cov:∀ d,d<N↔d∈S.flatten
section
variable {T:Nat→Nat} {N:Nat} (hP:Perm1 T N)
include hP
variable {S:List (List Nat)} (hC:Cov T N S)
include hC
omit hP in
theorem Ztd{s:List Nat}(h:s∈S):s≠[]:=Ybr (hC.seg s h)
omit hP in
theorem Zrs{s:List Nat}{x:Nat}(h:s∈S)(a:x∈s):x<N:=(hC.cov x).2 (List.mem_flatten.2 ⟨s,h,a⟩)
theorem Zz9{s:List Nat}(h:s∈S):T (T6 s)∈S.map hdN:=by
 have b:=Zlp (Ztd hC h);have c:=hP.lt _ (Zrs hC h b);obtain⟨f,a,j⟩:=List.mem_flatten.1 ((hC.cov _).1 c);rcases Ztm (hC.seg f a) (Ygg hC.nd a) _ j with e|⟨x,d,g,i⟩
 ·exact List.mem_map.2 ⟨f,a,e.symm⟩
 ·have:=hP.inj _ _ (Zrs hC a d) (Zrs hC h b) g;subst this;have:=Z9u hC.nd h a b d;subst this;exact absurd rfl i
omit hP in
def B0(S:List (List Nat))(x:Nat):Bool:=decide (x∈S.map hdN)
def clS(T:Nat→Nat)(s:List Nat):Bool:=decide (T (T6 s)=hdN s)
theorem Zqy{w:List Nat}(a:w∈T3 T N){x:Nat}(b:x∈w):∀ j,it T j x∈w
 | 0=>b
 | j+1=>(Zkl hP w a _ (Zqy a b j)).2
theorem Yc9{w:List Nat}(b:w∈T3 T N):∃ s,s∈S∧T6 s∈w∧T (T6 s)∈w.filter (B0 S):=by
 have a:=Zz6 (n:=N) w b;obtain⟨x,f⟩:∃ x,x∈w:=List.exists_mem_of_length_pos a
 have e:=(Zkl hP w b x f).1;obtain⟨s,c,g⟩:=List.mem_flatten.1 ((hC.cov _).1 e);obtain⟨j,h⟩:=Zn1 (hC.seg s c) x g;have d:=Zqy hP hC b f j;rw[h]at d;exact⟨s,c,d,List.mem_filter.2 ⟨(Zkl hP w b _ d).2,by unfold B0; exact decide_eq_true (Zz9 hP hC c)⟩⟩
theorem Ycs{w:List Nat}(i:w∈T3 T N):2≤(w.filter (B0 S)).length+(w.filter (B0 (S.filter (clS T)))).length:=by
 obtain⟨s,p,q,b⟩:=Yc9 hP hC i;by_cases h:2≤(w.filter (B0 S)).length
 ·omega
 ·have r:=List.length_pos_of_mem b;obtain⟨a,n⟩:∃ a,w.filter (B0 S)=[a]:=List.length_eq_one_iff.1 (by omega)
  have m:=(List.mem_filter.1 b).2;unfold B0 at m;obtain⟨c,d,e⟩:=List.mem_map.1 (of_decide_eq_true m);have l:T (T6 s)∈w:=(List.mem_filter.1 b).1;have g:T6 c∈w:=by
   obtain⟨j,o⟩:=Zn1 (hC.seg c d) _ (Zlb (Ztd hC d));rw[← o,e];exact Zqy hP hC i l j
  have k:T (T6 c)∈w.filter (B0 S):=List.mem_filter.2 ⟨(Zkl hP w i _ g).2,by unfold B0; exact decide_eq_true (Zz9 hP hC d)⟩
  rw[n,List.mem_singleton]at b k;have f:clS T c=true:=by
   unfold clS;rw[k,e,b];simp
  have:T (T6 s)∈w.filter (B0 (S.filter (clS T))):=List.mem_filter.2 ⟨l,by
   unfold B0;exact decide_eq_true (List.mem_map.2 ⟨c,List.mem_filter.2 ⟨d,f⟩,e⟩)⟩
  have:=List.length_pos_of_mem this;omega
omit hP hC in
theorem Zzi(R:List (List Nat)):((List.range N).filter (B0 R)).length≤R.length:=by
 have:=List.Nodup.length_le_of_subset (l₁:=(List.range N).filter (B0 R)) (l₂:=R.map hdN) (List.nodup_range.filter _) fun y a=>by
  have:=(List.mem_filter.1 a).2;unfold B0 at this;exact of_decide_eq_true this
 simpa using this
omit hP hC in
theorem Zvq{f:List Nat→Nat}{c:Nat}:∀ (L:List (List Nat)),(∀ w,w∈L→c≤f w)→c*L.length≤(L.map f).sum
 | [],_=>by simp
 | w :: r,h=>by
  have b:=h w List.mem_cons_self;have d:=Zvq r fun w a=>h w (List.mem_cons_of_mem _ a)
  rw[List.length_cons,List.map_cons,List.sum_cons,Nat.mul_add];omega
omit hP hC in
omit hP hC in
theorem Zt1{f g:List Nat→Nat}:∀ (L:List (List Nat)),(L.map fun w=>f w+g w).sum=(L.map f).sum+(L.map g).sum
 | []=>rfl
 | w :: r=>by
  rw[List.map_cons,List.map_cons,List.map_cons,List.sum_cons,List.sum_cons,List.sum_cons,Zt1 r];omega
omit hP hC in
theorem Z2o:L2 T N=(T3 T N).length:=by
 unfold L2 T3;rw[Zet]
theorem Yc2:2*L2 T N≤S.length+(S.filter (clS T)).length:=by
 have a:=Zvq (f:=fun w=>(w.filter (B0 S)).length+(w.filter (B0 (S.filter (clS T)))).length) (c:=2) (T3 T N) fun w b=>Ycs hP hC b
 rw[Zt1,Zyz hP,Zyz hP]at a;have d:=Zzi (N:=N) S;have e:=Zzi (N:=N) (S.filter (clS T));rw[Z2o];omega
end
end Go.Known
end
section
namespace Go.Known
open Go.Plain
def Chn(T:Nat→Nat):Nat→List Nat→Nat→Prop
 | s,[],e=>s=e
 | s,x :: p,e=>x=T s∧Chn T x p e
theorem Chn.app{T:Nat→Nat}:∀ {p:List Nat} {s e g:Nat} {q:List Nat},Chn T s p e→Chn T e q g→Chn T s (p++q) g
 | [],_,_,_,_,h,a=>by
  have:_=_:=h;subst this;exact a
 | x :: p,_,_,_,_,h,a=>⟨h.1,h.2.app a⟩
theorem Chn.seg{T:Nat→Nat}:∀ {p:List Nat} {s e:Nat},Chn T s p e→p≠[]→Seg T p∧hdN p=T s∧T6 p=e
 | [x],s,e,h,_=>⟨trivial,h.1,h.2⟩
 | x :: y :: p,s,e,h,_=>by
  obtain⟨a,b,c⟩:=Chn.seg h.2 (by simp)
  refine⟨⟨?_,a⟩,h.1,by rw[Zdn]; exact c⟩
  exact b
def Cyc(T:Nat→Nat)(w:List Nat):Prop:=w≠[] ∧ ∃ z,Chn T z w z
theorem Cyc.seg{T:Nat→Nat}{w:List Nat}(h:Cyc T w):Seg T w∧T (T6 w)=hdN w:=by
 obtain⟨h0,z,h⟩:=h;obtain⟨a,b,c⟩:=h.seg h0;exact⟨a,by rw[b,c]⟩
def Gap(T bk:Nat→Nat):Nat→List Nat→List (List Nat)→Prop
 | _,[],[]=>True
 | s,x :: fr,p :: ps=>p≠[]∧Chn T s p x∧Gap T bk (bk x) fr ps
 | _,_,_=>False
def endS(bk:Nat→Nat):Nat→List Nat→Nat
 | s,[]=>s
 | _,x :: l=>endS bk (bk x) l
section
variable {T bk:Nat→Nat}
theorem Gap.len:∀ {fr:List Nat} {s:Nat} {ps:List (List Nat)},Gap T bk s fr ps→ps.length=fr.length
 | [],_,[],_=>rfl
 | _ :: _,_,_ :: _,h=>by rw[List.length_cons,List.length_cons,h.2.2.len]
theorem Gap.split:∀ {l r:List Nat} {s:Nat} {ps:List (List Nat)},Gap T bk s (l++r) ps → ∃ p1 a,ps=p1++a∧Gap T bk s l p1∧Gap T bk (endS bk s l) r a
 | [],r,s,ps,h=>⟨[],ps,rfl,trivial,h⟩
 | x :: l,r,s,p :: ps,h=>by
  obtain⟨p1,a,e,b,c⟩:=Gap.split (l:=l) h.2.2;exact⟨p :: p1,a,by rw[e]; rfl,⟨h.1,h.2.1,b⟩,c⟩
theorem Gap.app:∀ {l r:List Nat} {s:Nat} {p1 a:List (List Nat)},Gap T bk s l p1→Gap T bk (endS bk s l) r a→Gap T bk s (l++r) (p1++a)
 | [],_,_,[],_,_,h=>h
 | _ :: _,_,_,_ :: _,_,h,b=>⟨h.1,h.2.1,h.2.2.app b⟩
def Rot(T bk:Nat→Nat):Nat→List Nat→Nat→Prop
 | e,[],u=>u=T e
 | e,o :: os,u=>o=T e∧Rot T bk (bk o) os u
def Side(T bk:Nat→Nat):List Nat→Prop
 | []=>False
 | [_]=>True
 | y :: y' :: r=>T y'=bk y∧Side T bk (y' :: r)
theorem Zxi{u z:Nat}{d:List Nat}{r:List Nat}{c:List (List Nat)}(g:Chn T u d z)(f:Gap T bk (bk z) r c):∀ (a:List Nat) (s e:Nat) (q:List Nat),Chn T s q e→Rot T bk e a u →
 ∃ ps,Gap T bk s (a++z :: r) ps∧ps.flatten=q++a++u :: (d++c.flatten)
 | [],s,e,q,b,h=>by
  have h:u=T e:=h;refine⟨(q++u :: d) :: c,⟨by simp,b.app ⟨h,g⟩,f⟩,by simp⟩
 | o :: os,s,e,q,b,h=>by
  obtain⟨ps,i,j⟩:=Zxi g f os (bk o) (bk o) [] rfl h.2;refine⟨(q++[o]) :: ps,⟨by simp,b.app ⟨h.1,rfl⟩,i⟩,?_⟩
  rw[List.flatten_cons,j];simp
theorem Ztu:∀ (ins r:List Nat) (s:Nat) (ps:List (List Nat)),Side T bk ins→r≠[]→Gap T bk s (ins++r) ps →
 ∃(p1:List Nat) (z:Nat) (e b:List Nat) (c d:List (List Nat)),Chn T s p1 (hdN ins)∧r=z :: e∧b≠[]∧Chn T (bk (T6 ins)) b z∧Gap T bk (bk z) e c∧(∀ w,w∈d→Cyc T w)∧d.length+1=ins.length ∧
  (d.flatten++p1++bk (T6 ins) :: (b++c.flatten)).Perm (ps.flatten++ins.map bk)
 | [y],r,s,ps,_,g,h=>by
  cases r with
  | nil=>exact absurd rfl g
  | cons z e=>
   match ps,h with
   | [],h=>exact h.elim
   | [_],h=>exact h.2.2.elim
   | p1 :: b :: c,h=>
    refine⟨p1,z,e,b,c,[],h.2.1,rfl,h.2.2.1,h.2.2.2.1,h.2.2.2.2,fun w f=>(by cases f),rfl,?_⟩
    show(p1++bk y :: (b++c.flatten)).Perm _;rw[List.flatten_cons,List.flatten_cons,List.map_singleton];have C:(bk y :: (b++c.flatten)).Perm (b++c.flatten++[bk y]):=List.perm_append_comm (l₁:=[bk y]);have:=C.append_left p1;simpa using this
 | y :: i :: t,r,s,ps,j,g,h=>by
  match ps,h with
  | [],h=>exact h.elim
  | p :: ps,h=>
   obtain⟨p1,z,e,b,c,d,k,l,m,n,o,q,u,v⟩:=Ztu (i :: t) r (bk y) ps j.2 g h.2.2;refine⟨p,z,e,b,c,(p1++[bk y]) :: d,h.2.1,l,m,by rw[Zdn]; exact n,o,fun w f=>?_,by rw[List.length_cons,u]; rfl,?_⟩
   ·rcases List.mem_cons.1 f with rfl|f
    ·refine⟨by simp,bk y,k.app ⟨?_,rfl⟩⟩
     exact j.1.symm
    ·exact q w f
   ·rw[Zdn];rw[List.flatten_cons,List.flatten_cons,List.map_cons];generalize bk (T6 (i :: t)) :: (b++c.flatten)=X at *;generalize (i :: t).map bk=M at *;have A:(p1++[bk y]++d.flatten++p++X).Perm (p++([bk y]++(d.flatten++p1++X))):=by
     rw[List.perm_iff_count];intro a;simp only[List.count_append];omega
    refine A.trans ?_;have B:(p++([bk y]++(d.flatten++p1++X))).Perm (p++([bk y]++(ps.flatten++M))):=(v.append_left [bk y]).append_left p;refine B.trans ?_;rw[List.perm_iff_count];intro a;simp only[List.count_append,List.count_cons,List.count_nil];omega
def Stt(T bk:Nat→Nat)(A:Nat)(front dts:List Nat)(c:Nat):Prop:=
 ∃ ps cl:List (List Nat),Gap T bk A (front++[A]) ps∧(∀ w,w∈cl→Cyc T w)∧cl.length=c∧(cl.flatten++ps.flatten).Perm dts
variable {A:Nat}
theorem Stt.cap{l r f:List Nat}{x y c:Nat}(h:Stt T bk A (l++x :: y :: r) f c)(B:bk x=y)(C:bk y=x):Stt T bk A (l++r) f (c+1):=by
 obtain⟨ps,p,m,t,u,v⟩:=h;rw[List.append_assoc]at m;obtain⟨p1,D,rfl,q,d⟩:=m.split;obtain⟨z,i,n⟩:∃ z i,r++[A]=z :: i:=by
  cases r with
  | nil=>exact ⟨A,[],rfl⟩
  | cons a b=>exact ⟨a,b++[A],rfl⟩
 have e:(x :: y :: r)++[A]=x :: y :: z :: i:=by rw[← n]; rfl
 rw[e]at d
 match D,d with
 | [],d=>exact d.elim
 | [_],d=>exact d.2.2.elim
 | [_,_],d=>exact d.2.2.2.2.elim
 | px :: F :: G :: E,d=>
  obtain⟨n1,o,n2,j,H,k,s⟩:=d;rw[B]at j;rw[C]at k;refine⟨p1++(px++G) :: E,F :: p,?_,fun w g=>?_,by rw[List.length_cons,u],?_⟩
  ·rw[List.append_assoc,n];exact q.app ⟨by simp[n1],o.app k,s⟩
  ·rcases List.mem_cons.1 g with rfl|g
   ·exact⟨n2,y,j⟩
   ·exact t w g
  ·refine List.Perm.trans ?_ v;rw[List.perm_iff_count];intro a;simp only[List.flatten_cons,List.flatten_append,List.count_append];omega
theorem Stt.cross{l ins b r d:List Nat}{c:Nat}(h:Stt T bk A (l++ins++r) d c)(E:Side T bk ins)(D:Rot T bk (hdN ins) b (bk (T6 ins))) :
 Stt T bk A (l++b++r) (d++(b++ins.map bk)) (c+(ins.length - 1)):=by
 obtain⟨ps,u,k,B,C,g⟩:=h;rw[List.append_assoc,List.append_assoc]at k;obtain⟨p1,F,rfl,v,y⟩:=k.split;obtain⟨G,z,L,K,J,i,m,n,H,o,p,q,I,f⟩:=Ztu ins (r++[A]) _ F E (by simp) y
 obtain⟨j,s,t⟩:=Zxi o p b _ _ G m D;refine⟨p1++j,i++u,?_,fun w e=>?_,by rw[List.length_append,C]; omega,?_⟩
 ·rw[List.append_assoc,List.append_assoc,n];exact v.app s
 ·rcases List.mem_append.1 e with e|e
  ·exact q w e
  ·exact B w e
 ·rw[List.perm_iff_count]at g f ⊢;intro a;have g:=g a;have f:=f a;simp only[List.flatten_append,List.count_append,t]at g f ⊢;omega
theorem Stt.done{d:List Nat}{c:Nat}(h:Stt T bk A [] d c):∃ S:List (List Nat),(∀ s,s∈S→Cyc T s)∧S.flatten.Perm d∧S.length=c+1:=by
 obtain⟨ps,f,b,g,i,j⟩:=h
 match ps,b with
 | [],b=>exact b.elim
 | [p],b=>
  refine⟨p :: f,fun s e=>?_,?_,by rw[List.length_cons,i]⟩
  ·rcases List.mem_cons.1 e with rfl|e
   ·exact⟨b.1,A,b.2.1⟩
   ·exact g s e
  ·refine List.Perm.trans ?_ j;rw[List.perm_iff_count];intro a;simp only[List.flatten_cons,List.flatten_nil,List.count_append,List.append_nil];omega
 | _ :: _ :: _,b=>exact b.2.2.elim
theorem Zwm{N:Nat}(hi:∀ a b,a<N→b<N→T a=T b→a=b)(g:∀ a,a<N→bk a<N):∀ (fr:List Nat) (x:Nat) (ps:List (List Nat)),x<N→(∀ d,d∈fr→d<N) →
 (∀ i,i+1<(x :: fr).length→(x :: fr).getD (i+1) 0≠bk ((x :: fr).getD i 0))→Gap T bk (bk x) (fr++[A]) ps →
 ∃ c p,ps=c++[p]∧c.length=fr.length∧p≠[]∧(∃ s,Chn T s p A) ∧ ∀ q,q∈c→Seg T q∧clS T q=false
 | [],x,ps,_,_,_,h=>by
  match ps,h with
  | [],h=>exact h.elim
  | [p],h=>exact ⟨[],p,rfl,rfl,h.1,⟨_,h.2.1⟩,fun q B=>(by cases B)⟩
  | _ :: _ :: _,h=>exact h.2.2.elim
 | y :: fr,x,ps,C,k,j,h=>by
  match ps,h with
  | [],h=>exact h.elim
  | q :: ps,h=>
   have l:=k y List.mem_cons_self;obtain⟨c,p,e,r,u,v,w⟩:=Zwm hi g fr y ps l (fun d z=>k d (List.mem_cons_of_mem _ z)) (fun i hi=>j (i+1) (by rw[List.length_cons]; omega)) h.2.2
   refine⟨q :: c,p,by rw[e]; rfl,by rw[List.length_cons,List.length_cons,r],u,v,fun t f=>?_⟩
   rcases List.mem_cons.1 f with rfl|f
   ·obtain⟨m,n,o⟩:=h.2.1.seg h.1;refine⟨m,?_⟩;unfold clS;rw[n,o];refine decide_eq_false fun e=>?_
    have:=hi _ _ l (g _ C) e;exact j 0 (by simp) this
   ·exact w t f
theorem Stt.stuck{N:Nat}(hi:∀ a b,a<N→b<N→T a=T b→a=b)(w:∀ a,a<N→bk a<N){front g:List Nat}{c:Nat}(h:Stt T bk A front g c)(h0:front≠[])(n:∀ d,d∈front→d<N)
 (y:∀ i,i+1<front.length→front.getD (i+1) 0≠bk (front.getD i 0)) :
 ∃ S:List (List Nat),(∀ s,s∈S→Seg T s)∧S.flatten.Perm g∧S.length=c+front.length∧(S.filter (clS T)).length≤c+1:=by
 obtain⟨ps,m,f,r,u,v⟩:=h;cases front with
 | nil=>exact absurd rfl h0
 | cons x fr=>
  match ps,f with
  | [],f=>exact f.elim
  | p0 :: ps,f=>
   obtain⟨l,p,rfl,C,m2,⟨s,D⟩,o⟩:=Zwm hi w fr x ps (n x List.mem_cons_self) (fun d z=>n d (List.mem_cons_of_mem _ z)) y f.2.2
   have k:=D.app f.2.1;have j:l.filter (clS T)=[]:=List.filter_eq_nil_iff.2 fun q B=>by rw[(o q B).2]; simp
   refine⟨(p++p0) :: (l++m),fun t e=>?_,?_,?_,?_⟩
   ·rcases List.mem_cons.1 e with rfl|e
    ·exact(k.seg (by simp[m2])).1
    ·rcases List.mem_append.1 e with e|e
     ·exact(o t e).1
     ·exact(r t e).seg.1
   ·refine List.Perm.trans ?_ v;rw[List.perm_iff_count];intro a;simp only[List.flatten_cons,List.flatten_append,List.flatten_nil,List.count_append,List.append_nil];omega
   ·rw[List.length_cons,List.length_append,C,u,List.length_cons];omega
   ·rw[List.filter_cons,List.filter_append,j,List.nil_append];have:=List.length_filter_le (clS T) m;split
    ·rw[List.length_cons]; omega
    ·omega
end
end Go.Known
end
section
namespace Go.Known
open Go.Plain
theorem ValR.nm{f:Int}{x:List Lt}(h:ValR f x):NmOk x:=fun a hm b=>by
 have:=(Za6 b).1 (h.okr a hm);exact⟨this.2.2.2.1,this.2.2.2.2.1⟩
theorem Yck{y:List Lt}(h:Ev y):(at' (T5 y) 0).k=1:=by
 obtain⟨c,a,b,d⟩:=Zr3 h.bk;rw[Zsu a b d];have f:isP (at' y.reverse c)=true:=by simp only[bkC,bA]at b; exact b.1
 have e:=Zbl (y:=y.reverse) (s:=c) (p:=0) (by rw[List.length_reverse]; exact a) (by rw[List.length_reverse]; omega)
 rw[List.length_reverse,Zjb a]at e;rw[e];simpa[isP]using f
theorem Zyc{y:List Lt}{a:Lt}(h:a∈T5 y):a∈y:=by
 unfold T5 at h;split at h
 ·unfold W6 at h;rcases List.mem_append.1 h with h|h
  ·exact List.mem_reverse.1 (List.mem_of_mem_drop h)
  ·exact List.mem_reverse.1 (List.mem_of_mem_take h)
 ·exact List.mem_reverse.1 h
theorem Z1v:∀ (l:List Lt) (met:List Int),met.Nodup→(l.foldl P2 met).Nodup
 | [],_,h=>h
 | a :: r,met,h=>by
  rw[List.foldl_cons];refine Z1v r _ ?_;unfold P2;split
  ·rename_i f;have b:a.i∉met:=fun hm=>by
    have:∀ m:List Int,a.i∈m→W5 a.i m≠0:=by
     intro m
     induction m with
     | nil=>intro c; cases c
     | cons z r j=>
      intro c;simp only[W5];by_cases e:a.i=z
      ·rw[if_pos e]; decide
      ·rw[if_neg e];rcases List.mem_cons.1 c with c|c
       ·exact absurd c e
       ·rw[if_neg (j c)]; omega
    exact this met hm f.2
   rw[List.nodup_append];refine⟨h,by simp,fun x g z d e=>?_⟩
   rw[List.mem_singleton]at d;rw[← d,← e]at b;exact b g
  ·exact h
theorem Z1a{ls:List Lt}:∀ met:List Int,met.Nodup→(∀ z,z∈met→K1 z ls=2)→Z3 (fun l=>isX l&&met.contains l.i) ls=2*met.length
 | [],_,_=>by
  have:Z3 (fun l=>isX l&&([]:List Int).contains l.i) ls=Z3 (fun _=>false) ls:=R3 fun l _=>by simp
  rw[this];simp[Z3]
 | z :: r,b,d=>by
  rw[List.nodup_cons]at b;have c:=Zgc (fun l=>isX l&&(z :: r).contains l.i) (fun l=>l.i == z) ls
  have e:Z3 (fun l=>isX l&&(z :: r).contains l.i&&(l.i == z)) ls=K1 z ls:=by
   unfold K1;refine R3 fun l _=>?_
   by_cases a:l.i=z
   ·simp[a]
   ·have:(l.i == z)=false:=by simpa using a
    simp[this]
  have f:Z3 (fun l=>isX l&&(z :: r).contains l.i && !(l.i == z)) ls=Z3 (fun l=>isX l&&r.contains l.i) ls:=by
   refine R3 fun l _=>?_
   by_cases a:l.i=z
   ·have:=b.1;simp[a,this]
   ·simp[a]
  rw[e,f,d z (List.mem_cons_self ..),Z1a r b.2 (fun w g=>d w (List.mem_cons_of_mem _ g))]at c
  rw[c,List.length_cons];omega
theorem Z3x{y:List Lt}{z:Int}(h:z∈W8 y y.length):∃ a,a∈y∧a.k=2∧a.i=z:=by
 have:∀ (l:List Lt) (met:List Int),z∈l.foldl P2 met→z∈met ∨ ∃ a,a∈l∧a.k=2∧a.i=z:=by
  intro l
  induction l with
  | nil=>exact fun met h=>.inl h
  | cons a r e=>
   intro met h;rw[List.foldl_cons]at h;rcases e _ h with h|⟨b,c,d⟩
   ·rcases Zn9 h with h|h
    ·exact .inl h
    ·exact .inr ⟨a,List.mem_cons_self ..,h⟩
   ·exact .inr ⟨b,List.mem_cons_of_mem _ c,d⟩
 unfold W8 at h;rw[List.take_length]at h;rcases this y [] h with h|h
 ·cases h
 ·exact h
theorem Z1w{y:List Lt}(h:∀ a,a∈y→a.k=2→K1 a.i y=2):NmOk (P1 y):=by
 have c:Y9 (P1 y)=Y9 y:=by
  rw[Zjl];unfold Y9;rw[Zh2];exact R3 fun l _=>by unfold isX; rw[ap_k]
 have j:2*(W8 y y.length).length≤Y9 y:=by
  rw[← Z1a (ls:=y) (W8 y y.length) (Z1v _ [] List.nodup_nil) fun z o=>by
   obtain⟨a,d,e,rfl⟩:=Z3x o;exact h a d e]
  exact Z2b fun l g=>by simp at g; exact g.1
 intro a hm f;rw[c];rw[Zjl]at hm;obtain⟨b,m,rfl⟩:=List.mem_map.1 hm;rw[ap_k]at f;rw[O8 f];simp only;obtain⟨p,n,rfl⟩:=Zcd m;have d:=Zsl n f;have e:=Zkn d (y.length - (p+1)) (by omega)
 rw[show p+1+(y.length - (p+1))=y.length by omega]at e
 have q:=Zx6 (x:=(at' y p).i) (met:=W8 y y.length);omega
theorem Zpq{y:List Lt}{a:Lt}{i:Nat}(h:a∈W6 i y):a∈y:=by
 unfold W6 at h;rcases List.mem_append.1 h with h|h
 ·exact List.mem_of_mem_drop h
 ·exact List.mem_of_mem_take h
theorem Yej{f:Int}{y:List Lt}(hv:ValR f y)(h0:y≠[]):NmOk (T1 y):=by
 have g:∀ z,K1 z (T5 y)=K1 z y:=fun z=>by
  unfold K1 T5;split
  ·rw[Zdv]; unfold Z3; rw[List.filter_reverse,List.length_reverse]
  ·unfold Z3; rw[List.filter_reverse,List.length_reverse]
 have d:∀ a,a∈y→a.k=2→K1 a.i y=2:=fun a hm b=>((Za6 b).1 (hv.okr a hm)).2.2.2.2.2.2
 have c:∀ i z (l:List Lt),K1 z (W6 i l)=K1 z l:=fun i z l=>Zdv _ _ _
 rcases Zk8 h0 (by simp[isP,hv.fst])with⟨i,_,_,e⟩|⟨i,_,_,e⟩
 ·rw[e];unfold Q0;exact Z1w fun a hm b=>by rw[c]; exact d a (Zpq hm) b
 ·rw[e];unfold Q0;exact Z1w fun a hm b=>by rw[c,g]; exact d a (Zyc (Zpq hm)) b
section
variable {f:Int} {y:List Lt} (hv:ValR f y) (h0:y≠[])
include hv h0
def SamP(x y:List Lt):Prop:=X2 4 x=X2 4 y∧X2 4 (tuN x)=X2 4 (tuN y) ∧ ∀ g,inG g x=inG g y
theorem Zmp{e:Bool}{x:List Lt}(a:De e y x)(b:(at' x 0).k=1)(h:NmOk x):ValR f x∧x≠[]∧SamP x y:=by
 have d:=hv.de a b h;have g:x≠[]:=fun c=>by rw[c]at b; cases b
 have ty:=(hv.turn h0).1;have i:=(d.turn g).1;exact⟨d,g,Z0i hv a b h,Z0i ty (Z6k (hv.tf h0) (d.tf g) a) i.fst i.nm,Zs4 a⟩
theorem Ydb:ValR f (T5 y)∧T5 y≠[]∧SamP (T5 y) y:=by
 have b:=hv.evx h0;refine Zmp hv h0 (Zji b) (Yck b) fun a hm c=>?_
 have:=hv.nm a (Zyc hm) c;rwa[← Zi9 (Zji b)]at this
theorem Yac:ValR f (T1 y)∧T1 y≠[]∧SamP (T1 y) y:=by
 have a:=hv.evx h0;have hC:=Zk8 h0 (by simp[isP,hv.fst])
 obtain⟨e,b⟩:=Zmx a hC;exact Zmp hv h0 b (by simpa[isP]using (Z09 a hC).1) (Yej hv h0)
theorem Zox:tuN y≠[]:=fun c=>by
 have:=congrArg List.length c;rw[G4]at this;exact h0 (List.length_eq_zero_iff.1 this)
end
theorem Z31{F:Nat}{x y:List Lt}(h:∀ g,inG g x=inG g y):gtN F x x.length=gtN F y y.length:=by
 unfold gtN;rw[List.take_length,List.take_length];exact List.map_congr_left fun g _=>h g
end Go.Known
end
