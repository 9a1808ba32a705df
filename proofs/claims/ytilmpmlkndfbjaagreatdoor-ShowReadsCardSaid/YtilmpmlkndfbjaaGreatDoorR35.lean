/- Part 35 of the proof: Qa, Qb, Zd. -/
import Derived.Test.YtilmpmlkndfbjaaGreatDoorR24
import Derived.Test.YtilmpmlkndfbjaaGreatDoorR25
import Derived.Test.YtilmpmlkndfbjaaGreatDoorR26
import Derived.Test.YtilmpmlkndfbjaaGreatDoorR27
import Derived.Test.YtilmpmlkndfbjaaGreatDoorR30
import Derived.Test.YtilmpmlkndfbjaaGreatDoorR34
import Derived.Shelf.SlSortCmp.NoneTotal
import Derived.Test.YtilmpmlkndfbjaaGreatDoorProg
import Derived.Deep.QuietTactic
import Derived.BigQuiet
import Derived.RegionTactic
import Derived.ChangeAlike
import Derived.BigRegion
import Derived.Sort.Grow
import Derived.WalkKit
set_option linter.all false
section
namespace Go.Known
open Go.Plain
def Seg(T:Nat→Nat):List Nat→Prop
 | []=>False
 | [_]=>True
 | x :: y :: r=>y=T x∧Seg T (y :: r)
def L9(s:List Nat):Nat:=s.getLastD 0
def hdN(s:List Nat):Nat:=s.headD 0
theorem Yab(x:Nat):L9 [x]=x:=rfl
theorem Zh1(x y:Nat)(r:List Nat):L9 (x :: y :: r)=L9 (y :: r):=by
 unfold L9;simp[List.getLastD_eq_getLast?]
theorem Ziq:∀ {s:List Nat},s≠[]→L9 s∈s
 | [x],_=>by simp[Yab]
 | x :: y :: r,_=>by rw[Zh1]; exact List.mem_cons_of_mem _ (Ziq (by simp))
theorem Zhs{s:List Nat}(h:s≠[]):hdN s∈s:=by
 cases s with
 | nil=>exact absurd rfl h
 | cons x r=>exact List.mem_cons_self
theorem Ya6{T:Nat→Nat}{s:List Nat}(h:Seg T s):s≠[]:=fun e=>by subst e; exact h
theorem Znq{T:Nat→Nat}{x y:Nat}{r:List Nat}(h:Seg T (x :: y :: r)):Seg T (y :: r):=h.2
theorem Zlq{T:Nat→Nat}:∀ {s:List Nat},Seg T s → ∀ x,x∈s → ∃ j,it T j x=L9 s
 | [y],_,x,a=>by
  rw[List.mem_singleton]at a;subst a;exact⟨0,rfl⟩
 | y :: z :: r,h,x,a=>by
  rw[Zh1];rcases List.mem_cons.1 a with rfl|a
  ·obtain⟨j,b⟩:=Zlq (Znq h) z List.mem_cons_self;refine⟨j+1,?_⟩;show T (it T j x)=_;have e:=Zf8 T j x;rw[← e,← h.1];exact b
  ·exact Zlq (Znq h) x a
theorem Zp3{T:Nat→Nat}:∀ {s:List Nat},Seg T s→s.Nodup → ∀ y,y∈s→y=hdN s ∨ ∃ x,x∈s∧T x=y∧x≠L9 s
 | [z],_,_,y,c=>by
  rw[List.mem_singleton]at c;exact .inl c
 | a :: b :: r,h,d,y,c=>by
  rw[List.nodup_cons]at d;rcases List.mem_cons.1 c with rfl|c
  ·exact .inl rfl
  ·refine .inr ?_;rw[Zh1];rcases Zp3 (Znq h) d.2 y c with e|⟨x,g,i,j⟩
   ·refine⟨a,List.mem_cons_self,?_,fun f=>?_⟩
    ·rw[e]; exact h.1.symm
    ·exact d.1 (f ▸ Ziq (by simp))
   ·exact⟨x,List.mem_cons_of_mem _ g,i,j⟩
theorem Zl3{S:List (List Nat)}(i:S.flatten.Nodup):∀ {s c:List Nat} {x:Nat},s∈S→c∈S→x∈s→x∈c→s=c:=by
 unfold List.Nodup at i;have f:=(List.pairwise_flatten.1 i).2;clear i
 induction S with
 | nil=>intro s c x j; cases j
 | cons a r l=>
  intro s c x j d k b;rw[List.pairwise_cons]at f;rcases List.mem_cons.1 j with e|g
  ·rcases List.mem_cons.1 d with e'|h
   ·rw[e,e']
   ·exact absurd rfl (f.1 c h x (e ▸ k) x b)
  ·rcases List.mem_cons.1 d with e'|h
   ·exact absurd rfl (f.1 s g x (e' ▸ b) x k)
   ·exact l f.2 g h k b
theorem Zyb{S:List (List Nat)}(a:S.flatten.Nodup){s:List Nat}(h:s∈S):s.Nodup:=by
 unfold List.Nodup at a;rw[List.pairwise_flatten]at a;exact a.1 s h
structure Cov (T:Nat→Nat) (N:Nat) (S:List (List Nat)):Prop where
 seg:∀ s,s∈S→Seg T s
 nd:S.flatten.Nodup
 cov:∀ d,d<N↔d∈S.flatten
section
variable {T:Nat→Nat} {N:Nat} (hP:Perm1 T N)
include hP
theorem Zp9:∀ (k:Nat) (seen:List Bool),k≤N→Clo T N seen → ∀ w,w∈wks T N k seen→w.Nodup ∧ ∀ a b,a∈w→b∈w → ∃ j,it T j a=b
 | 0,seen,_,_,w,c=>by simp[wks]at c
 | k+1,seen,u,g,w,c=>by
  have f:N - (k+1)<N:=by omega
  simp only[wks]at c;cases h:seen.getD (N - (k+1)) true with
  | true=>
   rw[h,if_pos rfl]at c;exact Zp9 k seen (by omega) g w c
  | false=>
   rw[h,if_neg (by simp)]at c
   rcases List.mem_cons.1 c with rfl|c
   ·obtain⟨L,h0,s,m,n,o,t⟩:=Zhh hP g f h;rw[o];refine⟨Zgr (fun i j hi d e=>?_) List.nodup_range',fun a b p q=>?_⟩
    ·have hi:i<L:=by simpa using hi
     have d:j<L:=by simpa using d
     have key:∀ i j,i<j→j<L→it T i (N - (k+1))≠it T j (N - (k+1)):=fun i j r d e=>by
      have l:=Zf2 T (N - (k+1)) i (j - i);rw[show i+(j - i)=j by omega,← e]at l
      exact n (j - i) (by omega) (by omega) (Zkw hP i f (H9 hP f _) l).symm
     rcases Nat.lt_trichotomy i j with h|h|h
     ·exact absurd e (key i j h d)
     ·exact h
     ·exact absurd e.symm (key j i h hi)
    ·obtain⟨i,hi,rfl⟩:=List.mem_map.1 p;obtain⟨j,d,rfl⟩:=List.mem_map.1 q;have hi:i<L:=by simpa using hi
     refine⟨j+(L - i),?_⟩;rw[Zf2,← Zf2 T _ (L - i) i,show L - i+i=L by omega,m]
   ·exact Zp9 k _ (by omega) (Zn7 hP g f h) w c
theorem Z9u:∀ w,w∈Q8 T N→w.Nodup ∧ ∀ a b,a∈w→b∈w → ∃ j,it T j a=b:=Zp9 hP N _ (Nat.le_refl _) (Zyi hP)
variable {S:List (List Nat)} (hC:Cov T N S)
include hC
omit hP in
theorem Ze8{s:List Nat}(h:s∈S):s≠[]:=Ya6 (hC.seg s h)
omit hP in
theorem Ze9{s:List Nat}{x:Nat}(h:s∈S)(a:x∈s):x<N:=(hC.cov x).2 (List.mem_flatten.2 ⟨s,h,a⟩)
theorem Zsd{s:List Nat}(h:s∈S):T (L9 s)∈S.map hdN:=by
 have b:=Ziq (Ze8 hC h);have c:=hP.lt _ (Ze9 hC h b);obtain⟨f,a,j⟩:=List.mem_flatten.1 ((hC.cov _).1 c);rcases Zp3 (hC.seg f a) (Zyb hC.nd a) _ j with e|⟨x,d,g,i⟩
 ·exact List.mem_map.2 ⟨f,a,e.symm⟩
 ·have:=hP.inj _ _ (Ze9 hC a d) (Ze9 hC h b) g;subst this;have:=Zl3 hC.nd h a b d;subst this;exact absurd rfl i
omit hP in
def M4(S:List (List Nat))(x:Nat):Bool:=decide (x∈S.map hdN)
def clS(T:Nat→Nat)(s:List Nat):Bool:=decide (T (L9 s)=hdN s)
theorem Zq9{w:List Nat}(a:w∈Q8 T N){x:Nat}(b:x∈w):∀ j,it T j x∈w
 | 0=>b
 | j+1=>(Zme hP w a _ (Zq9 a b j)).2
theorem Z34{w:List Nat}(b:w∈Q8 T N):∃ s,s∈S∧L9 s∈w∧T (L9 s)∈w.filter (M4 S):=by
 have a:=Zwg (n:=N) w b;obtain⟨x,f⟩:∃ x,x∈w:=List.exists_mem_of_length_pos a
 have e:=(Zme hP w b x f).1;obtain⟨s,c,g⟩:=List.mem_flatten.1 ((hC.cov _).1 e);obtain⟨j,h⟩:=Zlq (hC.seg s c) x g;have d:=Zq9 hP hC b f j;rw[h]at d;exact⟨s,c,d,List.mem_filter.2 ⟨(Zme hP w b _ d).2,by unfold M4; exact decide_eq_true (Zsd hP hC c)⟩⟩
theorem Z7w{w:List Nat}(i:w∈Q8 T N):2≤(w.filter (M4 S)).length+(w.filter (M4 (S.filter (clS T)))).length:=by
 obtain⟨s,p,q,b⟩:=Z34 hP hC i;by_cases h:2≤(w.filter (M4 S)).length
 ·omega
 ·have r:=List.length_pos_of_mem b;obtain⟨a,n⟩:∃ a,w.filter (M4 S)=[a]:=List.length_eq_one_iff.1 (by omega)
  have m:=(List.mem_filter.1 b).2;unfold M4 at m;obtain⟨c,d,e⟩:=List.mem_map.1 (of_decide_eq_true m);have l:T (L9 s)∈w:=(List.mem_filter.1 b).1;have g:L9 c∈w:=by
   obtain⟨j,o⟩:=Zlq (hC.seg c d) _ (Zhs (Ze8 hC d));rw[← o,e];exact Zq9 hP hC i l j
  have k:T (L9 c)∈w.filter (M4 S):=List.mem_filter.2 ⟨(Zme hP w i _ g).2,by unfold M4; exact decide_eq_true (Zsd hP hC d)⟩
  rw[n,List.mem_singleton]at b k;have f:clS T c=true:=by
   unfold clS;rw[k,e,b];simp
  have:T (L9 s)∈w.filter (M4 (S.filter (clS T))):=List.mem_filter.2 ⟨l,by
   unfold M4;exact decide_eq_true (List.mem_map.2 ⟨c,List.mem_filter.2 ⟨d,f⟩,e⟩)⟩
  have:=List.length_pos_of_mem this;omega
omit hP hC in
theorem Zys(R:List (List Nat)):((List.range N).filter (M4 R)).length≤R.length:=by
 have:=List.Nodup.length_le_of_subset (l₁:=(List.range N).filter (M4 R)) (l₂:=R.map hdN) (List.nodup_range.filter _) fun y a=>by
  have:=(List.mem_filter.1 a).2;unfold M4 at this;exact of_decide_eq_true this
 simpa using this
omit hP hC in
theorem Zxq{f:List Nat→Nat}{c:Nat}:∀ (L:List (List Nat)),(∀ w,w∈L→c≤f w)→c*L.length≤(L.map f).sum
 | [],_=>by simp
 | w :: r,h=>by
  have b:=h w List.mem_cons_self;have d:=Zxq r fun w a=>h w (List.mem_cons_of_mem _ a)
  rw[List.length_cons,List.map_cons,List.sum_cons,Nat.mul_add];omega
omit hP hC in
theorem Zts{f:List Nat→Nat}{c:Nat}:∀ (L:List (List Nat)),(∀ w,w∈L→f w≤c)→(L.map f).sum≤c*L.length
 | [],_=>by simp
 | w :: r,h=>by
  have b:=h w List.mem_cons_self;have d:=Zts r fun w a=>h w (List.mem_cons_of_mem _ a)
  rw[List.length_cons,List.map_cons,List.sum_cons,Nat.mul_add];omega
omit hP hC in
theorem Zuq{f g:List Nat→Nat}:∀ (L:List (List Nat)),(L.map fun w=>f w+g w).sum=(L.map f).sum+(L.map g).sum
 | []=>rfl
 | w :: r=>by
  rw[List.map_cons,List.map_cons,List.map_cons,List.sum_cons,List.sum_cons,List.sum_cons,Zuq r];omega
omit hP hC in
theorem Zya:K1 T N=(Q8 T N).length:=by
 unfold K1 Q8;rw[Zf9]
theorem Ybt:2*K1 T N≤S.length+(S.filter (clS T)).length:=by
 have a:=Zxq (f:=fun w=>(w.filter (M4 S)).length+(w.filter (M4 (S.filter (clS T)))).length) (c:=2) (Q8 T N) fun w b=>Z7w hP hC b
 rw[Zuq,Zpj hP,Zpj hP]at a;have d:=Zys (N:=N) S;have e:=Zys (N:=N) (S.filter (clS T));rw[Zya];omega
theorem Z6x(n:∀ s,s∈S→T (L9 s)=hdN s):K1 T N=S.length:=by
 have P:S.filter (clS T)=S:=List.filter_eq_self.2 fun s d=>by unfold clS; exact decide_eq_true (n s d)
 have J:=Ybt hP hC;rw[P]at J;have closed:∀ s,s∈S → ∀ x,x∈s→T x∈s:=fun s d x m=>by
  have B:=hP.lt _ (Ze9 hC d m);obtain⟨D,i,q⟩:=List.mem_flatten.1 ((hC.cov _).1 B);rcases Zp3 (hC.seg D i) (Zyb hC.nd i) _ q with e|⟨z,I,M,Y⟩
  ·rw[← n D i]at e;have:=hP.inj _ _ (Ze9 hC d m) (Ze9 hC i (Ziq (Ze8 hC i))) e;rw[Zl3 hC.nd d i m (this ▸ Ziq (Ze8 hC i))];exact q
  ·have:=hP.inj _ _ (Ze9 hC i I) (Ze9 hC d m) M;subst this;rw[Zl3 hC.nd d i m I];exact q
 have g:∀ s,s∈S → ∀ x,x∈s → ∀ j,it T j x∈s:=fun s d x m j=>by
  induction j with
  | zero=>exact m
  | succ j X=>exact closed s d _ X
 have O:=Zts (f:=fun w=>(w.filter (M4 S)).length) (c:=1) (Q8 T N) fun w U=>by
  obtain⟨l,C⟩:=Z9u hP w U;rcases A:w.filter (M4 S)with _|⟨a,_|⟨b,r⟩⟩
  ·simp
  ·simp
  ·exfalso;have k:=l.filter (M4 S);rw[A]at k;have u:a∈w.filter (M4 S):=by rw[A]; simp
   have v:b∈w.filter (M4 S):=by rw[A]; simp
   obtain⟨K,E⟩:=List.mem_filter.1 u;obtain⟨L,F⟩:=List.mem_filter.1 v;unfold M4 at E F;obtain⟨s,o,G⟩:=List.mem_map.1 (of_decide_eq_true E);obtain⟨D,H,p⟩:=List.mem_map.1 (of_decide_eq_true F);obtain⟨j,Q⟩:=C a b K L;have hm:=g s o a (G ▸ Zhs (Ze8 hC o)) j;rw[Q]at hm;have:=Zl3 hC.nd o H hm (p ▸ Zhs (Ze8 hC H));subst this;rw[G]at p;subst p;simp at k
 have Z:S.length≤((List.range N).filter (M4 S)).length:=by
  have l:(S.map hdN).Nodup:=by
   have t:=hC.nd;unfold List.Nodup at t;rw[List.pairwise_flatten]at t;unfold List.Nodup;rw[List.pairwise_map];refine List.Pairwise.imp_of_mem (fun {a b} u v h e=>?_) t.2
   exact h _ (Zhs (Ze8 hC u)) _ (Zhs (Ze8 hC v)) e
  have:=List.Nodup.length_le_of_subset (l₁:=S.map hdN) (l₂:=(List.range N).filter (M4 S)) l fun y V=>by
   obtain⟨s,d,rfl⟩:=List.mem_map.1 V;exact List.mem_filter.2 ⟨List.mem_range.2 (Ze9 hC d (Zhs (Ze8 hC d))),by unfold M4; exact decide_eq_true (List.mem_map.2 ⟨s,d,rfl⟩)⟩
  simpa using this
 rw[Zpj hP]at O;rw[Zya]at J ⊢;omega
end
end Go.Known
end
section
namespace Go.Known
open Go.Plain
def Chn(T:Nat→Nat):Nat→List Nat→Nat→Prop
 | s,[],e=>s=e
 | s,x :: p,e=>x=T s∧Chn T x p e
theorem Chn.app{T:Nat→Nat}:∀ {p:List Nat} {s e g:Nat} {q:List Nat},Chn T s p e→Chn T e q g→Chn T s (p++q) g
 | [],_,_,_,_,h,a=>by
  have:_=_:=h;subst this;exact a
 | x :: p,_,_,_,_,h,a=>⟨h.1,h.2.app a⟩
theorem Chn.seg{T:Nat→Nat}:∀ {p:List Nat} {s e:Nat},Chn T s p e→p≠[]→Seg T p∧hdN p=T s∧L9 p=e
 | [x],s,e,h,_=>⟨trivial,h.1,h.2⟩
 | x :: y :: p,s,e,h,_=>by
  obtain⟨a,b,c⟩:=Chn.seg h.2 (by simp)
  refine⟨⟨?_,a⟩,h.1,by rw[Zh1]; exact c⟩
  exact b
def Cyc(T:Nat→Nat)(w:List Nat):Prop:=w≠[] ∧ ∃ z,Chn T z w z
theorem Cyc.seg{T:Nat→Nat}{w:List Nat}(h:Cyc T w):Seg T w∧T (L9 w)=hdN w:=by
 obtain⟨h0,z,h⟩:=h;obtain⟨a,b,c⟩:=h.seg h0;exact⟨a,by rw[b,c]⟩
def Gap(T bk:Nat→Nat):Nat→List Nat→List (List Nat)→Prop
 | _,[],[]=>True
 | s,x :: fr,p :: ps=>p≠[]∧Chn T s p x∧Gap T bk (bk x) fr ps
 | _,_,_=>False
def endS(bk:Nat→Nat):Nat→List Nat→Nat
 | s,[]=>s
 | _,x :: l=>endS bk (bk x) l
section
variable {T bk:Nat→Nat}
theorem Gap.len:∀ {a:List Nat} {s:Nat} {ps:List (List Nat)},Gap T bk s a ps→ps.length=a.length
 | [],_,[],_=>rfl
 | _ :: _,_,_ :: _,h=>by rw[List.length_cons,List.length_cons,h.2.2.len]
theorem Gap.split:∀ {l r:List Nat} {s:Nat} {ps:List (List Nat)},Gap T bk s (l++r) ps → ∃ p1 a,ps=p1++a∧Gap T bk s l p1∧Gap T bk (endS bk s l) r a
 | [],r,s,ps,h=>⟨[],ps,rfl,trivial,h⟩
 | x :: l,r,s,p :: ps,h=>by
  obtain⟨p1,a,e,b,c⟩:=Gap.split (l:=l) h.2.2;exact⟨p :: p1,a,by rw[e]; rfl,⟨h.1,h.2.1,b⟩,c⟩
theorem Gap.app:∀ {l r:List Nat} {s:Nat} {p1 a:List (List Nat)},Gap T bk s l p1→Gap T bk (endS bk s l) r a→Gap T bk s (l++r) (p1++a)
 | [],_,_,[],_,_,h=>h
 | _ :: _,_,_,_ :: _,_,h,b=>⟨h.1,h.2.1,h.2.2.app b⟩
def Rot(T bk:Nat→Nat):Nat→List Nat→Nat→Prop
 | e,[],u=>u=T e
 | e,o :: os,u=>o=T e∧Rot T bk (bk o) os u
def Side(T bk:Nat→Nat):List Nat→Prop
 | []=>False
 | [_]=>True
 | y :: y' :: r=>T y'=bk y∧Side T bk (y' :: r)
theorem Zy2{u z:Nat}{d:List Nat}{r:List Nat}{c:List (List Nat)}(g:Chn T u d z)(f:Gap T bk (bk z) r c):∀ (a:List Nat) (s e:Nat) (q:List Nat),Chn T s q e→Rot T bk e a u →
 ∃ ps,Gap T bk s (a++z :: r) ps∧ps.flatten=q++a++u :: (d++c.flatten)
 | [],s,e,q,b,h=>by
  have h:u=T e:=h;refine⟨(q++u :: d) :: c,⟨by simp,b.app ⟨h,g⟩,f⟩,by simp⟩
 | o :: os,s,e,q,b,h=>by
  obtain⟨ps,i,j⟩:=Zy2 g f os (bk o) (bk o) [] rfl h.2;refine⟨(q++[o]) :: ps,⟨by simp,b.app ⟨h.1,rfl⟩,i⟩,?_⟩
  rw[List.flatten_cons,j];simp
theorem Zy7:∀ (ins r:List Nat) (s:Nat) (ps:List (List Nat)),Side T bk ins→r≠[]→Gap T bk s (ins++r) ps →
 ∃(p1:List Nat) (z:Nat) (e b:List Nat) (c d:List (List Nat)),Chn T s p1 (hdN ins)∧r=z :: e∧b≠[]∧Chn T (bk (L9 ins)) b z∧Gap T bk (bk z) e c∧(∀ w,w∈d→Cyc T w)∧d.length+1=ins.length ∧
  (d.flatten++p1++bk (L9 ins) :: (b++c.flatten)).Perm (ps.flatten++ins.map bk)
 | [y],r,s,ps,_,g,h=>by
  cases r with
  | nil=>exact absurd rfl g
  | cons z e=>
   match ps,h with
   | [],h=>exact h.elim
   | [_],h=>exact h.2.2.elim
   | p1 :: b :: c,h=>
    refine⟨p1,z,e,b,c,[],h.2.1,rfl,h.2.2.1,h.2.2.2.1,h.2.2.2.2,fun w f=>(by cases f),rfl,?_⟩
    show(p1++bk y :: (b++c.flatten)).Perm _;rw[List.flatten_cons,List.flatten_cons,List.map_singleton];have C:(bk y :: (b++c.flatten)).Perm (b++c.flatten++[bk y]):=List.perm_append_comm (l₁:=[bk y]);have:=C.append_left p1;simpa using this
 | y :: i :: t,r,s,ps,j,g,h=>by
  match ps,h with
  | [],h=>exact h.elim
  | p :: ps,h=>
   obtain⟨p1,z,e,b,c,d,k,l,m,n,o,q,u,v⟩:=Zy7 (i :: t) r (bk y) ps j.2 g h.2.2;refine⟨p,z,e,b,c,(p1++[bk y]) :: d,h.2.1,l,m,by rw[Zh1]; exact n,o,fun w f=>?_,by rw[List.length_cons,u]; rfl,?_⟩
   ·rcases List.mem_cons.1 f with rfl|f
    ·refine⟨by simp,bk y,k.app ⟨?_,rfl⟩⟩
     exact j.1.symm
    ·exact q w f
   ·rw[Zh1];rw[List.flatten_cons,List.flatten_cons,List.map_cons];generalize bk (L9 (i :: t)) :: (b++c.flatten)=X at *;generalize (i :: t).map bk=M at *;have A:(p1++[bk y]++d.flatten++p++X).Perm (p++([bk y]++(d.flatten++p1++X))):=by
     rw[List.perm_iff_count];intro a;simp only[List.count_append];omega
    refine A.trans ?_;have B:(p++([bk y]++(d.flatten++p1++X))).Perm (p++([bk y]++(ps.flatten++M))):=(v.append_left [bk y]).append_left p;refine B.trans ?_;rw[List.perm_iff_count];intro a;simp only[List.count_append,List.count_cons,List.count_nil];omega
def Stt(T bk:Nat→Nat)(A:Nat)(front dts:List Nat)(c:Nat):Prop:=
 ∃ ps cl:List (List Nat),Gap T bk A (front++[A]) ps∧(∀ w,w∈cl→Cyc T w)∧cl.length=c∧(cl.flatten++ps.flatten).Perm dts
variable {A:Nat}
theorem Stt.cap{l r f:List Nat}{x y c:Nat}(h:Stt T bk A (l++x :: y :: r) f c)(B:bk x=y)(C:bk y=x):Stt T bk A (l++r) f (c+1):=by
 obtain⟨ps,p,m,t,u,v⟩:=h;rw[List.append_assoc]at m;obtain⟨p1,D,rfl,q,d⟩:=m.split;obtain⟨z,i,n⟩:∃ z i,r++[A]=z :: i:=by
  cases r with
  | nil=>exact ⟨A,[],rfl⟩
  | cons a b=>exact ⟨a,b++[A],rfl⟩
 have e:(x :: y :: r)++[A]=x :: y :: z :: i:=by rw[← n]; rfl
 rw[e]at d
 match D,d with
 | [],d=>exact d.elim
 | [_],d=>exact d.2.2.elim
 | [_,_],d=>exact d.2.2.2.2.elim
 | px :: F :: G :: E,d=>
  obtain⟨n1,o,n2,j,H,k,s⟩:=d;rw[B]at j;rw[C]at k;refine⟨p1++(px++G) :: E,F :: p,?_,fun w g=>?_,by rw[List.length_cons,u],?_⟩
  ·rw[List.append_assoc,n];exact q.app ⟨by simp[n1],o.app k,s⟩
  ·rcases List.mem_cons.1 g with rfl|g
   ·exact⟨n2,y,j⟩
   ·exact t w g
  ·refine List.Perm.trans ?_ v;rw[List.perm_iff_count];intro a;simp only[List.flatten_cons,List.flatten_append,List.count_append];omega
theorem Stt.cross{l ins b r d:List Nat}{c:Nat}(h:Stt T bk A (l++ins++r) d c)(E:Side T bk ins)(D:Rot T bk (hdN ins) b (bk (L9 ins))) :
 Stt T bk A (l++b++r) (d++(b++ins.map bk)) (c+(ins.length - 1)):=by
 obtain⟨ps,u,k,B,C,g⟩:=h;rw[List.append_assoc,List.append_assoc]at k;obtain⟨p1,F,rfl,v,y⟩:=k.split;obtain⟨G,z,L,K,J,i,m,n,H,o,p,q,I,f⟩:=Zy7 ins (r++[A]) _ F E (by simp) y
 obtain⟨j,s,t⟩:=Zy2 o p b _ _ G m D;refine⟨p1++j,i++u,?_,fun w e=>?_,by rw[List.length_append,C]; omega,?_⟩
 ·rw[List.append_assoc,List.append_assoc,n];exact v.app s
 ·rcases List.mem_append.1 e with e|e
  ·exact q w e
  ·exact B w e
 ·rw[List.perm_iff_count]at g f ⊢;intro a;have g:=g a;have f:=f a;simp only[List.flatten_append,List.count_append,t]at g f ⊢;omega
theorem Stt.done{d:List Nat}{c:Nat}(h:Stt T bk A [] d c):∃ S:List (List Nat),(∀ s,s∈S→Cyc T s)∧S.flatten.Perm d∧S.length=c+1:=by
 obtain⟨ps,f,b,g,i,j⟩:=h
 match ps,b with
 | [],b=>exact b.elim
 | [p],b=>
  refine⟨p :: f,fun s e=>?_,?_,by rw[List.length_cons,i]⟩
  ·rcases List.mem_cons.1 e with rfl|e
   ·exact⟨b.1,A,b.2.1⟩
   ·exact g s e
  ·refine List.Perm.trans ?_ j;rw[List.perm_iff_count];intro a;simp only[List.flatten_cons,List.flatten_nil,List.count_append,List.append_nil];omega
 | _ :: _ :: _,b=>exact b.2.2.elim
end
end Go.Known
end
section
namespace Go.Known
open Go.Plain
theorem Zsa:∀ (l:List Lt) (met:List Int),met.Nodup→(l.foldl O7 met).Nodup
 | [],_,h=>h
 | a :: r,met,h=>by
  rw[List.foldl_cons];refine Zsa r _ ?_;unfold O7;split
  ·rename_i f;have b:a.i∉met:=fun hm=>by
    have:∀ m:List Int,a.i∈m→Y6 a.i m≠0:=by
     intro m
     induction m with
     | nil=>intro c; cases c
     | cons z r j=>
      intro c;simp only[Y6];by_cases e:a.i=z
      ·rw[if_pos e]; decide
      ·rw[if_neg e];rcases List.mem_cons.1 c with c|c
       ·exact absurd c e
       ·rw[if_neg (j c)]; omega
    exact this met hm f.2
   rw[List.nodup_append];refine⟨h,by simp,fun x g z d e=>?_⟩
   rw[List.mem_singleton]at d;rw[← d,← e]at b;exact b g
  ·exact h
theorem Zxb{ls:List Lt}:∀ met:List Int,met.Nodup→(∀ z,z∈met→G9 z ls=2)→Z5 (fun l=>isX l&&met.contains l.i) ls=2*met.length
 | [],_,_=>by
  have:Z5 (fun l=>isX l&&([]:List Int).contains l.i) ls=Z5 (fun _=>false) ls:=F0 fun l _=>by simp
  rw[this];simp[Z5]
 | z :: r,b,d=>by
  rw[List.nodup_cons]at b;have c:=Zne (fun l=>isX l&&(z :: r).contains l.i) (fun l=>l.i == z) ls
  have e:Z5 (fun l=>isX l&&(z :: r).contains l.i&&(l.i == z)) ls=G9 z ls:=by
   unfold G9;refine F0 fun l _=>?_
   by_cases a:l.i=z
   ·simp[a]
   ·have:(l.i == z)=false:=by simpa using a
    simp[this]
  have f:Z5 (fun l=>isX l&&(z :: r).contains l.i && !(l.i == z)) ls=Z5 (fun l=>isX l&&r.contains l.i) ls:=by
   refine F0 fun l _=>?_
   by_cases a:l.i=z
   ·have:=b.1;simp[a,this]
   ·simp[a]
  rw[e,f,d z (List.mem_cons_self ..),Zxb r b.2 (fun w g=>d w (List.mem_cons_of_mem _ g))]at c
  rw[c,List.length_cons];omega
theorem Zzz{y:List Lt}{z:Int}(h:z∈X9 y y.length):∃ a,a∈y∧a.k=2∧a.i=z:=by
 have:∀ (l:List Lt) (met:List Int),z∈l.foldl O7 met→z∈met ∨ ∃ a,a∈l∧a.k=2∧a.i=z:=by
  intro l
  induction l with
  | nil=>exact fun met h=>.inl h
  | cons a r e=>
   intro met h;rw[List.foldl_cons]at h;rcases e _ h with h|⟨b,c,d⟩
   ·rcases Z70 h with h|h
    ·exact .inl h
    ·exact .inr ⟨a,List.mem_cons_self ..,h⟩
   ·exact .inr ⟨b,List.mem_cons_of_mem _ c,d⟩
 unfold X9 at h;rw[List.take_length]at h;rcases this y [] h with h|h
 ·cases h
 ·exact h
theorem Z9r{y:List Lt}(h:∀ a,a∈y→a.k=2→G9 a.i y=2):NmOk (X8 y):=by
 have c:X7 (X8 y)=X7 y:=by
  rw[Zoj];unfold X7;rw[Zkj];exact F0 fun l _=>by unfold isX; rw[ap_k]
 have j:2*(X9 y y.length).length≤X7 y:=by
  rw[← Zxb (ls:=y) (X9 y y.length) (Zsa _ [] List.nodup_nil) fun z o=>by
   obtain⟨a,d,e,rfl⟩:=Zzz o;exact h a d e]
  exact Zyj fun l g=>by simp at g; exact g.1
 intro a hm f;rw[c];rw[Zoj]at hm;obtain⟨b,m,rfl⟩:=List.mem_map.1 hm;rw[ap_k]at f;rw[I8 f];simp only;obtain⟨p,n,rfl⟩:=Zfs m;have d:=Zq3 n f;have e:=Zlu d (y.length - (p+1)) (by omega)
 rw[show p+1+(y.length - (p+1))=y.length by omega]at e
 have q:=Zmi (x:=(at' y p).i) (met:=X9 y y.length);omega
section
variable {f:Int} {y:List Lt} (hv:ValR f y) (h0:y≠[])
include hv h0
end
end Go.Known
end
