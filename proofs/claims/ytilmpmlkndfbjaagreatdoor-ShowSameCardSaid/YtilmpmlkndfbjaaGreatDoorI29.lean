/- Part 29 of the proof: Pk, Pl, Pm. -/
import Derived.Test.YtilmpmlkndfbjaaGreatDoorI21
import Derived.Test.YtilmpmlkndfbjaaGreatDoorI26
set_option linter.all false
section
namespace Go.Known
open Go.Plain
def it(T:Nat→Nat):Nat→Nat→Nat
 | 0,x=>x
 | j+1,x=>T (it T j x)
theorem Zaz(T:Nat→Nat):∀ (j x:Nat),it T j (T x)=T (it T j x)
 | 0,_=>rfl
 | j+1,x=>by simp only[it]; rw[Zaz T j x]
theorem Zid(T:Nat→Nat)(x:Nat):∀ (i j:Nat),it T (i+j) x=it T i (it T j x)
 | 0,j=>by rw[Nat.zero_add]; rfl
 | i+1,j=>by rw[Nat.succ_add]; simp only[it]; rw[Zid T x i j]
def per(T:Nat→Nat)(N x:Nat):Nat:=(((List.range (N+1)).find? fun j=>it T (j+1) x == x).map (· + 1)).getD 0
theorem Ziy{T:Nat→Nat}{N L x:Nat}(c:0<L)(d:L≤N+1)(a:it T L x=x)(b:∀ j,0<j→j<L→it T j x≠x):per T N x=L:=by
 unfold per;have:(List.range (N+1)).find? (fun j=>it T (j+1) x == x)=some (L - 1):=by
  rw[List.find?_range_eq_some];refine⟨?_,by simp; omega,fun j e=>?_⟩
  ·rw[show L - 1+1=L by omega,a]; simp
  ·have:=b (j+1) (by omega) (by omega)
   simpa using this
 rw[this];show L - 1+1=L;omega
def Inn(T:Nat→Nat)(n x:Nat):Prop:=∀ j,it T j x<n
structure Perm1 (T:Nat→Nat) (N:Nat):Prop where
 lt:∀ d,d<N→T d<N
 inj:∀ y y',y<N→y'<N→T y=T y'→y=y'
structure Clo (T:Nat→Nat) (N:Nat) (seen:List Bool):Prop where
 len:seen.length=N
 same:∀ y,y<N→seen.getD (T y) true=seen.getD y true
section
variable {T:Nat→Nat} {N n:Nat} (hP:Perm1 T N)
include hP
theorem D0{x:Nat}(a:x<N):∀ j,it T j x<N
 | 0=>a
 | j+1=>hP.lt _ (D0 a j)
theorem Z1d{S:List Bool}(a:Clo T N S){x:Nat}(b:x<N):∀ j,S.getD (it T j x) true=S.getD x true
 | 0=>rfl
 | j+1=>by simp only[it]; rw[a.same _ (D0 hP b j),Z1d a b j]
theorem Z58{S:List Bool}(B:Clo T N S){x:Nat}(p:x<N)(s:S.getD x true=false) :
 ∀(k i:Nat) (seen:List Bool),seen.length=N→D9 seen<k→0<i→(∀ y,y<N→(seen.getD y true=true↔S.getD y true=true ∨ ∃ j,j<i∧it T j x=y))→(∀ a b,a<b→b<i→it T a x≠it T b x) →
  ∃ L,i≤L∧it T L x=x∧(∀ j,0<j→j<L→it T j x≠x)∧tr T k seen (it T i x)=(List.range' i (L - i)).map (fun j=>it T j x) ∧
   ∀ y,y<N→((Plain.mark T k seen (it T i x)).getD y true=true↔S.getD y true=true ∨ ∃ j,j<L∧it T j x=y):=by
 intro k
 induction k with
 | zero=>intro i seen _ h; omega
 | succ k E=>
  intro i seen C I hi c t;have m:=D0 hP p i;cases d:seen.getD (it T i x) true with
  | true=>
   rcases (c _ m).1 d with g|⟨j,o,g⟩
   ·rw[Z1d hP B p,s]at g; cases g
   ·have u:j=0:=by
     rcases Nat.eq_zero_or_pos j with h|h
     ·exact h
     ·exfalso;obtain⟨r,rfl⟩:∃ r,j=r+1:=⟨j - 1,by omega⟩
      obtain⟨q,rfl⟩:∃ q,i=q+1:=⟨i - 1,by omega⟩
      have:=hP.inj _ _ (D0 hP p r) (D0 hP p q) g;exact t r q (by omega) (by omega) this
    subst u;refine⟨i,Nat.le_refl _,g.symm,fun j A o e=>t 0 j A o e.symm,?_,?_⟩
    ·simp only[tr,d,if_true,Nat.sub_self,List.range'_zero,List.map_nil]
    ·simp only[Plain.mark,d,if_true];exact c
  | false=>
   have D:=Zi7 (by omega) d
   obtain⟨L,G,v,w,F,z⟩:=E (i+1) (seen.set (it T i x) true) (by simpa using C) (by omega) (by omega) (fun y n=>by
    rw[C6 (by omega)]
    simp only[Bool.or_eq_true,decide_eq_true_eq];rw[c y n];constructor
    ·rintro((h|⟨j,o,h⟩)|h)
     ·exact .inl h
     ·exact .inr ⟨j,by omega,h⟩
     ·exact .inr ⟨i,by omega,h.symm⟩
    ·rintro(h|⟨j,o,h⟩)
     ·exact .inl (.inl h)
     ·rcases Nat.lt_or_ge j i with f|f
      ·exact .inl (.inr ⟨j,f,h⟩)
      ·have:j=i:=by omega
       subst this;exact .inr h.symm) (fun a b l H e=>by
    rcases Nat.lt_or_ge b i with f|f
    ·exact t a b l f e
    ·have:b=i:=by omega
     subst this;have:=(c _ m).2 (.inr ⟨a,l,e⟩);rw[d]at this; cases this)
   refine⟨L,by omega,v,w,?_,?_⟩
   ·rw[show L - i=(L - (i+1))+1 by omega,List.range'_succ]
    simp only[tr,d,bF,if_false,List.map_cons]
    congr 1
   ·simp only[Plain.mark,d,bF,if_false];exact z
theorem Zjj{S:List Bool}(d:Clo T N S){x:Nat}(q:x<N)(c:S.getD x true=false) :
 ∃ L,0<L∧L≤N+1∧it T L x=x∧(∀ j,0<j→j<L→it T j x≠x)∧tr T (N+1) S x=(List.range' 0 L).map (fun j=>it T j x) ∧
  ∀ y,y<N→((Plain.mark T (N+1) S x).getD y true=true↔S.getD y true=true ∨ ∃ j,j<L∧it T j x=y):=by
 have n:=d.len;have p:=Zi7 (l:=S) (by omega) c
 have o:=Zfp (l:=S);obtain⟨L,s,g,i,r,k⟩:=Z58 hP d q c N 1 (S.set x true) (by simpa using n) (by omega) (by omega) (fun y f=>by
  rw[C6 (by omega)]
  simp only[Bool.or_eq_true,decide_eq_true_eq];constructor
  ·rintro(h|h)
   ·exact .inl h
   ·exact .inr ⟨0,by omega,h.symm⟩
  ·rintro(h|⟨j,u,h⟩)
   ·exact .inl h
   ·have:j=0:=by omega
    subst this;exact .inr h.symm) (fun a b m t=>by omega)
 have e:tr T (N+1) S x=(List.range' 0 L).map (fun j=>it T j x):=by
  rw[show L=(L - 1)+1 by omega,List.range'_succ]
  simp only[tr,c,bF,if_false,List.map_cons]
  congr 1
 refine⟨L,by omega,?_,g,i,e,?_⟩
 ·have:=Zsn T (N+1) S x;rw[e]at this;simpa using this
 ·intro y f;have:=k y f;simp only[Plain.mark,c,bF,if_false];exact this
theorem Zib{x:Nat}(f:x<N):0<per T N x∧it T (per T N x) x=x ∧ ∀ j,0<j→j<per T N x→it T j x≠x:=by
 have b:∀ y,y<N→(List.replicate N false).getD y true=false:=fun y a=>by rw[List.getD_eq_getElem?_getD,List.getElem?_replicate,if_pos a]; rfl
 obtain⟨L,c,g,d,e,_⟩:=Zjj hP (S:=List.replicate N false) ⟨by simp,fun y a=>by rw[b y a,b _ (hP.lt y a)]⟩ f (b x f)
 rw[Ziy c g d e];exact⟨c,d,e⟩
theorem Z1u{x:Nat}(d:x<N):per T N x≤N+1:=by
 have b:∀ y,y<N→(List.replicate N false).getD y true=false:=fun y a=>by rw[List.getD_eq_getElem?_getD,List.getElem?_replicate,if_pos a]; rfl
 obtain⟨L,e,c,f,g,_⟩:=Zjj hP (S:=List.replicate N false) ⟨by simp,fun y a=>by rw[b y a,b _ (hP.lt y a)]⟩ d (b x d)
 rw[Ziy e c f g];exact c
theorem Yez{x:Nat}(a:x<N):per T N (T x)=per T N x:=by
 obtain⟨b,c,d⟩:=Zib hP a;refine Ziy b (Z1u hP a) (by rw[Zaz,c]) fun j f g e=>?_
 rw[Zaz]at e;exact d j f g (hP.inj _ _ (D0 hP a j) a e)
theorem Yff{x:Nat}(b:x<N):Inn T n (T x)↔Inn T n x:=by
 obtain⟨c,a,_⟩:=Zib hP b;constructor
 ·intro h j;cases j with
  | zero=>
   have:=h (per T N x - 1);rw[Zaz]at this;have e:T (it T (per T N x - 1) x)=it T (per T N x - 1+1) x:=rfl;rw[e,show per T N x - 1+1=per T N x by omega,a]at this
   exact this
  | succ j=>
   have:=h j;rw[Zaz]at this;exact this
 ·intro h j;rw[Zaz];exact h (j+1)
end
def B8(P:Nat→Bool):Nat→List Bool→Nat
 | _,[]=>0
 | i,b :: r=>(if !b&&P i then 1 else 0)+B8 P (i+1) r
theorem Zrq{P:Nat→Bool}:∀ (l:List Bool) (i j:Nat),l[j]? = some false→B8 P i (l.set j true)+(if P (i+j)then 1 else 0)=B8 P i l
 | [],_,_,h=>by simp at h
 | b :: r,i,0,h=>by
  simp only[List.getElem?_cons_zero,oI]at h;subst h;simp only[List.set_cons_zero,B8,Bool.not_true,Bool.false_and,Bool.not_false,Bool.true_and,Nat.add_zero,bF,if_false];omega
 | b :: r,i,j+1,h=>by
  have:=Zrq (P:=P) r (i+1) j (by simpa using h)
  rw[show i+1+j=i+(j+1) by omega]at this
  simp only[List.set_cons_succ,B8];omega
theorem Zos{P:Nat→Bool}:∀ (l:List Bool) (i:Nat),(∀ y,l.getD y true=true)→B8 P i l=0
 | [],_,_=>rfl
 | b :: r,i,h=>by
  have a:b=true:=by simpa using h 0
  subst a;have:=Zos (P:=P) r (i+1) fun y=>by simpa using h (y+1)
  simp only[B8,this];simp
theorem Zsy{P:Nat→Bool}:∀ (k i:Nat),B8 P i (List.replicate k false)=((List.range' i k).filter P).length
 | 0,_=>rfl
 | k+1,i=>by
  rw[List.replicate_succ,B8,Zsy k (i+1),List.range'_succ,List.filter_cons];cases P i<;>simp<;>omega
section
variable {T:Nat→Nat} {N n:Nat} (hP:Perm1 T N)
include hP
theorem Zxa{P:Nat→Bool}(a:∀ d,d<N→P (T d)=P d):∀ (k:Nat) (seen:List Bool) (x:Nat),seen.length=N→x<N →
 B8 P 0 (Plain.mark T k seen x)+(if P x then (tr T k seen x).length else 0)=B8 P 0 seen
 | 0,seen,x,_,_=>by simp[Plain.mark,tr]
 | k+1,seen,x,i,f=>by
  cases h:seen.getD x true with
  | true=>simp only[Plain.mark,tr,h,if_true,List.length_nil]; split<;>rfl
  | false=>
   have g:seen[x]? = some false:=by
    rw[List.getD_eq_getElem?_getD,gE (by omega)]at h
    rw[gE (by omega)]
    simpa using h
   have b:=Zrq (P:=P) seen 0 x g;have c:=Zxa a k (seen.set x true) (T x) (by simpa using i) (hP.lt x f)
   rw[a x f]at c;simp only[Plain.mark,tr,h,bF,if_false,List.length_cons];rw[Nat.zero_add]at b;by_cases e:P x=true
   ·rw[if_pos e]at b c ⊢; omega
   ·rw[if_neg e]at b c ⊢; omega
theorem Z0n{S:List Bool}(c:Clo T N S){x:Nat}(d:x<N)(b:S.getD x true=false):Clo T N (Plain.mark T (N+1) S x):=by
 obtain⟨L,n,o,g,p,q,i⟩:=Zjj hP c d b;refine⟨by rw[Zjm]; exact c.len,fun y a=>?_⟩
 have e:((Plain.mark T (N+1) S x).getD (T y) true=true↔(Plain.mark T (N+1) S x).getD y true=true):=by
  rw[i _ (hP.lt y a),i y a,c.same y a];constructor
  ·rintro(h|⟨j,m,h⟩)
   ·exact .inl h
   ·refine .inr ?_;cases j with
    | zero=>
     refine⟨L - 1,by omega,hP.inj _ _ (D0 hP d _) a ?_⟩
     have e:T (it T (L - 1) x)=it T (L - 1+1) x:=rfl;rw[e,show L - 1+1=L by omega,g]
     exact h
    | succ j=>exact ⟨j,by omega,hP.inj _ _ (D0 hP d _) a h⟩
  ·rintro(h|⟨j,m,rfl⟩)
   ·exact .inl h
   ·refine .inr ?_;rcases Nat.lt_or_ge (j+1) L with f|f
    ·exact⟨j+1,f,rfl⟩
    ·have:L=j+1:=by omega
     subst this;exact⟨0,by omega,g.symm⟩
 cases k:(Plain.mark T (N+1) S x).getD (T y) true<;>cases l:(Plain.mark T (N+1) S x).getD y true<;>rw[k,l]at e<;>simp at e ⊢
def sig(n:Nat)(w:List Nat):Nat×Bool:=(w.length,w.all fun d=>decide (d<n))
open Classical in
noncomputable def PK(T:Nat→Nat)(N n K:Nat)(b:Bool)(d:Nat):Bool:=decide (per T N d=K)&&(decide (Inn T n d) == b)
omit hP in
theorem Zqi{L x:Nat}(a:0<L)(b:it T L x=x):(∀ j,j<L→it T j x<n)↔Inn T n x:=by
 refine⟨fun h j=>?_,fun h j _=>h j⟩
 have hm:∀ q,it T (L*q) x=x:=fun q=>by
  induction q with
  | zero=>rfl
  | succ q c=>rw[Nat.mul_succ,Zid,b,c]
 have e:j=j % L+L*(j / L):=by rw[Nat.mod_add_div]
 rw[e,Zid,hm];exact h _ (Nat.mod_lt _ a)
open Classical in
theorem Yav{S:List Bool}(m:Clo T N S){x:Nat}(p:x<N)(a:S.getD x true=false):sig n (tr T (N+1) S x)=(per T N x,decide (Inn T n x)):=by
 obtain⟨L,f,i,g,k,l,q⟩:=Zjj hP m p a;rw[l,Ziy f i g k];unfold sig;refine Prod.ext (by simp) ?_
 have:((List.map (fun j=>it T j x) (List.range' 0 L)).all fun d=>decide (d<n))=true↔Inn T n x:=by
  rw[← Zqi f g,List.all_eq_true];constructor
  ·intro h j b;have:=h (it T j x) (List.mem_map.2 ⟨j,by simp[b],rfl⟩)
   simpa using this
  ·intro h d o;obtain⟨j,b,rfl⟩:=List.mem_map.1 o;have:=h j (by simpa using b)
   simpa using this
 by_cases h:Inn T n x
 ·rw[this.2 h]; simp[h]
 ·have c:¬((List.map (fun j=>it T j x) (List.range' 0 L)).all fun d=>decide (d<n))=true:=fun e=>h (this.1 e)
  simp only[Bool.not_eq_true]at c;show((List.map (fun j=>it T j x) (List.range' 0 L)).all fun d=>decide (d<n))=decide (Inn T n x)
  rw[c]; simp[h]
theorem Z9p(K:Nat)(b:Bool){d:Nat}(a:d<N):PK T N n K b (T d)=PK T N n K b d:=by
 classical
 unfold PK;rw[Yez hP a]
 congr 2
 exact decide_eq_decide.2 (Yff hP a)
theorem Zrv(K:Nat)(b:Bool):∀ (k:Nat) (seen:List Bool),k≤N→Clo T N seen→(∀ y,y<N - k→seen.getD y true=true) →
 K*((wks T N k seen).map (sig n)).count (K,b)=B8 (PK T N n K b) 0 seen
 | 0,seen,_,j,l=>by
  rw[Zos]
  ·simp[wks]
  ·intro y;rcases Nat.lt_or_ge y N with h|h
   ·exact l y (by omega)
   ·rw[List.getD_eq_getElem?_getD,List.getElem?_eq_none (by rw[j.len]; omega)]; rfl
 | k+1,seen,v,j,l=>by
  have o:N - (k+1)<N:=by omega
  simp only[wks];have f:∀ a:List Bool,(∀ y,seen.getD y true=true→a.getD y true=true)→a.getD (N - (k+1)) true=true → ∀ y,y<N - k→a.getD y true=true:=fun a r s y q=>by
   rcases Nat.lt_or_ge y (N - (k+1))with p|p
   ·exact r y (l y p)
   ·have:y=N - (k+1):=by omega
    rw[this]; exact s
  cases h:seen.getD (N - (k+1)) true with
  | true=>
   rw[if_pos rfl];exact Zrv K b k seen (by omega) j (f seen (fun _ h=>h) h)
  | false=>
   rw[if_neg (by simp)]
   have t:=j.len;have u:=Zrv K b k (Plain.mark T (N+1) seen (N - (k+1))) (by omega) (Z0n hP j o h) (f _ (fun y q=>Ze4 _ _ _ q) (by
    simp only[Plain.mark,h,bF,if_false];exact Ze4 _ _ _ (by rw[C6 (by omega)]; simp)))
   have c:=Zxa hP (P:=PK T N n K b) (fun d l=>Z9p hP K b l) (N+1) seen (N - (k+1)) t o
   have i:=Yav (n:=n) hP j o h;have m:(tr T (N+1) seen (N - (k+1))).length=per T N (N - (k+1)):=congrArg Prod.fst i;rw[List.map_cons,List.count_cons,i,Nat.mul_add,u];by_cases g:PK T N n K b (N - (k+1))=true
   ·rw[if_pos g,m]at c;unfold PK at g;simp only[bA,decide_eq_true_eq,beq_iff_eq]at g;rw[if_pos (by simp[g.1,g.2])]
    rw[g.1]at c;omega
   ·rw[if_neg g]at c;rw[if_neg]
    ·omega
    ·intro e;apply g;simp only[beq_iff_eq,pI2]at e;unfold PK;simp only[bA,decide_eq_true_eq,beq_iff_eq];exact e
theorem Zvy(K:Nat)(b:Bool):K*((T3 T N).map (sig n)).count (K,b)=((List.range N).filter (PK T N n K b)).length:=by
 have c:∀ y,y<N→(List.replicate N false).getD y true=false:=fun y a=>by rw[List.getD_eq_getElem?_getD,List.getElem?_replicate,if_pos a]; rfl
 rw[T3,Zrv hP K b N _ (Nat.le_refl _) ⟨by simp,fun y a=>by rw[c y a,c _ (hP.lt y a)]⟩ (fun y a=>by omega),Zsy,List.range_eq_range']
end
theorem Zz6{T:Nat→Nat}{N n:Nat}:∀ w,w∈T3 T N→0<w.length:=by
 have:∀ (k:Nat) (seen:List Bool),∀ w,w∈wks T N k seen→0<w.length:=by
  intro k
  induction k with
  | zero=>intro seen w a; simp[wks]at a
  | succ k b=>
   intro seen w a;simp only[wks]at a;cases h:seen.getD (N - (k+1)) true with
   | true=>rw[h,if_pos rfl]at a; exact b _ w a
   | false=>
    rw[h,if_neg (by simp)]at a
    rcases List.mem_cons.1 a with rfl|a
    ·simp only[tr,h,bF,if_false,List.length_cons]; omega
    ·exact b _ w a
 exact this N _
structure Opp (T T':Nat→Nat) (N n:Nat) (φ ψ:Nat→Nat):Prop where
 p:Perm1 T N
 q:Perm1 T' N
 lt:∀ x,x<N→φ x<N
 ltr:∀ x,x<N→ψ x<N
 inv:∀ x,x<N→ψ (φ x)=x
 inr:∀ x,x<N→φ (ψ x)=x
 opp:∀ x,x<N→T' (φ (T x))=φ x
 str:∀ x,x<N→(φ x<n↔x<n)
section
variable {T T':Nat→Nat} {N n:Nat} {φ ψ:Nat→Nat} (h:Opp T T' N n φ ψ)
include h
theorem Zom{x:Nat}(a:x<N):∀ j,it T' j (φ (it T j x))=φ x
 | 0=>rfl
 | j+1=>by
  have b:=D0 h.p a j;rw[show it T' (j+1) (φ (it T (j+1) x))=it T' j (T' (φ (it T (j+1) x))) from(Zaz T' j _).symm]
  show it T' j (T' (φ (T (it T j x))))=φ x;rw[h.opp _ b];exact Zom a j
omit h in
theorem Zz7{T:Nat→Nat}(a:Perm1 T N):∀ (j:Nat) {x y:Nat},x<N→y<N→it T j x=it T j y→x=y
 | 0,_,_,_,_,e=>e
 | j+1,_,_,b,c,e=>Zz7 a j b c (a.inj _ _ (D0 a b j) (D0 a c j) e)
theorem Zrc{x:Nat}(b:x<N)(j:Nat):it T' j (φ x)=φ x↔it T j x=x:=by
 have a:=Zom h b j;have d:=D0 h.p b j;constructor
 ·intro e;rw[← a]at e;have:=Zz7 h.q j (h.lt _ b) (h.lt _ d) (by rw[a]at e ⊢; exact e)
  have c:=h.inv _ b;rw[this,h.inv _ d]at c;exact c
 ·intro e;rw[e]at a;exact a
theorem Yea{x:Nat}(c:x<N):per T' N (φ x)=per T N x:=by
 obtain⟨d,f,g⟩:=Zib h.p c;exact Ziy d (Z1u h.p c) ((Zrc h c _).2 f) fun j a b e=>g j a b ((Zrc h c _).1 e)
theorem Yal{x:Nat}(a:x<N):Inn T' n (φ x)↔Inn T n x:=by
 obtain⟨b,c,_⟩:=Zib h.p a;have d:=(Zrc h a (per T N x)).2 c;rw[← Zqi b c,← Zqi b d];generalize per T N x=L at *;have key:∀ j,j≤L→it T' j (φ x)=φ (it T (L - j) x):=fun j e=>by
  have:=Zom h (D0 h.p a (L - j)) j;rw[← Zid,show j+(L - j)=L by omega,c]at this
  exact this
 constructor
 ·intro g j e;cases j with
  | zero=>
   have:=g 0 b;exact(h.str x a).1 this
  | succ j=>
   have:=g (L - (j+1)) (by omega)
   rw[key _ (by omega),show L - (L - (j+1))=j+1 by omega]at this
   exact(h.str _ (D0 h.p a _)).1 this
 ·intro g j e;rw[key j (by omega)]
  refine(h.str _ (D0 h.p a _)).2 ?_;cases j with
  | zero=>rw[Nat.sub_zero,c]; exact g 0 b
  | succ j=>exact g _ (by omega)
theorem Ztx{x:Nat}(a:x<N)(K:Nat)(b:Bool):PK T' N n K b (φ x)=PK T N n K b x:=by
 classical
 unfold PK;rw[Yea h a]
 congr 2
 exact decide_eq_decide.2 (Yal h a)
omit h in
theorem Zhm{f:Nat→Nat}:∀ {l:List Nat},(∀ x y,x∈l→y∈l→f x=f y→x=y)→l.Nodup→(l.map f).Nodup
 | [],_,_=>by simp
 | a :: r,c,h=>by
  obtain⟨d,g⟩:=List.nodup_cons.1 h;rw[List.map_cons,List.nodup_cons];refine⟨fun hm=>?_,Zhm (fun x y i b=>c x y (List.mem_cons_of_mem _ i) (List.mem_cons_of_mem _ b)) g⟩
  obtain⟨y,b,e⟩:=List.mem_map.1 hm;have:=c y a (List.mem_cons_of_mem _ b) (List.mem_cons_self ..) e;subst this;exact d b
theorem Zsr:((T3 T N).map (sig n)).Perm ((T3 T' N).map (sig n)):=by
 rw[List.perm_iff_count];rintro⟨K,b⟩;have m:((List.range N).filter (PK T N n K b)).length=((List.range N).filter (PK T' N n K b)).length:=by
  refine Nat.le_antisymm ?_ ?_
  ·have:=List.Nodup.length_le_of_subset (l₁:=((List.range N).filter (PK T N n K b)).map φ) (l₂:=(List.range N).filter (PK T' N n K b)) (Zhm (fun x y c f e=>by
    have d:=List.mem_range.1 (List.mem_filter.1 c).1;have g:=List.mem_range.1 (List.mem_filter.1 f).1;have:=h.inv x d;rw[e,h.inv y g]at this;exact this.symm) (List.nodup_range.filter _)) fun y f=>by
    obtain⟨x,c,rfl⟩:=List.mem_map.1 f;obtain⟨a,j⟩:=List.mem_filter.1 c;have a:=List.mem_range.1 a;exact List.mem_filter.2 ⟨List.mem_range.2 (h.lt x a),by rw[Ztx h a]; exact j⟩
   simpa using this
  ·have:=List.Nodup.length_le_of_subset (l₁:=((List.range N).filter (PK T' N n K b)).map ψ) (l₂:=(List.range N).filter (PK T N n K b)) (Zhm (fun x y c f e=>by
    have d:=List.mem_range.1 (List.mem_filter.1 c).1;have g:=List.mem_range.1 (List.mem_filter.1 f).1;have:=h.inr x d;rw[e,h.inr y g]at this;exact this.symm) (List.nodup_range.filter _)) fun y f=>by
    obtain⟨x,c,rfl⟩:=List.mem_map.1 f;obtain⟨a,j⟩:=List.mem_filter.1 c;have a:=List.mem_range.1 a;refine List.mem_filter.2 ⟨List.mem_range.2 (h.ltr x a),?_⟩;have:=Ztx h (h.ltr x a) K b;rw[h.inr x a]at this;rw[← this]; exact j
   simpa using this
 have k:=Zvy (n:=n) h.p K b;have l:=Zvy (n:=n) h.q K b;rcases Nat.eq_zero_or_pos K with i|i
 ·subst i;have z:∀ (T:Nat→Nat),((T3 T N).map (sig n)).count (0,b)=0:=fun T=>List.count_eq_zero.2 fun hm=>by
   obtain⟨w,o,e⟩:=List.mem_map.1 hm;have:=Zz6 (n:=n) w o;have e:=congrArg Prod.fst e;simp only[sig]at e;omega
  rw[z,z]
 ·rw[m,← l]at k;exact Nat.eq_of_mul_eq_mul_left i k
end
end Go.Known
end
section
namespace Go.Known
open Go.Plain
section
variable {T:Nat→Nat} {N n:Nat} (hP:Perm1 T N)
include hP
theorem Yed:Clo T N (List.replicate N false):=by
 have b:∀ y,y<N→(List.replicate N false).getD y true=false:=fun y a=>by rw[List.getD_eq_getElem?_getD,List.getElem?_replicate,if_pos a]; rfl
 exact⟨by simp,fun y a=>by rw[b y a,b _ (hP.lt y a)]⟩
theorem Zqp:∀ (k:Nat) (seen:List Bool),k≤N→Clo T N seen → ∀ w,w∈wks T N k seen → ∀ d,d∈w→d<N∧T d∈w
 | 0,seen,_,_,w,a=>by simp[wks]at a
 | k+1,seen,q,b,w,a=>by
  have c:N - (k+1)<N:=by omega
  simp only[wks]at a;cases h:seen.getD (N - (k+1)) true with
  | true=>
   rw[h,if_pos rfl]at a;exact Zqp k seen (by omega) b w a
  | false=>
   rw[h,if_neg (by simp)]at a
   rcases List.mem_cons.1 a with rfl|a
   ·obtain⟨L,m,n,g,o,i,p⟩:=Zjj hP b c h;rw[i];intro d l;obtain⟨j,f,rfl⟩:=List.mem_map.1 l;have f:j<L:=by simpa using f
    refine⟨D0 hP c j,List.mem_map.2 ?_⟩;rcases Nat.lt_or_ge (j+1) L with e|e
    ·exact⟨j+1,by simpa using e,rfl⟩
    ·have:L=j+1:=by omega
     subst this;exact⟨0,by simp,g.symm⟩
   ·exact Zqp k _ (by omega) (Z0n hP b c h) w a
theorem Zkl:∀ w,w∈T3 T N → ∀ d,d∈w→d<N∧T d∈w:=Zqp hP N _ (Nat.le_refl _) (Yed hP)
theorem Zt3(P:Nat→Bool):∀ (k:Nat) (seen:List Bool) (x:Nat),seen.length=N→x<N →
 B8 P 0 (Plain.mark T k seen x)+((tr T k seen x).filter P).length=B8 P 0 seen
 | 0,seen,x,_,_=>by simp[Plain.mark,tr]
 | k+1,seen,x,d,e=>by
  cases h:seen.getD x true with
  | true=>simp only[Plain.mark,tr,h,if_true,List.filter_nil,List.length_nil]; rfl
  | false=>
   have c:seen[x]? = some false:=by
    rw[List.getD_eq_getElem?_getD,gE (by omega)]at h
    rw[gE (by omega)]
    simpa using h
   have a:=Zrq (P:=P) seen 0 x c;have f:=Zt3 P k (seen.set x true) (T x) (by simpa using d) (hP.lt x e)
   simp only[Plain.mark,tr,h,bF,if_false,List.filter_cons];rw[Nat.zero_add]at a;by_cases b:P x=true
   ·rw[if_pos b]at a ⊢; simp only[List.length_cons]; omega
   ·rw[if_neg b]at a ⊢; omega
theorem Zra(P:Nat→Bool):∀ (k:Nat) (seen:List Bool),k≤N→seen.length=N→(∀ y,y<N - k→seen.getD y true=true) →
 ((wks T N k seen).map fun w=>(w.filter P).length).sum=B8 P 0 seen
 | 0,seen,_,c,d=>by
  rw[Zos]
  ·simp[wks]
  ·intro y;rcases Nat.lt_or_ge y N with h|h
   ·exact d y (by omega)
   ·rw[List.getD_eq_getElem?_getD,List.getElem?_eq_none (by omega)]; rfl
 | k+1,seen,n,c,d=>by
  have l:N - (k+1)<N:=by omega
  simp only[wks];have b:∀ a:List Bool,(∀ y,seen.getD y true=true→a.getD y true=true)→a.getD (N - (k+1)) true=true → ∀ y,y<N - k→a.getD y true=true:=fun a i j y g=>by
   rcases Nat.lt_or_ge y (N - (k+1))with e|e
   ·exact i y (d y e)
   ·have:y=N - (k+1):=by omega
    rw[this]; exact j
  cases h:seen.getD (N - (k+1)) true with
  | true=>
   rw[if_pos rfl];exact Zra P k seen (by omega) c (b seen (fun _ h=>h) h)
  | false=>
   rw[if_neg (by simp)]
   have m:=Zra P k (Plain.mark T (N+1) seen (N - (k+1))) (by omega) (by rw[Zjm]; exact c) (b _ (fun y g=>Ze4 _ _ _ g) (by
    simp only[Plain.mark,h,bF,if_false];exact Ze4 _ _ _ (by rw[C6 (by omega)]; simp)))
   have f:=Zt3 hP P (N+1) seen (N - (k+1)) c l;rw[List.map_cons,List.sum_cons,m];omega
theorem Zyz(P:Nat→Bool):((T3 T N).map fun w=>(w.filter P).length).sum=((List.range N).filter P).length:=by
 rw[T3,Zra hP P N _ (Nat.le_refl _) (by simp) (fun y a=>by omega),Zsy,List.range_eq_range']
end
theorem Ybl(a:List Nat)(p q:Pol):patT (patT a p) q=patT (patT a q) p:=by
 unfold patT;cases p.2.2<;>cases q.2.2<;>simp only[bF,if_false,if_true]
 unfold addP;by_cases h:p.1=q.1
 ·rw[h]
 ·rw[List.set_comm _ _ h]
  congr 2
  ·simp only[List.getD_eq_getElem?_getD,List.getElem?_set_ne h]
  ·simp only[List.getD_eq_getElem?_getD,List.getElem?_set_ne (fun e=>h e.symm)]
theorem Z80(m:Nat)(p q:Pol):mxS (mxS m p) q=mxS (mxS m q) p:=by
 unfold mxS;split<;>split<;>omega
theorem Z4u{l m:List Pol}(h:l.Perm m):patP l=patP m:=by
 rw[← Z10,← Z10];unfold patR;have e:mxP l=mxP m:=h.foldl_eq' (fun x _ y _ z=>Z80 z x y) 0
 rw[e];exact h.foldl_eq' (fun x _ y _ z=>Ybl z x y) _
def sigP(s:Nat×Bool):Pol:=(s.1,s.1,s.2)
section
variable {ls:List Lt}
theorem Ygo(hP:Perm1 (Y4 ls (Z1 ls)) (2*ls.length+2*Z0 ls)){w:List Nat}(h:w∈T3 (Y4 ls (Z1 ls)) (2*ls.length+2*Z0 ls))(b:(w.all fun d=>decide (d<2*ls.length))=true):Zsp ls w=w.length:=by
 unfold Zsp;rw[List.filter_eq_self.2];intro d e;have a:=List.all_eq_true.1 b;have f:d<2*ls.length:=by simpa using a d e
 have c:Y4 ls (Z1 ls) d<2*ls.length:=by simpa using a _ (Zkl hP w h d e).2
 unfold isC;rw[beq_iff_eq];refine Classical.byContradiction fun g=>?_
 rw[Zft f,if_neg g]at c;split at c<;>omega
theorem Yae{n:Nat}{w:List Nat}(h:(w.all fun d=>decide (d<n))=true):Zao n w=(w,false):=by
 have a:=List.all_eq_true.1 h;unfold Zao;rw[List.filter_eq_self.2 a]
 congr 1
 rw[List.any_eq_false];intro d b;have:d<n:=by simpa using a d b
 simp;exact this
theorem Yau{n:Nat}{w:List Nat}(h:¬(w.all fun d=>decide (d<n))=true):(Zao n w).2=true:=by
 unfold Zao;rw[List.all_eq_true]at h;rw[List.any_eq_true];refine Classical.byContradiction fun c=>h fun d a=>?_
 rw[decide_eq_true_eq];refine Classical.byContradiction fun b=>c ⟨d,a,?_⟩
 rw[decide_eq_true_eq];omega
theorem Zu6(g:0<Z0 ls)(j:∀ v,v<ls.length→(at' ls v).k≠2→(at' ls v).k=1)(hP:Perm1 (Y4 ls (Z1 ls)) (2*ls.length+2*Z0 ls)) :
 patP (Zhg ls)=patP (((T3 (Y4 ls (Z1 ls)) (2*ls.length+2*Z0 ls)).map (sig (2*ls.length))).map sigP):=by
 unfold Zhg patP;rw[← Z4n g j,List.map_map,List.map_map];have i:=fun w c=>Ygo hP (w:=w) c
 generalize T3 (Y4 ls (Z1 ls)) (2*ls.length+2*Z0 ls)=W at *;have:∀ (V:List (List Nat)) (b:List Nat),(∀ w,w∈V→w∈W)→(V.map (polN ls∘Zao (2*ls.length))).foldl E9 b=(V.map (sigP∘sig (2*ls.length))).foldl E9 b:=by
  intro V
  induction V with
  | nil=>intro b _; rfl
  | cons w V l=>
   intro b f;have c:=f w (List.mem_cons_self ..);have e:E9 b ((polN ls∘Zao (2*ls.length)) w)=E9 b ((sigP∘sig (2*ls.length)) w):=by
    simp only[Function.comp];by_cases a:(w.all fun d=>decide (d<2*ls.length))=true
    ·rw[Yae a];have:=i w c a;unfold polN sigP sig E9;simp only[this,a,Bool.not_false,if_true]
    ·have h:=Yau a;simp only[Bool.not_eq_true]at a;unfold polN sigP sig E9;simp only[h,a,Bool.not_true,bF,if_false]
   simp only[List.map_cons,List.foldl_cons];rw[e];exact l _ fun w c=>f w (List.mem_cons_of_mem _ c)
 exact this W [] fun w c=>c
theorem Z6o{ls':List Lt}{φ ψ:Nat→Nat}(i:0<Z0 ls)(j:∀ v,v<ls.length→(at' ls v).k≠2→(at' ls v).k=1)(b:∀ v,v<ls'.length→(at' ls' v).k≠2→(at' ls' v).k=1)
 (d:ls'.length=ls.length) (e:Z0 ls'=Z0 ls) (h:Opp (Y4 ls (Z1 ls)) (Y4 ls' (Z1 ls')) (2*ls.length+2*Z0 ls) (2*ls.length) φ ψ) :
 patP (Zhg ls')=patP (Zhg ls)∧L2 (Y4 ls' (Z1 ls')) (2*ls.length+2*Z0 ls)=L2 (Y4 ls (Z1 ls)) (2*ls.length+2*Z0 ls):=by
 have f:=Zsr h;have g:=Zu6 i j h.p;have c:=Zu6 (ls:=ls') (by omega) b (by rw[d,e]; exact h.q)
 rw[d,e]at c;refine⟨by rw[g,c]; exact(Z4u (f.map sigP)).symm,?_⟩
 have a:=f.length_eq;rw[List.length_map,List.length_map]at a;unfold T3 at a;rw[Zet,Zet]at a;exact a.symm
end
end Go.Known
end
section
namespace Go.Known
open Go.Plain
def arr(n v:Nat)(b:Bool):Nat:=if b then 2*((v+n - 1) % n)else 2*v+1
theorem Zau{n v:Nat}(a:v<n)(b:Bool):arr n v b<2*n∧W1 n (arr n v b)=v∧(arr n v b % 2 == 0)=b:=by
 cases b with
 | true=>
  have hm:=Nat.mod_lt (v+n - 1) (show 0<n by omega)
  have e:(v+n - 1) % n=if v=0 then n - 1 else v - 1:=by
   split
   ·rename_i h; subst h; rw[Nat.zero_add,Nat.mod_eq_of_lt (by omega)]
   ·have:v+n - 1=(v - 1)+n:=by omega
    rw[this,Nat.add_mod_right,Nat.mod_eq_of_lt (by omega)]
  unfold arr W1;simp only[if_true];refine⟨by omega,?_,by simp⟩
  rw[if_pos (by omega),show 2*((v+n - 1) % n) / 2=(v+n - 1) % n by omega,e]
  split
  ·rename_i h; subst h; rw[show n - 1+1=n by omega,Nat.mod_self]
  ·rw[show v - 1+1=v by omega,Nat.mod_eq_of_lt a]
 | false=>
  unfold arr W1;simp only[bF,if_false];refine⟨by omega,?_,by simp⟩
  rw[if_neg (by omega)]
  omega
theorem N8{n d:Nat}(c:d<2*n):∃ v b,v<n∧d=arr n v b:=by
 have f:=Zba c;obtain⟨g,h,a⟩:=Zau f (d % 2 == 0);refine⟨W1 n d,(d % 2 == 0),f,Zqc c g h.symm ?_⟩;generalize arr n (W1 n d) (d % 2 == 0)=y at *;rcases Nat.mod_two_eq_zero_or_one d with e|e<;>rcases Nat.mod_two_eq_zero_or_one y with e'|e'<;>rw[e,e']at a ⊢ <;> simp at a
section
variable {ls:List Lt}
theorem Zbm{v:Nat}(e:v<ls.length)(b:Bool):Y4 ls (Z1 ls) (arr ls.length v b)=if (at' ls v).k=2 then Y0 ls.length (X9 ls v ls.length 0) (b == ((at' ls v).o == ((at' ls v).s == 1)))
 else if down ls v=b then 2*ls.length+2*V1 v (Z1 ls)else 2*ls.length+2*((V1 v (Z1 ls)+Z0 ls - 1) % Z0 ls)+1:=by
 obtain⟨a,c,d⟩:=Zau e b;rw[Zft a,c,d,T4]
theorem Zg5{p:Nat}:Y4 ls (Z1 ls) (2*ls.length+2*p)=Y0 ls.length ((Z1 ls).getD ((p+1) % Z0 ls) 0) (!down ls ((Z1 ls).getD ((p+1) % Z0 ls) 0)):=by
 unfold Y4;rw[if_pos (by omega),if_pos (by omega),T4,show (2*ls.length+2*p - 2*ls.length) / 2=p by omega]
theorem Zgs{p:Nat}:Y4 ls (Z1 ls) (2*ls.length+2*p+1)=Y0 ls.length ((Z1 ls).getD p 0) (down ls ((Z1 ls).getD p 0)):=by
 unfold Y4;rw[if_pos (by omega),if_neg (by omega),show (2*ls.length+2*p+1 - 2*ls.length) / 2=p by omega]
structure Wv (ls:List Lt):Prop where
 pas:0<Z0 ls
 kin:∀ v,v<ls.length→(at' ls v).k≠2→(at' ls v).k=1
 oth:∀ v,v<ls.length→(at' ls v).k=2→X9 ls v ls.length 0<ls.length∧(at' ls (X9 ls v ls.length 0)).k=2∧X9 ls (X9 ls v ls.length 0) ls.length 0=v ∧
  (at' ls (X9 ls v ls.length 0)).o=(!(at' ls v).o)∧(at' ls (X9 ls v ls.length 0)).s=(at' ls v).s
structure Img (ls ls':List Lt) (ρ σ:Nat→Nat) (fl:Bool):Prop where
 wv:Wv ls
 len:ls'.length=ls.length
 pas:Z0 ls'=Z0 ls
 lt:∀ v,v<ls.length→ρ v<ls.length
 ltr:∀ v,v<ls.length→σ v<ls.length
 inv:∀ v,v<ls.length→σ (ρ v)=v
 inr:∀ v,v<ls.length→ρ (σ v)=v
 pre:∀ v,v<ls.length→ρ ((v+ls.length - 1) % ls.length)=(ρ v+ls.length - 1) % ls.length
 kin:∀ v,v<ls.length→(at' ls' (ρ v)).k=(at' ls v).k
 oth:∀ v,v<ls.length→(at' ls v).k=2→X9 ls' (ρ v) ls.length 0=ρ (X9 ls v ls.length 0)
 ov:∀ v,v<ls.length→(at' ls v).k=2→((at' ls' (ρ v)).o == ((at' ls' (ρ v)).s == 1)) = !((at' ls v).o == ((at' ls v).s == 1))
 dn:∀ v,v<ls.length→(at' ls v).k=1→down ls' (ρ v)=(down ls v != fl)
 idx:∀ v,v<ls.length→(at' ls v).k=1→V1 (ρ v) (Z1 ls')=if fl then V1 v (Z1 ls)else Z0 ls - 1 - V1 v (Z1 ls)
def phi(n m:Nat)(fl:Bool)(ρ:Nat→Nat)(d:Nat):Nat:=
 if d<2*n then (if d % 2=0 then 2*ρ (d / 2)+1 else 2*ρ (d / 2))
 else if fl then (if d % 2=0 then d+1 else d - 1)else if d % 2=0 then 2*n+2*((2*m - 2 - (d - 2*n) / 2) % m)else 2*n+2*((2*m - 2 - (d - 2*n) / 2) % m)+1
theorem Zhp{m p:Nat}(a:p<m):(2*m - 2 - p) % m=if p=m - 1 then m - 1 else m - 2 - p:=by
 split
 ·rename_i h; subst h; rw[show 2*m - 2 - (m - 1)=m - 1 by omega,Nat.mod_eq_of_lt (by omega)]
 ·rw[show 2*m - 2 - p=(m - 2 - p)+m by omega,Nat.add_mod_right,Nat.mod_eq_of_lt (by omega)]
theorem Zoo{n m:Nat}{fl:Bool}{ρ:Nat→Nat}(a:∀ v,v<n→ρ v<n){x:Nat}(b:x<2*n+2*m):phi n m fl ρ x<2*n+2*m:=by
 unfold phi;split
 ·have:=a (x / 2) (by omega)
  split<;>omega
 ·split
  ·split<;>omega
  ·have:=Nat.mod_lt (2*m - 2 - (x - 2*n) / 2) (show 0<m by omega)
   split<;>omega
theorem Yg5{n m:Nat}{fl:Bool}{ρ:Nat→Nat}(b:∀ v,v<n→ρ v<n){x:Nat}(c:x<2*n+2*m):phi n m fl ρ x<2*n↔x<2*n:=by
 unfold phi;split
 ·rename_i h;have:=b (x / 2) (by omega)
  constructor
  ·intro _; exact h
  ·intro _; split<;>omega
 ·rename_i h;constructor
  ·intro a;split at a
   ·split at a<;>omega
   ·split at a<;>omega
  ·intro a; omega
theorem Zxu{n m:Nat}{fl:Bool}{ρ σ:Nat→Nat}(g:∀ v,v<n→ρ v<n)(i:∀ v,v<n→σ (ρ v)=v){x:Nat}(o:x<2*n+2*m):phi n m fl σ (phi n m fl ρ x)=x:=by
 by_cases h:x<2*n
 ·have l:=g (x / 2) (by omega)
  have j:=i (x / 2) (by omega)
  rcases Nat.mod_two_eq_zero_or_one x with e|e
  ·have c:phi n m fl ρ x=2*ρ (x / 2)+1:=by unfold phi; rw[if_pos h,if_pos e]
   rw[c];unfold phi;rw[if_pos (by omega),if_neg (by omega),show (2*ρ (x / 2)+1) / 2=ρ (x / 2) by omega,j]
   omega
  ·have c:phi n m fl ρ x=2*ρ (x / 2):=by unfold phi; rw[if_pos h,if_neg (by omega)]
   rw[c];unfold phi;rw[if_pos (by omega),if_pos (by omega),show (2*ρ (x / 2)) / 2=ρ (x / 2) by omega,j]
   omega
 ·obtain⟨p,k⟩:∃ p,(x - 2*n) / 2=p:=⟨_,rfl⟩
  have d:p<m:=by omega
  cases fl with
  | true=>
   unfold phi;rcases Nat.mod_two_eq_zero_or_one x with e|e
   ·simp only[if_neg h,if_true,if_pos e];rw[if_neg (by omega),if_neg (by omega)]
    omega
   ·simp only[if_neg h,if_true,if_neg (show ¬x % 2=0 by omega)]
    rw[if_neg (by omega),if_pos (by omega)]
    omega
  | false=>
   obtain⟨q,a⟩:∃ q,(2*m - 2 - p) % m=q:=⟨_,rfl⟩
   have f:q<m:=by rw[← a]; exact Nat.mod_lt _ (by omega)
   have b:(2*m - 2 - q) % m=p:=by
    rw[Zhp d]at a;rw[Zhp f];split at a<;>split<;>omega
   unfold phi;rcases Nat.mod_two_eq_zero_or_one x with e|e
   ·simp only[if_neg h,bF,if_false,if_pos e,k,a];rw[if_neg (by omega),if_pos (by omega),show (2*n+2*q - 2*n) / 2=q by omega,b]
    omega
   ·simp only[if_neg h,bF,if_false,if_neg (show ¬x % 2=0 by omega),k,a]
    rw[if_neg (by omega),if_neg (by omega),show (2*n+2*q+1 - 2*n) / 2=q by omega,b]
    omega
theorem Zp6{n m:Nat}{fl:Bool}{ρ:Nat→Nat}{v:Nat}(c:v<n)(a:ρ ((v+n - 1) % n)=(ρ v+n - 1) % n)(b:Bool):phi n m fl ρ (Y0 n v b)=arr n (ρ v) (!b):=by
 have hm:=Nat.mod_lt (v+n - 1) (show 0<n by omega)
 cases b with
 | true=>
  unfold Y0 phi arr;simp only[if_true,Bool.not_true,bF,if_false];rw[if_pos (by omega),if_pos (by omega),show 2*v / 2=v by omega]
 | false=>
  unfold Y0 phi arr;simp only[if_true,Bool.not_false,bF,if_false];rw[if_pos (by omega),if_neg (by omega),show (2*((v+n - 1) % n)+1) / 2=(v+n - 1) % n by omega,a]
theorem Yfr{n m:Nat}{fl:Bool}{ρ:Nat→Nat}{v:Nat}(c:v<n)(a:ρ ((v+n - 1) % n)=(ρ v+n - 1) % n)(b:Bool):phi n m fl ρ (arr n v b)=Y0 n (ρ v) (!b):=by
 have hm:=Nat.mod_lt (v+n - 1) (show 0<n by omega)
 cases b with
 | true=>
  unfold Y0 phi arr;simp only[if_true,Bool.not_true,bF,if_false];rw[if_pos (by omega),if_pos (by omega),show 2*((v+n - 1) % n) / 2=(v+n - 1) % n by omega,a]
 | false=>
  unfold Y0 phi arr;simp only[if_true,Bool.not_false,bF,if_false];rw[if_pos (by omega),if_neg (by omega),show (2*v+1) / 2=v by omega]
theorem Z16{n m p:Nat}{fl:Bool}{ρ:Nat→Nat}:phi n m fl ρ (2*n+2*p)=if fl then 2*n+2*p+1 else 2*n+2*((2*m - 2 - p) % m):=by
 have b:¬2*n+2*p<2*n:=by omega
 have a:(2*n+2*p) % 2=0:=by omega
 have c:(2*n+2*p - 2*n) / 2=p:=by omega
 unfold phi;rw[if_neg b,if_pos a,if_pos a,c]
theorem Zxp{n m p:Nat}{fl:Bool}{ρ:Nat→Nat}:phi n m fl ρ (2*n+2*p+1)=if fl then 2*n+2*p else 2*n+2*((2*m - 2 - p) % m)+1:=by
 have b:¬2*n+2*p+1<2*n:=by omega
 have a:¬(2*n+2*p+1) % 2=0:=by omega
 have c:(2*n+2*p+1 - 2*n) / 2=p:=by omega
 unfold phi;rw[if_neg b,if_neg a,if_neg a,c];rfl
theorem Zgu{ls:List Lt}{v:Nat}(b:v<ls.length)(a:(at' ls v).k=1):V1 v (Z1 ls)<Z0 ls∧(Z1 ls).getD (V1 v (Z1 ls)) 0=v:=by
 have hm:v∈Z1 ls:=mem_axis.2 ⟨b,by simp[isP,a]⟩
 refine⟨by rw[← T4]; exact Zij hm,?_⟩
 rw[List.getD,(Zbh hm).1]; rfl
theorem J8{ls:List Lt}{p:Nat}(d:p<Z0 ls):∃ v,v<ls.length∧(at' ls v).k=1∧(Z1 ls).getD p 0=v∧V1 v (Z1 ls)=p:=by
 have a:(Z1 ls)[p]? = some ((Z1 ls).getD p 0):=by rw[List.getD,gE (by rw[T4]; exact d)]; rfl
 have hm:=List.mem_of_getElem? a;obtain⟨b,c⟩:=mem_axis.1 hm;exact⟨_,b,by simpa[isP]using c,rfl,Zkg (Zfy ls) (Zbh hm).1 a⟩
theorem Zi5{m p:Nat}(a:p<m):(p+1) % m=if p=m - 1 then 0 else p+1:=by
 split
 ·rename_i h; subst h; rw[show m - 1+1=m by omega,Nat.mod_self]
 ·rw[Nat.mod_eq_of_lt (by omega)]
theorem Zce{m p:Nat}(a:p<m):(p+m - 1) % m=if p=0 then m - 1 else p - 1:=by
 split
 ·rename_i h; subst h; rw[Nat.zero_add,Nat.mod_eq_of_lt (by omega)]
 ·rw[show p+m - 1=(p - 1)+m by omega,Nat.add_mod_right,Nat.mod_eq_of_lt (by omega)]
section
variable {ls ls':List Lt} {ρ σ:Nat→Nat} {fl:Bool} (h:Img ls ls' ρ σ fl)
include h
theorem Yfa{v:Nat}(a:v<ls.length):(at' ls v).k=2∨(at' ls v).k=1:=by
 rcases Decidable.em ((at' ls v).k=2)with e|e
 ·exact .inl e
 ·exact .inr (h.wv.kin v a e)
theorem Zih{x:Nat}(F:x<2*ls.length+2*Z0 ls):Y4 ls' (Z1 ls') (phi ls.length (Z0 ls) fl ρ (Y4 ls (Z1 ls) x))=phi ls.length (Z0 ls) fl ρ x:=by
 have c:=h.len;have g:=h.pas;have m:∀ v,v<ls.length→(at' ls v).k=1 → ∀ b,Y4 ls' (Z1 ls') (arr ls.length (ρ v) b)=if (down ls v != fl)=b then 2*ls.length+2*V1 (ρ v) (Z1 ls')else 2*ls.length+2*((V1 (ρ v) (Z1 ls')+Z0 ls - 1) % Z0 ls)+1:=by
  intro v a d b;have:=Zbm (ls:=ls') (v:=ρ v) (by rw[c]; exact h.lt v a) b
  rw[c,g,h.kin v a,d,h.dn v a d]at this;rw[this,if_neg (by decide)]
 by_cases A:x<2*ls.length
 ·obtain⟨v,b,a,rfl⟩:=N8 A;rw[Yfr a (h.pre v a)];rcases Yfa h a with d|d
  ·obtain⟨w1,w2,B,C,D⟩:=h.wv.oth v a d;have u:=h.oth _ w1 w2;rw[B]at u;rw[Zbm a,if_pos d,Zp6 w1 (h.pre _ w1)];have:=Zbm (ls:=ls') (v:=ρ (X9 ls v ls.length 0)) (by rw[c]; exact h.lt _ w1)
   rw[c]at this;rw[this,h.kin _ w1,if_pos w2,u,h.ov _ w1 w2,C,D]
   congr 1
   cases b<;>cases (at' ls v).o<;>cases ((at' ls v).s == 1)<;>rfl
  ·obtain⟨hi,r⟩:=Zgu a d;have i:=h.idx v a d;obtain⟨y,t⟩:=Zgu (ls:=ls') (v:=ρ v) (by rw[c]; exact h.lt v a) (by rw[h.kin v a]; exact d)
   have n:=h.dn v a d;rw[g]at y;have tr:=fun p=>Zg5 (ls:=ls') (p:=p)
   have tl:=fun p=>Zgs (ls:=ls') (p:=p)
   rw[c]at tr tl;rw[g]at tr;rw[Zbm a,if_neg (by omega)]
   have key:∀ q,q=V1 (ρ v) (Z1 ls')→(Z1 ls').getD q 0=ρ v:=fun q e=>by rw[e,t]
   by_cases f:down ls v=b
   ·rw[if_pos f,Z16];cases fl with
    | true=>
     rw[if_pos rfl,tl,key _ (by rw[i,if_pos rfl]),n,f]
     cases b<;>rfl
    | false=>
     have e:((2*Z0 ls - 2 - V1 v (Z1 ls)) % Z0 ls+1) % Z0 ls=V1 (ρ v) (Z1 ls'):=by
      rw[i,Zhp hi];simp only[bF,if_false];split
      ·rw[Zi5 (by omega)]; split<;>omega
      ·rw[Zi5 (by omega)]; split<;>omega
     rw[if_neg (by decide),tr,key _ e,n,f]
     cases b<;>rfl
   ·have l:down ls v = !b:=by revert f; cases down ls v<;>cases b<;>simp
    rw[if_neg f,Zxp];cases fl with
    | true=>
     have e:((V1 v (Z1 ls)+Z0 ls - 1) % Z0 ls+1) % Z0 ls=V1 (ρ v) (Z1 ls'):=by
      rw[i,Zce hi,if_pos rfl];split
      ·rw[Zi5 (by omega)]; split<;>omega
      ·rw[Zi5 (by omega)]; split<;>omega
     rw[if_pos rfl,tr,key _ e,n,l];cases b<;>rfl
    | false=>
     have hm:=Nat.mod_lt (V1 v (Z1 ls)+Z0 ls - 1) h.wv.pas;have e:(2*Z0 ls - 2 - (V1 v (Z1 ls)+Z0 ls - 1) % Z0 ls) % Z0 ls=V1 (ρ v) (Z1 ls'):=by
      rw[i,Zhp hm,Zce hi];simp only[bF,if_false];split<;>split<;>omega
     rw[if_neg (by decide),tl,key _ e,n,l]
     cases b<;>rfl
 ·obtain⟨p,E⟩:∃ p,(x - 2*ls.length) / 2=p:=⟨_,rfl⟩
  have j:p<Z0 ls:=by omega
  rcases Nat.mod_two_eq_zero_or_one x with w|w
  ·have ex:x=2*ls.length+2*p:=by omega
   subst ex;have z:=Nat.mod_lt (p+1) h.wv.pas;obtain⟨v,a,d,r,hi⟩:=J8 z;rw[Zg5,r,Zp6 a (h.pre v a),m v a d,h.idx v a d,hi,Z16];rw[Zi5 j];cases fl with
   | true=>
    rw[if_neg (by cases down ls v<;>decide)]
    simp only[if_true]
    congr 2
    split
    ·rw[Zce (by omega)]; split<;>omega
    ·rw[Zce (by omega)]; split<;>omega
   | false=>
    rw[if_pos (by cases down ls v<;>decide)]
    simp only[bF,if_false]
    congr 2
    rw[Zhp j];split<;>omega
  ·have ex:x=2*ls.length+2*p+1:=by omega
   subst ex;obtain⟨v,a,d,r,hi⟩:=J8 j;rw[Zgs,r,Zp6 a (h.pre v a),m v a d,h.idx v a d,hi,Zxp];cases fl with
   | true=>
    rw[if_pos (by cases down ls v<;>decide)]
    simp only[if_true]
   | false=>
    rw[if_neg (by cases down ls v<;>decide)]
    simp only[bF,if_false]
    congr 2
    rw[Zhp j,Zce (by omega)]
    split<;>split<;>omega
theorem Z9t:Opp (Y4 ls (Z1 ls)) (Y4 ls' (Z1 ls')) (2*ls.length+2*Z0 ls) (2*ls.length) (phi ls.length (Z0 ls) fl ρ) (phi ls.length (Z0 ls) fl σ):=by
 obtain⟨_,w,_,_⟩:=Zhv h.wv.pas h.wv.kin;have o:∀ v,v<ls'.length→(at' ls' v).k≠2→(at' ls' v).k=1:=fun v j n=>by
  rw[h.len]at j;have e:=h.inr v j;rw[← e]at n ⊢;rw[h.kin _ (h.ltr v j)]at n ⊢;exact h.wv.kin _ (h.ltr v j) n
 obtain⟨_,r,_,_⟩:=Zhv (ls:=ls') (by rw[h.pas]; exact h.wv.pas) o
 rw[h.len,h.pas]at r;have b:∀ x,x<2*ls.length+2*Z0 ls→phi ls.length (Z0 ls) fl σ (phi ls.length (Z0 ls) fl ρ x)=x:=fun x a=>Zxu h.lt h.inv a
 have g:∀ x,x<2*ls.length+2*Z0 ls→phi ls.length (Z0 ls) fl ρ (phi ls.length (Z0 ls) fl σ x)=x:=fun x a=>Zxu h.ltr h.inr a
 have p:Perm1 (Y4 ls (Z1 ls)) (2*ls.length+2*Z0 ls):=⟨w,fun y l d c e=>by
  have q:=Zih h d;have t:=Zih h c;rw[e]at q;have u:phi ls.length (Z0 ls) fl ρ y=phi ls.length (Z0 ls) fl ρ l:=by rw[← q,← t]
  have:=b y d;rw[u,b l c]at this;exact this.symm⟩
 have i:∀ y,y<2*ls.length+2*Z0 ls → ∃ x,x<2*ls.length+2*Z0 ls∧phi ls.length (Z0 ls) fl ρ (Y4 ls (Z1 ls) x)=y:=fun y d=>by
  have s:=Zoo (fl:=fl) (m:=Z0 ls) h.ltr d;obtain⟨B,z,_⟩:=Zib p s;refine⟨it (Y4 ls (Z1 ls)) (per (Y4 ls (Z1 ls)) (2*ls.length+2*Z0 ls) (phi ls.length (Z0 ls) fl σ y) - 1) (phi ls.length (Z0 ls) fl σ y),D0 p s _,?_⟩;have e:Y4 ls (Z1 ls) (it (Y4 ls (Z1 ls)) (per (Y4 ls (Z1 ls)) (2*ls.length+2*Z0 ls) (phi ls.length (Z0 ls) fl σ y) - 1) (phi ls.length (Z0 ls) fl σ y))=it (Y4 ls (Z1 ls)) (per (Y4 ls (Z1 ls)) (2*ls.length+2*Z0 ls) (phi ls.length (Z0 ls) fl σ y) - 1+1) (phi ls.length (Z0 ls) fl σ y):=rfl
  rw[e,show per (Y4 ls (Z1 ls)) (2*ls.length+2*Z0 ls) (phi ls.length (Z0 ls) fl σ y) - 1+1=per (Y4 ls (Z1 ls)) (2*ls.length+2*Z0 ls) (phi ls.length (Z0 ls) fl σ y) by omega,z]
  exact g y d
 refine⟨p,⟨r,fun y l d c e=>?_⟩,fun x a=>Zoo h.lt a,fun x a=>Zoo h.ltr a,b,g,fun x a=>Zih h a,fun x a=>Yg5 h.lt a⟩
 obtain⟨x,a,rfl⟩:=i y d;obtain⟨A,f,rfl⟩:=i l c;rw[Zih h a,Zih h f]at e;have:=b x a;rw[e,b A f]at this;rw[this]
end
end
end Go.Known
end
