/- Part 24 of the proof: Pk, Pl, Pm. -/
import Derived.Test.YtilmpmlkndfbjaaGreatDoorR20
import Derived.Test.YtilmpmlkndfbjaaGreatDoorR22
set_option linter.all false
section
namespace Go.Known
open Go.Plain
def it(T:Nat→Nat):Nat→Nat→Nat
 | 0,x=>x
 | j+1,x=>T (it T j x)
theorem Zf8(T:Nat→Nat):∀ (j x:Nat),it T j (T x)=T (it T j x)
 | 0,_=>rfl
 | j+1,x=>by simp only[it]; rw[Zf8 T j x]
theorem Zf2(T:Nat→Nat)(x:Nat):∀ (i j:Nat),it T (i+j) x=it T i (it T j x)
 | 0,j=>by rw[Nat.zero_add]; rfl
 | i+1,j=>by rw[Nat.succ_add]; simp only[it]; rw[Zf2 T x i j]
def per(T:Nat→Nat)(N x:Nat):Nat:=(((List.range (N+1)).find? fun j=>it T (j+1) x == x).map (· + 1)).getD 0
theorem Zjx{T:Nat→Nat}{N L x:Nat}(c:0<L)(d:L≤N+1)(a:it T L x=x)(b:∀ j,0<j→j<L→it T j x≠x):per T N x=L:=by
 unfold per;have:(List.range (N+1)).find? (fun j=>it T (j+1) x == x)=some (L - 1):=by
  rw[List.find?_range_eq_some];refine⟨?_,by simp; omega,fun j e=>?_⟩
  ·rw[show L - 1+1=L by omega,a]; simp
  ·have:=b (j+1) (by omega) (by omega)
   simpa using this
 rw[this];show L - 1+1=L;omega
def Inn(T:Nat→Nat)(n x:Nat):Prop:=∀ j,it T j x<n
structure Perm1 (T:Nat→Nat) (N:Nat):Prop where
 lt:∀ d,d<N→T d<N
 inj:∀ y y',y<N→y'<N→T y=T y'→y=y'
structure Clo (T:Nat→Nat) (N:Nat) (seen:List Bool):Prop where
 len:seen.length=N
 same:∀ y,y<N→seen.getD (T y) true=seen.getD y true
section
variable {T:Nat→Nat} {N n:Nat} (hP:Perm1 T N)
include hP
theorem H9{x:Nat}(a:x<N):∀ j,it T j x<N
 | 0=>a
 | j+1=>hP.lt _ (H9 a j)
theorem Zug{S:List Bool}(a:Clo T N S){x:Nat}(b:x<N):∀ j,S.getD (it T j x) true=S.getD x true
 | 0=>rfl
 | j+1=>by simp only[it]; rw[a.same _ (H9 hP b j),Zug a b j]
theorem Yb3{S:List Bool}(B:Clo T N S){x:Nat}(p:x<N)(s:S.getD x true=false) :
 ∀(k i:Nat) (seen:List Bool),seen.length=N→D6 seen<k→0<i→(∀ y,y<N→(seen.getD y true=true↔S.getD y true=true ∨ ∃ j,j<i∧it T j x=y))→(∀ a b,a<b→b<i→it T a x≠it T b x) →
  ∃ L,i≤L∧it T L x=x∧(∀ j,0<j→j<L→it T j x≠x)∧tr T k seen (it T i x)=(List.range' i (L - i)).map (fun j=>it T j x) ∧
   ∀ y,y<N→((Plain.mark T k seen (it T i x)).getD y true=true↔S.getD y true=true ∨ ∃ j,j<L∧it T j x=y):=by
 intro k
 induction k with
 | zero=>intro i seen _ h; omega
 | succ k E=>
  intro i seen C I hi c t;have m:=H9 hP p i;cases d:seen.getD (it T i x) true with
  | true=>
   rcases (c _ m).1 d with g|⟨j,o,g⟩
   ·rw[Zug hP B p,s]at g; cases g
   ·have u:j=0:=by
     rcases Nat.eq_zero_or_pos j with h|h
     ·exact h
     ·exfalso;obtain⟨r,rfl⟩:∃ r,j=r+1:=⟨j - 1,by omega⟩
      obtain⟨q,rfl⟩:∃ q,i=q+1:=⟨i - 1,by omega⟩
      have:=hP.inj _ _ (H9 hP p r) (H9 hP p q) g;exact t r q (by omega) (by omega) this
    subst u;refine⟨i,Nat.le_refl _,g.symm,fun j A o e=>t 0 j A o e.symm,?_,?_⟩
    ·simp only[tr,d,if_true,Nat.sub_self,List.range'_zero,List.map_nil]
    ·simp only[Plain.mark,d,if_true];exact c
  | false=>
   have D:=Zi4 (by omega) d
   obtain⟨L,G,v,w,F,z⟩:=E (i+1) (seen.set (it T i x) true) (by simpa using C) (by omega) (by omega) (fun y n=>by
    rw[B1 (by omega)]
    simp only[Bool.or_eq_true,decide_eq_true_eq];rw[c y n];constructor
    ·rintro((h|⟨j,o,h⟩)|h)
     ·exact .inl h
     ·exact .inr ⟨j,by omega,h⟩
     ·exact .inr ⟨i,by omega,h.symm⟩
    ·rintro(h|⟨j,o,h⟩)
     ·exact .inl (.inl h)
     ·rcases Nat.lt_or_ge j i with f|f
      ·exact .inl (.inr ⟨j,f,h⟩)
      ·have:j=i:=by omega
       subst this;exact .inr h.symm) (fun a b l H e=>by
    rcases Nat.lt_or_ge b i with f|f
    ·exact t a b l f e
    ·have:b=i:=by omega
     subst this;have:=(c _ m).2 (.inr ⟨a,l,e⟩);rw[d]at this; cases this)
   refine⟨L,by omega,v,w,?_,?_⟩
   ·rw[show L - i=(L - (i+1))+1 by omega,List.range'_succ]
    simp only[tr,d,bF,if_false,List.map_cons]
    congr 1
   ·simp only[Plain.mark,d,bF,if_false];exact z
theorem Zhh{S:List Bool}(d:Clo T N S){x:Nat}(q:x<N)(c:S.getD x true=false) :
 ∃ L,0<L∧L≤N+1∧it T L x=x∧(∀ j,0<j→j<L→it T j x≠x)∧tr T (N+1) S x=(List.range' 0 L).map (fun j=>it T j x) ∧
  ∀ y,y<N→((Plain.mark T (N+1) S x).getD y true=true↔S.getD y true=true ∨ ∃ j,j<L∧it T j x=y):=by
 have n:=d.len;have p:=Zi4 (l:=S) (by omega) c
 have o:=Zh4 (l:=S);obtain⟨L,s,g,i,r,k⟩:=Yb3 hP d q c N 1 (S.set x true) (by simpa using n) (by omega) (by omega) (fun y f=>by
  rw[B1 (by omega)]
  simp only[Bool.or_eq_true,decide_eq_true_eq];constructor
  ·rintro(h|h)
   ·exact .inl h
   ·exact .inr ⟨0,by omega,h.symm⟩
  ·rintro(h|⟨j,u,h⟩)
   ·exact .inl h
   ·have:j=0:=by omega
    subst this;exact .inr h.symm) (fun a b m t=>by omega)
 have e:tr T (N+1) S x=(List.range' 0 L).map (fun j=>it T j x):=by
  rw[show L=(L - 1)+1 by omega,List.range'_succ]
  simp only[tr,c,bF,if_false,List.map_cons]
  congr 1
 refine⟨L,by omega,?_,g,i,e,?_⟩
 ·have:=Zpg T (N+1) S x;rw[e]at this;simpa using this
 ·intro y f;have:=k y f;simp only[Plain.mark,c,bF,if_false];exact this
theorem Zhl{x:Nat}(f:x<N):0<per T N x∧it T (per T N x) x=x ∧ ∀ j,0<j→j<per T N x→it T j x≠x:=by
 have b:∀ y,y<N→(List.replicate N false).getD y true=false:=fun y a=>by rw[List.getD_eq_getElem?_getD,List.getElem?_replicate,if_pos a]; rfl
 obtain⟨L,c,g,d,e,_⟩:=Zhh hP (S:=List.replicate N false) ⟨by simp,fun y a=>by rw[b y a,b _ (hP.lt y a)]⟩ f (b x f)
 rw[Zjx c g d e];exact⟨c,d,e⟩
theorem Zqe{x:Nat}(d:x<N):per T N x≤N+1:=by
 have b:∀ y,y<N→(List.replicate N false).getD y true=false:=fun y a=>by rw[List.getD_eq_getElem?_getD,List.getElem?_replicate,if_pos a]; rfl
 obtain⟨L,e,c,f,g,_⟩:=Zhh hP (S:=List.replicate N false) ⟨by simp,fun y a=>by rw[b y a,b _ (hP.lt y a)]⟩ d (b x d)
 rw[Zjx e c f g];exact c
theorem Z72{x:Nat}(a:x<N):per T N (T x)=per T N x:=by
 obtain⟨b,c,d⟩:=Zhl hP a;refine Zjx b (Zqe hP a) (by rw[Zf8,c]) fun j f g e=>?_
 rw[Zf8]at e;exact d j f g (hP.inj _ _ (H9 hP a j) a e)
theorem Z63{x:Nat}(b:x<N):Inn T n (T x)↔Inn T n x:=by
 obtain⟨c,a,_⟩:=Zhl hP b;constructor
 ·intro h j;cases j with
  | zero=>
   have:=h (per T N x - 1);rw[Zf8]at this;have e:T (it T (per T N x - 1) x)=it T (per T N x - 1+1) x:=rfl;rw[e,show per T N x - 1+1=per T N x by omega,a]at this
   exact this
  | succ j=>
   have:=h j;rw[Zf8]at this;exact this
 ·intro h j;rw[Zf8];exact h (j+1)
end
def B9(P:Nat→Bool):Nat→List Bool→Nat
 | _,[]=>0
 | i,b :: r=>(if !b&&P i then 1 else 0)+B9 P (i+1) r
theorem Znz{P:Nat→Bool}:∀ (l:List Bool) (i j:Nat),l[j]? = some false→B9 P i (l.set j true)+(if P (i+j)then 1 else 0)=B9 P i l
 | [],_,_,h=>by simp at h
 | b :: r,i,0,h=>by
  simp only[List.getElem?_cons_zero,oI]at h;subst h;simp only[List.set_cons_zero,B9,Bool.not_true,Bool.false_and,Bool.not_false,Bool.true_and,Nat.add_zero,bF,if_false];omega
 | b :: r,i,j+1,h=>by
  have:=Znz (P:=P) r (i+1) j (by simpa using h)
  rw[show i+1+j=i+(j+1) by omega]at this
  simp only[List.set_cons_succ,B9];omega
theorem Zox{P:Nat→Bool}:∀ (l:List Bool) (i:Nat),(∀ y,l.getD y true=true)→B9 P i l=0
 | [],_,_=>rfl
 | b :: r,i,h=>by
  have a:b=true:=by simpa using h 0
  subst a;have:=Zox (P:=P) r (i+1) fun y=>by simpa using h (y+1)
  simp only[B9,this];simp
theorem Zog{P:Nat→Bool}:∀ (k i:Nat),B9 P i (List.replicate k false)=((List.range' i k).filter P).length
 | 0,_=>rfl
 | k+1,i=>by
  rw[List.replicate_succ,B9,Zog k (i+1),List.range'_succ,List.filter_cons];cases P i<;>simp<;>omega
section
variable {T:Nat→Nat} {N n:Nat} (hP:Perm1 T N)
include hP
theorem Zx9{P:Nat→Bool}(a:∀ d,d<N→P (T d)=P d):∀ (k:Nat) (seen:List Bool) (x:Nat),seen.length=N→x<N →
 B9 P 0 (Plain.mark T k seen x)+(if P x then (tr T k seen x).length else 0)=B9 P 0 seen
 | 0,seen,x,_,_=>by simp[Plain.mark,tr]
 | k+1,seen,x,i,f=>by
  cases h:seen.getD x true with
  | true=>simp only[Plain.mark,tr,h,if_true,List.length_nil]; split<;>rfl
  | false=>
   have g:seen[x]? = some false:=by
    rw[List.getD_eq_getElem?_getD,gE (by omega)]at h
    rw[gE (by omega)]
    simpa using h
   have b:=Znz (P:=P) seen 0 x g;have c:=Zx9 a k (seen.set x true) (T x) (by simpa using i) (hP.lt x f)
   rw[a x f]at c;simp only[Plain.mark,tr,h,bF,if_false,List.length_cons];rw[Nat.zero_add]at b;by_cases e:P x=true
   ·rw[if_pos e]at b c ⊢; omega
   ·rw[if_neg e]at b c ⊢; omega
theorem Zn7{S:List Bool}(c:Clo T N S){x:Nat}(d:x<N)(b:S.getD x true=false):Clo T N (Plain.mark T (N+1) S x):=by
 obtain⟨L,n,o,g,p,q,i⟩:=Zhh hP c d b;refine⟨by rw[Zl8]; exact c.len,fun y a=>?_⟩
 have e:((Plain.mark T (N+1) S x).getD (T y) true=true↔(Plain.mark T (N+1) S x).getD y true=true):=by
  rw[i _ (hP.lt y a),i y a,c.same y a];constructor
  ·rintro(h|⟨j,m,h⟩)
   ·exact .inl h
   ·refine .inr ?_;cases j with
    | zero=>
     refine⟨L - 1,by omega,hP.inj _ _ (H9 hP d _) a ?_⟩
     have e:T (it T (L - 1) x)=it T (L - 1+1) x:=rfl;rw[e,show L - 1+1=L by omega,g]
     exact h
    | succ j=>exact ⟨j,by omega,hP.inj _ _ (H9 hP d _) a h⟩
  ·rintro(h|⟨j,m,rfl⟩)
   ·exact .inl h
   ·refine .inr ?_;rcases Nat.lt_or_ge (j+1) L with f|f
    ·exact⟨j+1,f,rfl⟩
    ·have:L=j+1:=by omega
     subst this;exact⟨0,by omega,g.symm⟩
 cases k:(Plain.mark T (N+1) S x).getD (T y) true<;>cases l:(Plain.mark T (N+1) S x).getD y true<;>rw[k,l]at e<;>simp at e ⊢
def sig(n:Nat)(w:List Nat):Nat×Bool:=(w.length,w.all fun d=>decide (d<n))
open Classical in
noncomputable def PK(T:Nat→Nat)(N n K:Nat)(b:Bool)(d:Nat):Bool:=decide (per T N d=K)&&(decide (Inn T n d) == b)
omit hP in
theorem Zp2{L x:Nat}(a:0<L)(b:it T L x=x):(∀ j,j<L→it T j x<n)↔Inn T n x:=by
 refine⟨fun h j=>?_,fun h j _=>h j⟩
 have hm:∀ q,it T (L*q) x=x:=fun q=>by
  induction q with
  | zero=>rfl
  | succ q c=>rw[Nat.mul_succ,Zf2,b,c]
 have e:j=j % L+L*(j / L):=by rw[Nat.mod_add_div]
 rw[e,Zf2,hm];exact h _ (Nat.mod_lt _ a)
open Classical in
theorem Z4a{S:List Bool}(m:Clo T N S){x:Nat}(p:x<N)(a:S.getD x true=false):sig n (tr T (N+1) S x)=(per T N x,decide (Inn T n x)):=by
 obtain⟨L,f,i,g,k,l,q⟩:=Zhh hP m p a;rw[l,Zjx f i g k];unfold sig;refine Prod.ext (by simp) ?_
 have:((List.map (fun j=>it T j x) (List.range' 0 L)).all fun d=>decide (d<n))=true↔Inn T n x:=by
  rw[← Zp2 f g,List.all_eq_true];constructor
  ·intro h j b;have:=h (it T j x) (List.mem_map.2 ⟨j,by simp[b],rfl⟩)
   simpa using this
  ·intro h d o;obtain⟨j,b,rfl⟩:=List.mem_map.1 o;have:=h j (by simpa using b)
   simpa using this
 by_cases h:Inn T n x
 ·rw[this.2 h]; simp[h]
 ·have c:¬((List.map (fun j=>it T j x) (List.range' 0 L)).all fun d=>decide (d<n))=true:=fun e=>h (this.1 e)
  simp only[Bool.not_eq_true]at c;show((List.map (fun j=>it T j x) (List.range' 0 L)).all fun d=>decide (d<n))=decide (Inn T n x)
  rw[c]; simp[h]
theorem Z28(K:Nat)(b:Bool){d:Nat}(a:d<N):PK T N n K b (T d)=PK T N n K b d:=by
 classical
 unfold PK;rw[Z72 hP a]
 congr 2
 exact decide_eq_decide.2 (Z63 hP a)
theorem Zpb(K:Nat)(b:Bool):∀ (k:Nat) (seen:List Bool),k≤N→Clo T N seen→(∀ y,y<N - k→seen.getD y true=true) →
 K*((wks T N k seen).map (sig n)).count (K,b)=B9 (PK T N n K b) 0 seen
 | 0,seen,_,j,l=>by
  rw[Zox]
  ·simp[wks]
  ·intro y;rcases Nat.lt_or_ge y N with h|h
   ·exact l y (by omega)
   ·rw[List.getD_eq_getElem?_getD,List.getElem?_eq_none (by rw[j.len]; omega)]; rfl
 | k+1,seen,v,j,l=>by
  have o:N - (k+1)<N:=by omega
  simp only[wks];have f:∀ a:List Bool,(∀ y,seen.getD y true=true→a.getD y true=true)→a.getD (N - (k+1)) true=true → ∀ y,y<N - k→a.getD y true=true:=fun a r s y q=>by
   rcases Nat.lt_or_ge y (N - (k+1))with p|p
   ·exact r y (l y p)
   ·have:y=N - (k+1):=by omega
    rw[this]; exact s
  cases h:seen.getD (N - (k+1)) true with
  | true=>
   rw[if_pos rfl];exact Zpb K b k seen (by omega) j (f seen (fun _ h=>h) h)
  | false=>
   rw[if_neg (by simp)]
   have t:=j.len;have u:=Zpb K b k (Plain.mark T (N+1) seen (N - (k+1))) (by omega) (Zn7 hP j o h) (f _ (fun y q=>Zg8 _ _ _ q) (by
    simp only[Plain.mark,h,bF,if_false];exact Zg8 _ _ _ (by rw[B1 (by omega)]; simp)))
   have c:=Zx9 hP (P:=PK T N n K b) (fun d l=>Z28 hP K b l) (N+1) seen (N - (k+1)) t o
   have i:=Z4a (n:=n) hP j o h;have m:(tr T (N+1) seen (N - (k+1))).length=per T N (N - (k+1)):=congrArg Prod.fst i;rw[List.map_cons,List.count_cons,i,Nat.mul_add,u];by_cases g:PK T N n K b (N - (k+1))=true
   ·rw[if_pos g,m]at c;unfold PK at g;simp only[bA,decide_eq_true_eq,beq_iff_eq]at g;rw[if_pos (by simp[g.1,g.2])]
    rw[g.1]at c;omega
   ·rw[if_neg g]at c;rw[if_neg]
    ·omega
    ·intro e;apply g;simp only[beq_iff_eq,pI2]at e;unfold PK;simp only[bA,decide_eq_true_eq,beq_iff_eq];exact e
theorem Zyk(K:Nat)(b:Bool):K*((Q8 T N).map (sig n)).count (K,b)=((List.range N).filter (PK T N n K b)).length:=by
 have c:∀ y,y<N→(List.replicate N false).getD y true=false:=fun y a=>by rw[List.getD_eq_getElem?_getD,List.getElem?_replicate,if_pos a]; rfl
 rw[Q8,Zpb hP K b N _ (Nat.le_refl _) ⟨by simp,fun y a=>by rw[c y a,c _ (hP.lt y a)]⟩ (fun y a=>by omega),Zog,List.range_eq_range']
end
theorem Zwg{T:Nat→Nat}{N n:Nat}:∀ w,w∈Q8 T N→0<w.length:=by
 have:∀ (k:Nat) (seen:List Bool),∀ w,w∈wks T N k seen→0<w.length:=by
  intro k
  induction k with
  | zero=>intro seen w a; simp[wks]at a
  | succ k b=>
   intro seen w a;simp only[wks]at a;cases h:seen.getD (N - (k+1)) true with
   | true=>rw[h,if_pos rfl]at a; exact b _ w a
   | false=>
    rw[h,if_neg (by simp)]at a
    rcases List.mem_cons.1 a with rfl|a
    ·simp only[tr,h,bF,if_false,List.length_cons]; omega
    ·exact b _ w a
 exact this N _
structure Opp (T T':Nat→Nat) (N n:Nat) (φ ψ:Nat→Nat):Prop where
 p:Perm1 T N
 q:Perm1 T' N
 lt:∀ x,x<N→φ x<N
 ltr:∀ x,x<N→ψ x<N
 inv:∀ x,x<N→ψ (φ x)=x
 inr:∀ x,x<N→φ (ψ x)=x
 opp:∀ x,x<N→T' (φ (T x))=φ x
 str:∀ x,x<N→(φ x<n↔x<n)
section
variable {T T':Nat→Nat} {N n:Nat} {φ ψ:Nat→Nat} (h:Opp T T' N n φ ψ)
include h
theorem Zpc{x:Nat}(a:x<N):∀ j,it T' j (φ (it T j x))=φ x
 | 0=>rfl
 | j+1=>by
  have b:=H9 h.p a j;rw[show it T' (j+1) (φ (it T (j+1) x))=it T' j (T' (φ (it T (j+1) x))) from(Zf8 T' j _).symm]
  show it T' j (T' (φ (T (it T j x))))=φ x;rw[h.opp _ b];exact Zpc a j
omit h in
theorem Zkw{T:Nat→Nat}(a:Perm1 T N):∀ (j:Nat) {x y:Nat},x<N→y<N→it T j x=it T j y→x=y
 | 0,_,_,_,_,e=>e
 | j+1,_,_,b,c,e=>Zkw a j b c (a.inj _ _ (H9 a b j) (H9 a c j) e)
theorem Zqw{x:Nat}(b:x<N)(j:Nat):it T' j (φ x)=φ x↔it T j x=x:=by
 have a:=Zpc h b j;have d:=H9 h.p b j;constructor
 ·intro e;rw[← a]at e;have:=Zkw h.q j (h.lt _ b) (h.lt _ d) (by rw[a]at e ⊢; exact e)
  have c:=h.inv _ b;rw[this,h.inv _ d]at c;exact c
 ·intro e;rw[e]at a;exact a
theorem Zz2{x:Nat}(c:x<N):per T' N (φ x)=per T N x:=by
 obtain⟨d,f,g⟩:=Zhl h.p c;exact Zjx d (Zqe h.p c) ((Zqw h c _).2 f) fun j a b e=>g j a b ((Zqw h c _).1 e)
theorem Yao{x:Nat}(a:x<N):Inn T' n (φ x)↔Inn T n x:=by
 obtain⟨b,c,_⟩:=Zhl h.p a;have d:=(Zqw h a (per T N x)).2 c;rw[← Zp2 b c,← Zp2 b d];generalize per T N x=L at *;have key:∀ j,j≤L→it T' j (φ x)=φ (it T (L - j) x):=fun j e=>by
  have:=Zpc h (H9 h.p a (L - j)) j;rw[← Zf2,show j+(L - j)=L by omega,c]at this
  exact this
 constructor
 ·intro g j e;cases j with
  | zero=>
   have:=g 0 b;exact(h.str x a).1 this
  | succ j=>
   have:=g (L - (j+1)) (by omega)
   rw[key _ (by omega),show L - (L - (j+1))=j+1 by omega]at this
   exact(h.str _ (H9 h.p a _)).1 this
 ·intro g j e;rw[key j (by omega)]
  refine(h.str _ (H9 h.p a _)).2 ?_;cases j with
  | zero=>rw[Nat.sub_zero,c]; exact g 0 b
  | succ j=>exact g _ (by omega)
theorem Zsn{x:Nat}(a:x<N)(K:Nat)(b:Bool):PK T' N n K b (φ x)=PK T N n K b x:=by
 classical
 unfold PK;rw[Zz2 h a]
 congr 2
 exact decide_eq_decide.2 (Yao h a)
omit h in
theorem Zgr{f:Nat→Nat}:∀ {l:List Nat},(∀ x y,x∈l→y∈l→f x=f y→x=y)→l.Nodup→(l.map f).Nodup
 | [],_,_=>by simp
 | a :: r,c,h=>by
  obtain⟨d,g⟩:=List.nodup_cons.1 h;rw[List.map_cons,List.nodup_cons];refine⟨fun hm=>?_,Zgr (fun x y i b=>c x y (List.mem_cons_of_mem _ i) (List.mem_cons_of_mem _ b)) g⟩
  obtain⟨y,b,e⟩:=List.mem_map.1 hm;have:=c y a (List.mem_cons_of_mem _ b) (List.mem_cons_self ..) e;subst this;exact d b
theorem Zxc:((Q8 T N).map (sig n)).Perm ((Q8 T' N).map (sig n)):=by
 rw[List.perm_iff_count];rintro⟨K,b⟩;have m:((List.range N).filter (PK T N n K b)).length=((List.range N).filter (PK T' N n K b)).length:=by
  refine Nat.le_antisymm ?_ ?_
  ·have:=List.Nodup.length_le_of_subset (l₁:=((List.range N).filter (PK T N n K b)).map φ) (l₂:=(List.range N).filter (PK T' N n K b)) (Zgr (fun x y c f e=>by
    have d:=List.mem_range.1 (List.mem_filter.1 c).1;have g:=List.mem_range.1 (List.mem_filter.1 f).1;have:=h.inv x d;rw[e,h.inv y g]at this;exact this.symm) (List.nodup_range.filter _)) fun y f=>by
    obtain⟨x,c,rfl⟩:=List.mem_map.1 f;obtain⟨a,j⟩:=List.mem_filter.1 c;have a:=List.mem_range.1 a;exact List.mem_filter.2 ⟨List.mem_range.2 (h.lt x a),by rw[Zsn h a]; exact j⟩
   simpa using this
  ·have:=List.Nodup.length_le_of_subset (l₁:=((List.range N).filter (PK T' N n K b)).map ψ) (l₂:=(List.range N).filter (PK T N n K b)) (Zgr (fun x y c f e=>by
    have d:=List.mem_range.1 (List.mem_filter.1 c).1;have g:=List.mem_range.1 (List.mem_filter.1 f).1;have:=h.inr x d;rw[e,h.inr y g]at this;exact this.symm) (List.nodup_range.filter _)) fun y f=>by
    obtain⟨x,c,rfl⟩:=List.mem_map.1 f;obtain⟨a,j⟩:=List.mem_filter.1 c;have a:=List.mem_range.1 a;refine List.mem_filter.2 ⟨List.mem_range.2 (h.ltr x a),?_⟩;have:=Zsn h (h.ltr x a) K b;rw[h.inr x a]at this;rw[← this]; exact j
   simpa using this
 have k:=Zyk (n:=n) h.p K b;have l:=Zyk (n:=n) h.q K b;rcases Nat.eq_zero_or_pos K with i|i
 ·subst i;have z:∀ (T:Nat→Nat),((Q8 T N).map (sig n)).count (0,b)=0:=fun T=>List.count_eq_zero.2 fun hm=>by
   obtain⟨w,o,e⟩:=List.mem_map.1 hm;have:=Zwg (n:=n) w o;have e:=congrArg Prod.fst e;simp only[sig]at e;omega
  rw[z,z]
 ·rw[m,← l]at k;exact Nat.eq_of_mul_eq_mul_left i k
end
end Go.Known
end
section
namespace Go.Known
open Go.Plain
section
variable {T:Nat→Nat} {N n:Nat} (hP:Perm1 T N)
include hP
theorem Zyi:Clo T N (List.replicate N false):=by
 have b:∀ y,y<N→(List.replicate N false).getD y true=false:=fun y a=>by rw[List.getD_eq_getElem?_getD,List.getElem?_replicate,if_pos a]; rfl
 exact⟨by simp,fun y a=>by rw[b y a,b _ (hP.lt y a)]⟩
theorem Zqa:∀ (k:Nat) (seen:List Bool),k≤N→Clo T N seen → ∀ w,w∈wks T N k seen → ∀ d,d∈w→d<N∧T d∈w
 | 0,seen,_,_,w,a=>by simp[wks]at a
 | k+1,seen,q,b,w,a=>by
  have c:N - (k+1)<N:=by omega
  simp only[wks]at a;cases h:seen.getD (N - (k+1)) true with
  | true=>
   rw[h,if_pos rfl]at a;exact Zqa k seen (by omega) b w a
  | false=>
   rw[h,if_neg (by simp)]at a
   rcases List.mem_cons.1 a with rfl|a
   ·obtain⟨L,m,n,g,o,i,p⟩:=Zhh hP b c h;rw[i];intro d l;obtain⟨j,f,rfl⟩:=List.mem_map.1 l;have f:j<L:=by simpa using f
    refine⟨H9 hP c j,List.mem_map.2 ?_⟩;rcases Nat.lt_or_ge (j+1) L with e|e
    ·exact⟨j+1,by simpa using e,rfl⟩
    ·have:L=j+1:=by omega
     subst this;exact⟨0,by simp,g.symm⟩
   ·exact Zqa k _ (by omega) (Zn7 hP b c h) w a
theorem Zme:∀ w,w∈Q8 T N → ∀ d,d∈w→d<N∧T d∈w:=Zqa hP N _ (Nat.le_refl _) (Zyi hP)
theorem Zul(P:Nat→Bool):∀ (k:Nat) (seen:List Bool) (x:Nat),seen.length=N→x<N →
 B9 P 0 (Plain.mark T k seen x)+((tr T k seen x).filter P).length=B9 P 0 seen
 | 0,seen,x,_,_=>by simp[Plain.mark,tr]
 | k+1,seen,x,d,e=>by
  cases h:seen.getD x true with
  | true=>simp only[Plain.mark,tr,h,if_true,List.filter_nil,List.length_nil]; rfl
  | false=>
   have c:seen[x]? = some false:=by
    rw[List.getD_eq_getElem?_getD,gE (by omega)]at h
    rw[gE (by omega)]
    simpa using h
   have a:=Znz (P:=P) seen 0 x c;have f:=Zul P k (seen.set x true) (T x) (by simpa using d) (hP.lt x e)
   simp only[Plain.mark,tr,h,bF,if_false,List.filter_cons];rw[Nat.zero_add]at a;by_cases b:P x=true
   ·rw[if_pos b]at a ⊢; simp only[List.length_cons]; omega
   ·rw[if_neg b]at a ⊢; omega
theorem Zo1(P:Nat→Bool):∀ (k:Nat) (seen:List Bool),k≤N→seen.length=N→(∀ y,y<N - k→seen.getD y true=true) →
 ((wks T N k seen).map fun w=>(w.filter P).length).sum=B9 P 0 seen
 | 0,seen,_,c,d=>by
  rw[Zox]
  ·simp[wks]
  ·intro y;rcases Nat.lt_or_ge y N with h|h
   ·exact d y (by omega)
   ·rw[List.getD_eq_getElem?_getD,List.getElem?_eq_none (by omega)]; rfl
 | k+1,seen,n,c,d=>by
  have l:N - (k+1)<N:=by omega
  simp only[wks];have b:∀ a:List Bool,(∀ y,seen.getD y true=true→a.getD y true=true)→a.getD (N - (k+1)) true=true → ∀ y,y<N - k→a.getD y true=true:=fun a i j y g=>by
   rcases Nat.lt_or_ge y (N - (k+1))with e|e
   ·exact i y (d y e)
   ·have:y=N - (k+1):=by omega
    rw[this]; exact j
  cases h:seen.getD (N - (k+1)) true with
  | true=>
   rw[if_pos rfl];exact Zo1 P k seen (by omega) c (b seen (fun _ h=>h) h)
  | false=>
   rw[if_neg (by simp)]
   have m:=Zo1 P k (Plain.mark T (N+1) seen (N - (k+1))) (by omega) (by rw[Zl8]; exact c) (b _ (fun y g=>Zg8 _ _ _ g) (by
    simp only[Plain.mark,h,bF,if_false];exact Zg8 _ _ _ (by rw[B1 (by omega)]; simp)))
   have f:=Zul hP P (N+1) seen (N - (k+1)) c l;rw[List.map_cons,List.sum_cons,m];omega
theorem Zpj(P:Nat→Bool):((Q8 T N).map fun w=>(w.filter P).length).sum=((List.range N).filter P).length:=by
 rw[Q8,Zo1 hP P N _ (Nat.le_refl _) (by simp) (fun y a=>by omega),Zog,List.range_eq_range']
end
section
variable {ls:List Lt}
end
end Go.Known
end
section
namespace Go.Known
open Go.Plain
def arr(n v:Nat)(b:Bool):Nat:=if b then 2*((v+n - 1) % n)else 2*v+1
theorem Zgk{n v:Nat}(a:v<n)(b:Bool):arr n v b<2*n∧U8 n (arr n v b)=v∧(arr n v b % 2 == 0)=b:=by
 cases b with
 | true=>
  have hm:=Nat.mod_lt (v+n - 1) (show 0<n by omega)
  have e:(v+n - 1) % n=if v=0 then n - 1 else v - 1:=by
   split
   ·rename_i h; subst h; rw[Nat.zero_add,Nat.mod_eq_of_lt (by omega)]
   ·have:v+n - 1=(v - 1)+n:=by omega
    rw[this,Nat.add_mod_right,Nat.mod_eq_of_lt (by omega)]
  unfold arr U8;simp only[if_true];refine⟨by omega,?_,by simp⟩
  rw[if_pos (by omega),show 2*((v+n - 1) % n) / 2=(v+n - 1) % n by omega,e]
  split
  ·rename_i h; subst h; rw[show n - 1+1=n by omega,Nat.mod_self]
  ·rw[show v - 1+1=v by omega,Nat.mod_eq_of_lt a]
 | false=>
  unfold arr U8;simp only[bF,if_false];refine⟨by omega,?_,by simp⟩
  rw[if_neg (by omega)]
  omega
theorem Zfy{n d:Nat}(c:d<2*n):∃ v b,v<n∧d=arr n v b:=by
 have f:=Zwi c;obtain⟨g,h,a⟩:=Zgk f (d % 2 == 0);refine⟨U8 n d,(d % 2 == 0),f,Zqp c g h.symm ?_⟩;generalize arr n (U8 n d) (d % 2 == 0)=y at *;rcases Nat.mod_two_eq_zero_or_one d with e|e<;>rcases Nat.mod_two_eq_zero_or_one y with e'|e'<;>rw[e,e']at a ⊢ <;> simp at a
section
variable {ls:List Lt}
theorem Ziz{v:Nat}(e:v<ls.length)(b:Bool):V1 ls (Z4 ls) (arr ls.length v b)=if (at' ls v).k=2 then T6 ls.length (T2 ls v ls.length 0) (b == ((at' ls v).o == ((at' ls v).s == 1)))
 else if down ls v=b then 2*ls.length+2*T8 v (Z4 ls)else 2*ls.length+2*((T8 v (Z4 ls)+Z3 ls - 1) % Z3 ls)+1:=by
 obtain⟨a,c,d⟩:=Zgk e b;rw[Zho a,c,d,H6]
theorem Zkl{p:Nat}:V1 ls (Z4 ls) (2*ls.length+2*p)=T6 ls.length ((Z4 ls).getD ((p+1) % Z3 ls) 0) (!down ls ((Z4 ls).getD ((p+1) % Z3 ls) 0)):=by
 unfold V1;rw[if_pos (by omega),if_pos (by omega),H6,show (2*ls.length+2*p - 2*ls.length) / 2=p by omega]
theorem Zms{p:Nat}:V1 ls (Z4 ls) (2*ls.length+2*p+1)=T6 ls.length ((Z4 ls).getD p 0) (down ls ((Z4 ls).getD p 0)):=by
 unfold V1;rw[if_pos (by omega),if_neg (by omega),show (2*ls.length+2*p+1 - 2*ls.length) / 2=p by omega]
structure Wv (ls:List Lt):Prop where
 pas:0<Z3 ls
 kin:∀ v,v<ls.length→(at' ls v).k≠2→(at' ls v).k=1
 oth:∀ v,v<ls.length→(at' ls v).k=2→T2 ls v ls.length 0<ls.length∧(at' ls (T2 ls v ls.length 0)).k=2∧T2 ls (T2 ls v ls.length 0) ls.length 0=v ∧
  (at' ls (T2 ls v ls.length 0)).o=(!(at' ls v).o)∧(at' ls (T2 ls v ls.length 0)).s=(at' ls v).s
structure Img (ls ls':List Lt) (ρ σ:Nat→Nat) (fl:Bool):Prop where
 wv:Wv ls
 len:ls'.length=ls.length
 pas:Z3 ls'=Z3 ls
 lt:∀ v,v<ls.length→ρ v<ls.length
 ltr:∀ v,v<ls.length→σ v<ls.length
 inv:∀ v,v<ls.length→σ (ρ v)=v
 inr:∀ v,v<ls.length→ρ (σ v)=v
 pre:∀ v,v<ls.length→ρ ((v+ls.length - 1) % ls.length)=(ρ v+ls.length - 1) % ls.length
 kin:∀ v,v<ls.length→(at' ls' (ρ v)).k=(at' ls v).k
 oth:∀ v,v<ls.length→(at' ls v).k=2→T2 ls' (ρ v) ls.length 0=ρ (T2 ls v ls.length 0)
 ov:∀ v,v<ls.length→(at' ls v).k=2→((at' ls' (ρ v)).o == ((at' ls' (ρ v)).s == 1)) = !((at' ls v).o == ((at' ls v).s == 1))
 dn:∀ v,v<ls.length→(at' ls v).k=1→down ls' (ρ v)=(down ls v != fl)
 idx:∀ v,v<ls.length→(at' ls v).k=1→T8 (ρ v) (Z4 ls')=if fl then T8 v (Z4 ls)else Z3 ls - 1 - T8 v (Z4 ls)
theorem Ycz{ls:List Lt}{v:Nat}(b:v<ls.length)(a:(at' ls v).k=1):T8 v (Z4 ls)<Z3 ls∧(Z4 ls).getD (T8 v (Z4 ls)) 0=v:=by
 have hm:v∈Z4 ls:=mem_axis.2 ⟨b,by simp[isP,a]⟩
 refine⟨by rw[← H6]; exact Zki hm,?_⟩
 rw[List.getD,(Zau hm).1]; rfl
theorem Zmv{ls:List Lt}{p:Nat}(d:p<Z3 ls):∃ v,v<ls.length∧(at' ls v).k=1∧(Z4 ls).getD p 0=v∧T8 v (Z4 ls)=p:=by
 have a:(Z4 ls)[p]? = some ((Z4 ls).getD p 0):=by rw[List.getD,gE (by rw[H6]; exact d)]; rfl
 have hm:=List.mem_of_getElem? a;obtain⟨b,c⟩:=mem_axis.1 hm;exact⟨_,b,by simpa[isP]using c,rfl,Zih (Zj1 ls) (Zau hm).1 a⟩
theorem Z1u{m p:Nat}(a:p<m):(p+m - 1) % m=if p=0 then m - 1 else p - 1:=by
 split
 ·rename_i h; subst h; rw[Nat.zero_add,Nat.mod_eq_of_lt (by omega)]
 ·rw[show p+m - 1=(p - 1)+m by omega,Nat.add_mod_right,Nat.mod_eq_of_lt (by omega)]
section
variable {ls ls':List Lt} {ρ σ:Nat→Nat} {fl:Bool} (h:Img ls ls' ρ σ fl)
include h
end
end
end Go.Known
end
