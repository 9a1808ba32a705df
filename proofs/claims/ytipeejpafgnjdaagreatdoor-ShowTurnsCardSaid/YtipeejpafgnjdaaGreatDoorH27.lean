/- Part 27 of the proof: Pk, Pl, Pm. -/
import Derived.Test.YtipeejpafgnjdaaGreatDoorH21
import Derived.Test.YtipeejpafgnjdaaGreatDoorH26
set_option linter.all false
section
namespace Go.Known
open Go.Plain
def it(T:Nat→Nat):Nat→Nat→Nat
 | 0,x=>x
 | j+1,x=>T (it T j x)
theorem Zgk(T:Nat→Nat):∀ (j x:Nat),it T j (T x)=T (it T j x)
 | 0,_=>rfl
 | j+1,x=>by simp only[it]; rw[Zgk T j x]
theorem Zld(T:Nat→Nat)(x:Nat):∀ (i j:Nat),it T (i+j) x=it T i (it T j x)
 | 0,j=>by rw[Nat.zero_add]; rfl
 | i+1,j=>by rw[Nat.succ_add]; simp only[it]; rw[Zld T x i j]
def per(T:Nat→Nat)(N x:Nat):Nat:=(((List.range (N+1)).find? fun j=>it T (j+1) x == x).map (· + 1)).getD 0
theorem Zij{T:Nat→Nat}{N L x:Nat}(h0:0<L)(hL:L≤N+1)(h1:it T L x=x)(h2:∀ j,0<j→j<L→it T j x≠x):per T N x=L:=by
 unfold per;have:(List.range (N+1)).find? (fun j=>it T (j+1) x == x)=some (L - 1):=by
  rw[List.find?_range_eq_some];refine⟨?_,by simp; omega,fun j hj=>?_⟩
  ·rw[show L - 1+1=L by omega,h1]; simp
  ·have:=h2 (j+1) (by omega) (by omega)
   simpa using this
 rw[this];show L - 1+1=L;omega
def Inn(T:Nat→Nat)(n x:Nat):Prop:=∀ j,it T j x<n
structure Perm1 (T:Nat→Nat) (N:Nat):Prop where
 lt:∀ d,d<N→T d<N
 inj:∀ y y',y<N→y'<N→T y=T y'→y=y'
structure Clo (T:Nat→Nat) (N:Nat) (seen:List Bool):Prop where
 len:seen.length=N
 same:∀ y,y<N→seen.getD (T y) true=seen.getD y true
section
variable {T:Nat→Nat} {N n:Nat} (hP:Perm1 T N)
include hP
theorem E3{x:Nat}(hx:x<N):∀ j,it T j x<N
 | 0=>hx
 | j+1=>hP.lt _ (E3 hx j)
theorem Zzn{S:List Bool}(hc:Clo T N S){x:Nat}(hx:x<N):∀ j,S.getD (it T j x) true=S.getD x true
 | 0=>rfl
 | j+1=>by simp only[it]; rw[hc.same _ (E3 hP hx j),Zzn hc hx j]
theorem Z13{S:List Bool}(hc:Clo T N S){x:Nat}(hx:x<N)(hSx:S.getD x true=false) :
 ∀(k i:Nat) (seen:List Bool),seen.length=N→E7 seen<k→0<i→(∀ y,y<N→(seen.getD y true=true↔S.getD y true=true ∨ ∃ j,j<i∧it T j x=y))→(∀ a b,a<b→b<i→it T a x≠it T b x) →
  ∃ L,i≤L∧it T L x=x∧(∀ j,0<j→j<L→it T j x≠x)∧tr T k seen (it T i x)=(List.range' i (L - i)).map (fun j=>it T j x) ∧
   ∀ y,y<N→((Plain.mark T k seen (it T i x)).getD y true=true↔S.getD y true=true ∨ ∃ j,j<L∧it T j x=y):=by
 intro k
 induction k with
 | zero=>intro i seen _ h; omega
 | succ k ih=>
  intro i seen hs hu hi hseen hd;have hyN:=E3 hP hx i;cases hy:seen.getD (it T i x) true with
  | true=>
   rcases (hseen _ hyN).1 hy with h1|⟨j,hj,h1⟩
   ·rw[Zzn hP hc hx,hSx]at h1; cases h1
   ·have hj0:j=0:=by
     rcases Nat.eq_zero_or_pos j with h|h
     ·exact h
     ·exfalso;obtain⟨j',rfl⟩:∃ j',j=j'+1:=⟨j - 1,by omega⟩
      obtain⟨i',rfl⟩:∃ i',i=i'+1:=⟨i - 1,by omega⟩
      have:=hP.inj _ _ (E3 hP hx j') (E3 hP hx i') h1;exact hd j' i' (by omega) (by omega) this
    subst hj0;refine⟨i,Nat.le_refl _,h1.symm,fun j h0 hj e=>hd 0 j h0 hj e.symm,?_,?_⟩
    ·simp only[tr,hy,if_true,Nat.sub_self,List.range'_zero,List.map_nil]
    ·simp only[Plain.mark,hy,if_true];exact hseen
  | false=>
   have hun:=Zjo (by omega) hy
   obtain⟨L,hL,g1,g2,g3,g4⟩:=ih (i+1) (seen.set (it T i x) true) (by simpa using hs) (by omega) (by omega) (fun y hyN'=>by
    rw[C8 (by omega)]
    simp only[Bool.or_eq_true,decide_eq_true_eq];rw[hseen y hyN'];constructor
    ·rintro((h|⟨j,hj,h⟩)|h)
     ·exact .inl h
     ·exact .inr ⟨j,by omega,h⟩
     ·exact .inr ⟨i,by omega,h.symm⟩
    ·rintro(h|⟨j,hj,h⟩)
     ·exact .inl (.inl h)
     ·rcases Nat.lt_or_ge j i with h'|h'
      ·exact .inl (.inr ⟨j,h',h⟩)
      ·have:j=i:=by omega
       subst this;exact .inr h.symm) (fun a b hab hb e=>by
    rcases Nat.lt_or_ge b i with h'|h'
    ·exact hd a b hab h' e
    ·have:b=i:=by omega
     subst this;have:=(hseen _ hyN).2 (.inr ⟨a,hab,e⟩);rw[hy]at this; cases this)
   refine⟨L,by omega,g1,g2,?_,?_⟩
   ·rw[show L - i=(L - (i+1))+1 by omega,List.range'_succ]
    simp only[tr,hy,bF,if_false,List.map_cons]
    congr 1
   ·simp only[Plain.mark,hy,bF,if_false];exact g4
theorem Zjv{S:List Bool}(hc:Clo T N S){x:Nat}(hx:x<N)(hSx:S.getD x true=false) :
 ∃ L,0<L∧L≤N+1∧it T L x=x∧(∀ j,0<j→j<L→it T j x≠x)∧tr T (N+1) S x=(List.range' 0 L).map (fun j=>it T j x) ∧
  ∀ y,y<N→((Plain.mark T (N+1) S x).getD y true=true↔S.getD y true=true ∨ ∃ j,j<L∧it T j x=y):=by
 have hl:=hc.len;have hun:=Zjo (l:=S) (by omega) hSx
 have hul:=Ze3 (l:=S);obtain⟨L,hL,g1,g2,g3,g4⟩:=Z13 hP hc hx hSx N 1 (S.set x true) (by simpa using hl) (by omega) (by omega) (fun y hy=>by
  rw[C8 (by omega)]
  simp only[Bool.or_eq_true,decide_eq_true_eq];constructor
  ·rintro(h|h)
   ·exact .inl h
   ·exact .inr ⟨0,by omega,h.symm⟩
  ·rintro(h|⟨j,hj,h⟩)
   ·exact .inl h
   ·have:j=0:=by omega
    subst this;exact .inr h.symm) (fun a b hab hb=>by omega)
 have e:tr T (N+1) S x=(List.range' 0 L).map (fun j=>it T j x):=by
  rw[show L=(L - 1)+1 by omega,List.range'_succ]
  simp only[tr,hSx,bF,if_false,List.map_cons]
  congr 1
 refine⟨L,by omega,?_,g1,g2,e,?_⟩
 ·have:=Zp4 T (N+1) S x;rw[e]at this;simpa using this
 ·intro y hy;have:=g4 y hy;simp only[Plain.mark,hSx,bF,if_false];exact this
theorem Zgw{x:Nat}(hx:x<N):0<per T N x∧it T (per T N x) x=x ∧ ∀ j,0<j→j<per T N x→it T j x≠x:=by
 have hg:∀ y,y<N→(List.replicate N false).getD y true=false:=fun y hy=>by rw[List.getD_eq_getElem?_getD,List.getElem?_replicate,if_pos hy]; rfl
 obtain⟨L,h0,h1,h2,h3,_⟩:=Zjv hP (S:=List.replicate N false) ⟨by simp,fun y hy=>by rw[hg y hy,hg _ (hP.lt y hy)]⟩ hx (hg x hx)
 rw[Zij h0 h1 h2 h3];exact⟨h0,h2,h3⟩
theorem Zs2{x:Nat}(hx:x<N):per T N x≤N+1:=by
 have hg:∀ y,y<N→(List.replicate N false).getD y true=false:=fun y hy=>by rw[List.getD_eq_getElem?_getD,List.getElem?_replicate,if_pos hy]; rfl
 obtain⟨L,h0,h1,h2,h3,_⟩:=Zjv hP (S:=List.replicate N false) ⟨by simp,fun y hy=>by rw[hg y hy,hg _ (hP.lt y hy)]⟩ hx (hg x hx)
 rw[Zij h0 h1 h2 h3];exact h1
theorem Z54{x:Nat}(hx:x<N):per T N (T x)=per T N x:=by
 obtain⟨h0,h1,h2⟩:=Zgw hP hx;refine Zij h0 (Zs2 hP hx) (by rw[Zgk,h1]) fun j hj hl e=>?_
 rw[Zgk]at e;exact h2 j hj hl (hP.inj _ _ (E3 hP hx j) hx e)
theorem Yb3{x:Nat}(hx:x<N):Inn T n (T x)↔Inn T n x:=by
 obtain⟨h0,h1,_⟩:=Zgw hP hx;constructor
 ·intro h j;cases j with
  | zero=>
   have:=h (per T N x - 1);rw[Zgk]at this;have e:T (it T (per T N x - 1) x)=it T (per T N x - 1+1) x:=rfl;rw[e,show per T N x - 1+1=per T N x by omega,h1]at this
   exact this
  | succ j=>
   have:=h j;rw[Zgk]at this;exact this
 ·intro h j;rw[Zgk];exact h (j+1)
end
def cntL(P:Nat→Bool):Nat→List Bool→Nat
 | _,[]=>0
 | i,b :: r=>(if !b&&P i then 1 else 0)+cntL P (i+1) r
theorem Zxl{P:Nat→Bool}:∀ (l:List Bool) (i j:Nat),l[j]? = some false→cntL P i (l.set j true)+(if P (i+j)then 1 else 0)=cntL P i l
 | [],_,_,h=>by simp at h
 | b :: r,i,0,h=>by
  simp only[List.getElem?_cons_zero,oI]at h;subst h;simp only[List.set_cons_zero,cntL,Bool.not_true,Bool.false_and,Bool.not_false,Bool.true_and,Nat.add_zero,bF,if_false];omega
 | b :: r,i,j+1,h=>by
  have:=Zxl (P:=P) r (i+1) j (by simpa using h)
  rw[show i+1+j=i+(j+1) by omega]at this
  simp only[List.set_cons_succ,cntL];omega
theorem Zxn{P:Nat→Bool}:∀ (l:List Bool) (i:Nat),(∀ y,l.getD y true=true)→cntL P i l=0
 | [],_,_=>rfl
 | b :: r,i,h=>by
  have h0:b=true:=by simpa using h 0
  subst h0;have:=Zxn (P:=P) r (i+1) fun y=>by simpa using h (y+1)
  simp only[cntL,this];simp
theorem Zx0{P:Nat→Bool}:∀ (k i:Nat),cntL P i (List.replicate k false)=((List.range' i k).filter P).length
 | 0,_=>rfl
 | k+1,i=>by
  rw[List.replicate_succ,cntL,Zx0 k (i+1),List.range'_succ,List.filter_cons];cases P i<;>simp<;>omega
section
variable {T:Nat→Nat} {N n:Nat} (hP:Perm1 T N)
include hP
theorem Zv1{P:Nat→Bool}(hPT:∀ d,d<N→P (T d)=P d):∀ (k:Nat) (seen:List Bool) (x:Nat),seen.length=N→x<N →
 cntL P 0 (Plain.mark T k seen x)+(if P x then (tr T k seen x).length else 0)=cntL P 0 seen
 | 0,seen,x,_,_=>by simp[Plain.mark,tr]
 | k+1,seen,x,hs,hx=>by
  cases h:seen.getD x true with
  | true=>simp only[Plain.mark,tr,h,if_true,List.length_nil]; split<;>rfl
  | false=>
   have hg:seen[x]? = some false:=by
    rw[List.getD_eq_getElem?_getD,gE (by omega)]at h
    rw[gE (by omega)]
    simpa using h
   have h1:=Zxl (P:=P) seen 0 x hg;have h2:=Zv1 hPT k (seen.set x true) (T x) (by simpa using hs) (hP.lt x hx)
   rw[hPT x hx]at h2;simp only[Plain.mark,tr,h,bF,if_false,List.length_cons];rw[Nat.zero_add]at h1;by_cases hp:P x=true
   ·rw[if_pos hp]at h1 h2 ⊢; omega
   ·rw[if_neg hp]at h1 h2 ⊢; omega
theorem Zz4{S:List Bool}(hc:Clo T N S){x:Nat}(hx:x<N)(hSx:S.getD x true=false):Clo T N (Plain.mark T (N+1) S x):=by
 obtain⟨L,h0,h1,h2,h3,h4,h5⟩:=Zjv hP hc hx hSx;refine⟨by rw[Zmr]; exact hc.len,fun y hy=>?_⟩
 have e:((Plain.mark T (N+1) S x).getD (T y) true=true↔(Plain.mark T (N+1) S x).getD y true=true):=by
  rw[h5 _ (hP.lt y hy),h5 y hy,hc.same y hy];constructor
  ·rintro(h|⟨j,hj,h⟩)
   ·exact .inl h
   ·refine .inr ?_;cases j with
    | zero=>
     refine⟨L - 1,by omega,hP.inj _ _ (E3 hP hx _) hy ?_⟩
     have e:T (it T (L - 1) x)=it T (L - 1+1) x:=rfl;rw[e,show L - 1+1=L by omega,h2]
     exact h
    | succ j=>exact ⟨j,by omega,hP.inj _ _ (E3 hP hx _) hy h⟩
  ·rintro(h|⟨j,hj,rfl⟩)
   ·exact .inl h
   ·refine .inr ?_;rcases Nat.lt_or_ge (j+1) L with h'|h'
    ·exact⟨j+1,h',rfl⟩
    ·have:L=j+1:=by omega
     subst this;exact⟨0,by omega,h2.symm⟩
 cases ha:(Plain.mark T (N+1) S x).getD (T y) true<;>cases hb:(Plain.mark T (N+1) S x).getD y true<;>rw[ha,hb]at e<;>simp at e ⊢
def sig(n:Nat)(w:List Nat):Nat×Bool:=(w.length,w.all fun d=>decide (d<n))
open Classical in
noncomputable def PK(T:Nat→Nat)(N n K:Nat)(b:Bool)(d:Nat):Bool:=decide (per T N d=K)&&(decide (Inn T n d) == b)
omit hP in
theorem Zot{L x:Nat}(h0:0<L)(h1:it T L x=x):(∀ j,j<L→it T j x<n)↔Inn T n x:=by
 refine⟨fun h j=>?_,fun h j _=>h j⟩
 have hm:∀ q,it T (L*q) x=x:=fun q=>by
  induction q with
  | zero=>rfl
  | succ q ih=>rw[Nat.mul_succ,Zld,h1,ih]
 have e:j=j % L+L*(j / L):=by rw[Nat.mod_add_div]
 rw[e,Zld,hm];exact h _ (Nat.mod_lt _ h0)
open Classical in
theorem Z7j{S:List Bool}(hc:Clo T N S){x:Nat}(hx:x<N)(hSx:S.getD x true=false):sig n (tr T (N+1) S x)=(per T N x,decide (Inn T n x)):=by
 obtain⟨L,h0,h1,h2,h3,h4,h5⟩:=Zjv hP hc hx hSx;rw[h4,Zij h0 h1 h2 h3];unfold sig;refine Prod.ext (by simp) ?_
 have:((List.map (fun j=>it T j x) (List.range' 0 L)).all fun d=>decide (d<n))=true↔Inn T n x:=by
  rw[← Zot h0 h2,List.all_eq_true];constructor
  ·intro h j hj;have:=h (it T j x) (List.mem_map.2 ⟨j,by simp[hj],rfl⟩)
   simpa using this
  ·intro h d hd;obtain⟨j,hj,rfl⟩:=List.mem_map.1 hd;have:=h j (by simpa using hj)
   simpa using this
 by_cases h:Inn T n x
 ·rw[this.2 h]; simp[h]
 ·have h':¬((List.map (fun j=>it T j x) (List.range' 0 L)).all fun d=>decide (d<n))=true:=fun e=>h (this.1 e)
  simp only[Bool.not_eq_true]at h';show((List.map (fun j=>it T j x) (List.range' 0 L)).all fun d=>decide (d<n))=decide (Inn T n x)
  rw[h']; simp[h]
theorem Z24(K:Nat)(b:Bool){d:Nat}(hd:d<N):PK T N n K b (T d)=PK T N n K b d:=by
 classical
 unfold PK;rw[Z54 hP hd]
 congr 2
 exact decide_eq_decide.2 (Yb3 hP hd)
theorem Zn6(K:Nat)(b:Bool):∀ (k:Nat) (seen:List Bool),k≤N→Clo T N seen→(∀ y,y<N - k→seen.getD y true=true) →
 K*((wks T N k seen).map (sig n)).count (K,b)=cntL (PK T N n K b) 0 seen
 | 0,seen,_,hc,hd=>by
  rw[Zxn]
  ·simp[wks]
  ·intro y;rcases Nat.lt_or_ge y N with h|h
   ·exact hd y (by omega)
   ·rw[List.getD_eq_getElem?_getD,List.getElem?_eq_none (by rw[hc.len]; omega)]; rfl
 | k+1,seen,hk,hc,hd=>by
  have hx:N - (k+1)<N:=by omega
  simp only[wks];have hstep:∀ seen':List Bool,(∀ y,seen.getD y true=true→seen'.getD y true=true)→seen'.getD (N - (k+1)) true=true → ∀ y,y<N - k→seen'.getD y true=true:=fun seen' h1 h2 y hy=>by
   rcases Nat.lt_or_ge y (N - (k+1))with h3|h3
   ·exact h1 y (hd y h3)
   ·have:y=N - (k+1):=by omega
    rw[this]; exact h2
  cases h:seen.getD (N - (k+1)) true with
  | true=>
   rw[if_pos rfl];exact Zn6 K b k seen (by omega) hc (hstep seen (fun _ h=>h) h)
  | false=>
   rw[if_neg (by simp)]
   have hl:=hc.len;have ih:=Zn6 K b k (Plain.mark T (N+1) seen (N - (k+1))) (by omega) (Zz4 hP hc hx h) (hstep _ (fun y hy=>Zf6 _ _ _ hy) (by
    simp only[Plain.mark,h,bF,if_false];exact Zf6 _ _ _ (by rw[C8 (by omega)]; simp)))
   have hcnt:=Zv1 hP (P:=PK T N n K b) (fun d hd=>Z24 hP K b hd) (N+1) seen (N - (k+1)) hl hx
   have hsig:=Z7j (n:=n) hP hc hx h;have hlen:(tr T (N+1) seen (N - (k+1))).length=per T N (N - (k+1)):=congrArg Prod.fst hsig;rw[List.map_cons,List.count_cons,hsig,Nat.mul_add,ih];by_cases hp:PK T N n K b (N - (k+1))=true
   ·rw[if_pos hp,hlen]at hcnt;unfold PK at hp;simp only[bA,decide_eq_true_eq,beq_iff_eq]at hp;rw[if_pos (by simp[hp.1,hp.2])]
    rw[hp.1]at hcnt;omega
   ·rw[if_neg hp]at hcnt;rw[if_neg]
    ·omega
    ·intro e;apply hp;simp only[beq_iff_eq,pI2]at e;unfold PK;simp only[bA,decide_eq_true_eq,beq_iff_eq];exact e
theorem Zu4(K:Nat)(b:Bool):K*((Q5 T N).map (sig n)).count (K,b)=((List.range N).filter (PK T N n K b)).length:=by
 have hg:∀ y,y<N→(List.replicate N false).getD y true=false:=fun y hy=>by rw[List.getD_eq_getElem?_getD,List.getElem?_replicate,if_pos hy]; rfl
 rw[Q5,Zn6 hP K b N _ (Nat.le_refl _) ⟨by simp,fun y hy=>by rw[hg y hy,hg _ (hP.lt y hy)]⟩ (fun y hy=>by omega),Zx0,List.range_eq_range']
end
theorem Ybt{T:Nat→Nat}{N n:Nat}:∀ w,w∈Q5 T N→0<w.length:=by
 have:∀ (k:Nat) (seen:List Bool),∀ w,w∈wks T N k seen→0<w.length:=by
  intro k
  induction k with
  | zero=>intro seen w hw; simp[wks]at hw
  | succ k ih=>
   intro seen w hw;simp only[wks]at hw;cases h:seen.getD (N - (k+1)) true with
   | true=>rw[h,if_pos rfl]at hw; exact ih _ w hw
   | false=>
    rw[h,if_neg (by simp)]at hw
    rcases List.mem_cons.1 hw with rfl|hw
    ·simp only[tr,h,bF,if_false,List.length_cons]; omega
    ·exact ih _ w hw
 exact this N _
structure Opp (T T':Nat→Nat) (N n:Nat) (φ ψ:Nat→Nat):Prop where
 p:Perm1 T N
 q:Perm1 T' N
 lt:∀ x,x<N→φ x<N
 ltr:∀ x,x<N→ψ x<N
 inv:∀ x,x<N→ψ (φ x)=x
 inr:∀ x,x<N→φ (ψ x)=x
 opp:∀ x,x<N→T' (φ (T x))=φ x
 str:∀ x,x<N→(φ x<n↔x<n)
section
variable {T T':Nat→Nat} {N n:Nat} {φ ψ:Nat→Nat} (h:Opp T T' N n φ ψ)
include h
theorem Zqc{x:Nat}(hx:x<N):∀ j,it T' j (φ (it T j x))=φ x
 | 0=>rfl
 | j+1=>by
  have hj:=E3 h.p hx j;rw[show it T' (j+1) (φ (it T (j+1) x))=it T' j (T' (φ (it T (j+1) x))) from(Zgk T' j _).symm]
  show it T' j (T' (φ (T (it T j x))))=φ x;rw[h.opp _ hj];exact Zqc hx j
omit h in
theorem Zr3{T:Nat→Nat}(hp:Perm1 T N):∀ (j:Nat) {x y:Nat},x<N→y<N→it T j x=it T j y→x=y
 | 0,_,_,_,_,e=>e
 | j+1,_,_,hx,hy,e=>Zr3 hp j hx hy (hp.inj _ _ (E3 hp hx j) (E3 hp hy j) e)
theorem Zrm{x:Nat}(hx:x<N)(j:Nat):it T' j (φ x)=φ x↔it T j x=x:=by
 have h1:=Zqc h hx j;have hj:=E3 h.p hx j;constructor
 ·intro e;rw[← h1]at e;have:=Zr3 h.q j (h.lt _ hx) (h.lt _ hj) (by rw[h1]at e ⊢; exact e)
  have e2:=h.inv _ hx;rw[this,h.inv _ hj]at e2;exact e2
 ·intro e;rw[e]at h1;exact h1
theorem Z14{x:Nat}(hx:x<N):per T' N (φ x)=per T N x:=by
 obtain⟨h0,h1,h2⟩:=Zgw h.p hx;exact Zij h0 (Zs2 h.p hx) ((Zrm h hx _).2 h1) fun j a b e=>h2 j a b ((Zrm h hx _).1 e)
theorem Z91{x:Nat}(hx:x<N):Inn T' n (φ x)↔Inn T n x:=by
 obtain⟨h0,h1,_⟩:=Zgw h.p hx;have h1':=(Zrm h hx (per T N x)).2 h1;rw[← Zot h0 h1,← Zot h0 h1'];generalize per T N x=L at *;have key:∀ j,j≤L→it T' j (φ x)=φ (it T (L - j) x):=fun j hj=>by
  have:=Zqc h (E3 h.p hx (L - j)) j;rw[← Zld,show j+(L - j)=L by omega,h1]at this
  exact this
 constructor
 ·intro g j hj;cases j with
  | zero=>
   have:=g 0 h0;exact(h.str x hx).1 this
  | succ j=>
   have:=g (L - (j+1)) (by omega)
   rw[key _ (by omega),show L - (L - (j+1))=j+1 by omega]at this
   exact(h.str _ (E3 h.p hx _)).1 this
 ·intro g j hj;rw[key j (by omega)]
  refine(h.str _ (E3 h.p hx _)).2 ?_;cases j with
  | zero=>rw[Nat.sub_zero,h1]; exact g 0 h0
  | succ j=>exact g _ (by omega)
theorem Zxi{x:Nat}(hx:x<N)(K:Nat)(b:Bool):PK T' N n K b (φ x)=PK T N n K b x:=by
 classical
 unfold PK;rw[Z14 h hx]
 congr 2
 exact decide_eq_decide.2 (Z91 h hx)
omit h in
theorem Zpe{f:Nat→Nat}:∀ {l:List Nat},(∀ x y,x∈l→y∈l→f x=f y→x=y)→l.Nodup→(l.map f).Nodup
 | [],_,_=>by simp
 | a :: r,hf,hn=>by
  obtain⟨h1,h2⟩:=List.nodup_cons.1 hn;rw[List.map_cons,List.nodup_cons];refine⟨fun hm=>?_,Zpe (fun x y hx hy=>hf x y (List.mem_cons_of_mem _ hx) (List.mem_cons_of_mem _ hy)) h2⟩
  obtain⟨y,hy,e⟩:=List.mem_map.1 hm;have:=hf y a (List.mem_cons_of_mem _ hy) (List.mem_cons_self ..) e;subst this;exact h1 hy
theorem Zp5:((Q5 T N).map (sig n)).Perm ((Q5 T' N).map (sig n)):=by
 rw[List.perm_iff_count];rintro⟨K,b⟩;have hc:((List.range N).filter (PK T N n K b)).length=((List.range N).filter (PK T' N n K b)).length:=by
  refine Nat.le_antisymm ?_ ?_
  ·have:=List.Nodup.length_le_of_subset (l₁:=((List.range N).filter (PK T N n K b)).map φ) (l₂:=(List.range N).filter (PK T' N n K b)) (Zpe (fun x y hx hy e=>by
    have hx':=List.mem_range.1 (List.mem_filter.1 hx).1;have hy':=List.mem_range.1 (List.mem_filter.1 hy).1;have:=h.inv x hx';rw[e,h.inv y hy']at this;exact this.symm) (List.nodup_range.filter _)) fun y hy=>by
    obtain⟨x,hx,rfl⟩:=List.mem_map.1 hy;obtain⟨h1,h2⟩:=List.mem_filter.1 hx;have h1:=List.mem_range.1 h1;exact List.mem_filter.2 ⟨List.mem_range.2 (h.lt x h1),by rw[Zxi h h1]; exact h2⟩
   simpa using this
  ·have:=List.Nodup.length_le_of_subset (l₁:=((List.range N).filter (PK T' N n K b)).map ψ) (l₂:=(List.range N).filter (PK T N n K b)) (Zpe (fun x y hx hy e=>by
    have hx':=List.mem_range.1 (List.mem_filter.1 hx).1;have hy':=List.mem_range.1 (List.mem_filter.1 hy).1;have:=h.inr x hx';rw[e,h.inr y hy']at this;exact this.symm) (List.nodup_range.filter _)) fun y hy=>by
    obtain⟨x,hx,rfl⟩:=List.mem_map.1 hy;obtain⟨h1,h2⟩:=List.mem_filter.1 hx;have h1:=List.mem_range.1 h1;refine List.mem_filter.2 ⟨List.mem_range.2 (h.ltr x h1),?_⟩;have:=Zxi h (h.ltr x h1) K b;rw[h.inr x h1]at this;rw[← this]; exact h2
   simpa using this
 have e1:=Zu4 (n:=n) h.p K b;have e2:=Zu4 (n:=n) h.q K b;rcases Nat.eq_zero_or_pos K with h0|h0
 ·subst h0;have z:∀ (T:Nat→Nat),((Q5 T N).map (sig n)).count (0,b)=0:=fun T=>List.count_eq_zero.2 fun hm=>by
   obtain⟨w,hw,e⟩:=List.mem_map.1 hm;have:=Ybt (n:=n) w hw;have e:=congrArg Prod.fst e;simp only[sig]at e;omega
  rw[z,z]
 ·rw[hc,← e2]at e1;exact Nat.eq_of_mul_eq_mul_left h0 e1
end
end Go.Known
end
section
namespace Go.Known
open Go.Plain
section
variable {T:Nat→Nat} {N n:Nat} (hP:Perm1 T N)
include hP
theorem Yem:Clo T N (List.replicate N false):=by
 have hg:∀ y,y<N→(List.replicate N false).getD y true=false:=fun y hy=>by rw[List.getD_eq_getElem?_getD,List.getElem?_replicate,if_pos hy]; rfl
 exact⟨by simp,fun y hy=>by rw[hg y hy,hg _ (hP.lt y hy)]⟩
theorem Zn0:∀ (k:Nat) (seen:List Bool),k≤N→Clo T N seen → ∀ w,w∈wks T N k seen → ∀ d,d∈w→d<N∧T d∈w
 | 0,seen,_,_,w,hw=>by simp[wks]at hw
 | k+1,seen,hk,hc,w,hw=>by
  have hx:N - (k+1)<N:=by omega
  simp only[wks]at hw;cases h:seen.getD (N - (k+1)) true with
  | true=>
   rw[h,if_pos rfl]at hw;exact Zn0 k seen (by omega) hc w hw
  | false=>
   rw[h,if_neg (by simp)]at hw
   rcases List.mem_cons.1 hw with rfl|hw
   ·obtain⟨L,h0,h1,h2,h3,h4,h5⟩:=Zjv hP hc hx h;rw[h4];intro d hd;obtain⟨j,hj,rfl⟩:=List.mem_map.1 hd;have hj:j<L:=by simpa using hj
    refine⟨E3 hP hx j,List.mem_map.2 ?_⟩;rcases Nat.lt_or_ge (j+1) L with h'|h'
    ·exact⟨j+1,by simpa using h',rfl⟩
    ·have:L=j+1:=by omega
     subst this;exact⟨0,by simp,h2.symm⟩
   ·exact Zn0 k _ (by omega) (Zz4 hP hc hx h) w hw
theorem Yee:∀ w,w∈Q5 T N → ∀ d,d∈w→d<N∧T d∈w:=Zn0 hP N _ (Nat.le_refl _) (Yem hP)
end
theorem Ycx(out:List Nat)(p q:Pol):A1 (A1 out p) q=A1 (A1 out q) p:=by
 unfold A1;cases p.2.2<;>cases q.2.2<;>simp only[bF,if_false,if_true]
 unfold E4;by_cases h:p.1=q.1
 ·rw[h]
 ·rw[List.set_comm _ _ h]
  congr 2
  ·simp only[List.getD_eq_getElem?_getD,List.getElem?_set_ne h]
  ·simp only[List.getD_eq_getElem?_getD,List.getElem?_set_ne (fun e=>h e.symm)]
theorem Ybf(m:Nat)(p q:Pol):mxS (mxS m p) q=mxS (mxS m q) p:=by
 unfold mxS;split<;>split<;>omega
theorem Z3j{l m:List Pol}(h:l.Perm m):C7 l=C7 m:=by
 rw[← Zsx,← Zsx];unfold patR;have e:mxP l=mxP m:=h.foldl_eq' (fun x _ y _ z=>Ybf z x y) 0
 rw[e];exact h.foldl_eq' (fun x _ y _ z=>Ycx z x y) _
def sigP(s:Nat×Bool):Pol:=(s.1,s.1,s.2)
section
variable {ls:List Lt}
theorem Ye2(hP:Perm1 (Y3 ls (Z2 ls)) (2*ls.length+2*Z1 ls)){w:List Nat}(hw:w∈Q5 (Y3 ls (Z2 ls)) (2*ls.length+2*Z1 ls))(hin:(w.all fun d=>decide (d<2*ls.length))=true):Zaj ls w=w.length:=by
 unfold Zaj;rw[List.filter_eq_self.2];intro d hd;have hall:=List.all_eq_true.1 hin;have h1:d<2*ls.length:=by simpa using hall d hd
 have h2:Y3 ls (Z2 ls) d<2*ls.length:=by simpa using hall _ (Yee hP w hw d hd).2
 unfold isC;rw[beq_iff_eq];refine Classical.byContradiction fun hk=>?_
 rw[Zfm h1,if_neg hk]at h2;split at h2<;>omega
theorem Z9l{n:Nat}{w:List Nat}(h:(w.all fun d=>decide (d<n))=true):D4 n w=(w,false):=by
 have hall:=List.all_eq_true.1 h;unfold D4;rw[List.filter_eq_self.2 hall]
 congr 1
 rw[List.any_eq_false];intro d hd;have:d<n:=by simpa using hall d hd
 simp;exact this
theorem Z8j{n:Nat}{w:List Nat}(h:¬(w.all fun d=>decide (d<n))=true):(D4 n w).2=true:=by
 unfold D4;rw[List.all_eq_true]at h;rw[List.any_eq_true];refine Classical.byContradiction fun hn=>h fun d hd=>?_
 rw[decide_eq_true_eq];refine Classical.byContradiction fun hd2=>hn ⟨d,hd,?_⟩
 rw[decide_eq_true_eq];omega
theorem Zui(h0:0<Z1 ls)(hk:∀ v,v<ls.length→(at' ls v).k≠2→(at' ls v).k=1)(hP:Perm1 (Y3 ls (Z2 ls)) (2*ls.length+2*Z1 ls)) :
 C7 (Zes ls)=C7 (((Q5 (Y3 ls (Z2 ls)) (2*ls.length+2*Z1 ls)).map (sig (2*ls.length))).map sigP):=by
 unfold Zes C7;rw[← Zs6 h0 hk,List.map_map,List.map_map];have hc:=fun w hw=>Ye2 hP (w:=w) hw
 generalize Q5 (Y3 ls (Z2 ls)) (2*ls.length+2*Z1 ls)=W at *;have:∀ (V:List (List Nat)) (out:List Nat),(∀ w,w∈V→w∈W)→(V.map (I5 ls∘D4 (2*ls.length))).foldl R1 out=(V.map (sigP∘sig (2*ls.length))).foldl R1 out:=by
  intro V
  induction V with
  | nil=>intro out _; rfl
  | cons w V ih=>
   intro out hV;have hw:=hV w (List.mem_cons_self ..);have e:R1 out ((I5 ls∘D4 (2*ls.length)) w)=R1 out ((sigP∘sig (2*ls.length)) w):=by
    simp only[Function.comp];by_cases hin:(w.all fun d=>decide (d<2*ls.length))=true
    ·rw[Z9l hin];have:=hc w hw hin;unfold I5 sigP sig R1;simp only[this,hin,Bool.not_false,if_true]
    ·have h2:=Z8j hin;simp only[Bool.not_eq_true]at hin;unfold I5 sigP sig R1;simp only[h2,hin,Bool.not_true,bF,if_false]
   simp only[List.map_cons,List.foldl_cons];rw[e];exact ih _ fun w hw=>hV w (List.mem_cons_of_mem _ hw)
 exact this W [] fun w hw=>hw
theorem Z4p{ls':List Lt}{φ ψ:Nat→Nat}(h0:0<Z1 ls)(hk:∀ v,v<ls.length→(at' ls v).k≠2→(at' ls v).k=1)(hk':∀ v,v<ls'.length→(at' ls' v).k≠2→(at' ls' v).k=1)
 (hl:ls'.length=ls.length) (hp:Z1 ls'=Z1 ls) (h:Opp (Y3 ls (Z2 ls)) (Y3 ls' (Z2 ls')) (2*ls.length+2*Z1 ls) (2*ls.length) φ ψ) :
 C7 (Zes ls')=C7 (Zes ls)∧I0 (Y3 ls' (Z2 ls')) (2*ls.length+2*Z1 ls)=I0 (Y3 ls (Z2 ls)) (2*ls.length+2*Z1 ls):=by
 have hw:=Zp5 h;have e1:=Zui h0 hk h.p;have e2:=Zui (ls:=ls') (by omega) hk' (by rw[hl,hp]; exact h.q)
 rw[hl,hp]at e2;refine⟨by rw[e1,e2]; exact(Z3j (hw.map sigP)).symm,?_⟩
 have hlen:=hw.length_eq;rw[List.length_map,List.length_map]at hlen;unfold Q5 at hlen;rw[Zez,Zez]at hlen;exact hlen.symm
end
end Go.Known
end
section
namespace Go.Known
open Go.Plain
def arr(n v:Nat)(b:Bool):Nat:=if b then 2*((v+n - 1) % n)else 2*v+1
theorem Zer{n v:Nat}(hv:v<n)(b:Bool):arr n v b<2*n∧X3 n (arr n v b)=v∧(arr n v b % 2 == 0)=b:=by
 cases b with
 | true=>
  have hm:=Nat.mod_lt (v+n - 1) (show 0<n by omega)
  have e:(v+n - 1) % n=if v=0 then n - 1 else v - 1:=by
   split
   ·rename_i h; subst h; rw[Nat.zero_add,Nat.mod_eq_of_lt (by omega)]
   ·have:v+n - 1=(v - 1)+n:=by omega
    rw[this,Nat.add_mod_right,Nat.mod_eq_of_lt (by omega)]
  unfold arr X3;simp only[if_true];refine⟨by omega,?_,by simp⟩
  rw[if_pos (by omega),show 2*((v+n - 1) % n) / 2=(v+n - 1) % n by omega,e]
  split
  ·rename_i h; subst h; rw[show n - 1+1=n by omega,Nat.mod_self]
  ·rw[show v - 1+1=v by omega,Nat.mod_eq_of_lt hv]
 | false=>
  unfold arr X3;simp only[bF,if_false];refine⟨by omega,?_,by simp⟩
  rw[if_neg (by omega)]
  omega
theorem B5{n d:Nat}(hd:d<2*n):∃ v b,v<n∧d=arr n v b:=by
 have hh:=Zah hd;obtain⟨h1,h2,h3⟩:=Zer hh (d % 2 == 0);refine⟨X3 n d,(d % 2 == 0),hh,Zqx hd h1 h2.symm ?_⟩;generalize arr n (X3 n d) (d % 2 == 0)=y at *;rcases Nat.mod_two_eq_zero_or_one d with e|e<;>rcases Nat.mod_two_eq_zero_or_one y with e'|e'<;>rw[e,e']at h3 ⊢ <;> simp at h3
section
variable {ls:List Lt}
theorem Zff{v:Nat}(hv:v<ls.length)(b:Bool):Y3 ls (Z2 ls) (arr ls.length v b)=if (at' ls v).k=2 then U3 ls.length (W1 ls v ls.length 0) (b == ((at' ls v).o == ((at' ls v).s == 1)))
 else if down ls v=b then 2*ls.length+2*U1 v (Z2 ls)else 2*ls.length+2*((U1 v (Z2 ls)+Z1 ls - 1) % Z1 ls)+1:=by
 obtain⟨h1,h2,h3⟩:=Zer hv b;rw[Zfm h1,h2,h3,O6]
theorem Ziz{p:Nat}:Y3 ls (Z2 ls) (2*ls.length+2*p)=U3 ls.length ((Z2 ls).getD ((p+1) % Z1 ls) 0) (!down ls ((Z2 ls).getD ((p+1) % Z1 ls) 0)):=by
 unfold Y3;rw[if_pos (by omega),if_pos (by omega),O6,show (2*ls.length+2*p - 2*ls.length) / 2=p by omega]
theorem Ziy{p:Nat}:Y3 ls (Z2 ls) (2*ls.length+2*p+1)=U3 ls.length ((Z2 ls).getD p 0) (down ls ((Z2 ls).getD p 0)):=by
 unfold Y3;rw[if_pos (by omega),if_neg (by omega),show (2*ls.length+2*p+1 - 2*ls.length) / 2=p by omega]
structure Wv (ls:List Lt):Prop where
 pas:0<Z1 ls
 kin:∀ v,v<ls.length→(at' ls v).k≠2→(at' ls v).k=1
 oth:∀ v,v<ls.length→(at' ls v).k=2→W1 ls v ls.length 0<ls.length∧(at' ls (W1 ls v ls.length 0)).k=2∧W1 ls (W1 ls v ls.length 0) ls.length 0=v ∧
  (at' ls (W1 ls v ls.length 0)).o=(!(at' ls v).o)∧(at' ls (W1 ls v ls.length 0)).s=(at' ls v).s
structure Img (ls ls':List Lt) (ρ σ:Nat→Nat) (fl:Bool):Prop where
 wv:Wv ls
 len:ls'.length=ls.length
 pas:Z1 ls'=Z1 ls
 lt:∀ v,v<ls.length→ρ v<ls.length
 ltr:∀ v,v<ls.length→σ v<ls.length
 inv:∀ v,v<ls.length→σ (ρ v)=v
 inr:∀ v,v<ls.length→ρ (σ v)=v
 pre:∀ v,v<ls.length→ρ ((v+ls.length - 1) % ls.length)=(ρ v+ls.length - 1) % ls.length
 kin:∀ v,v<ls.length→(at' ls' (ρ v)).k=(at' ls v).k
 oth:∀ v,v<ls.length→(at' ls v).k=2→W1 ls' (ρ v) ls.length 0=ρ (W1 ls v ls.length 0)
 ov:∀ v,v<ls.length→(at' ls v).k=2→((at' ls' (ρ v)).o == ((at' ls' (ρ v)).s == 1)) = !((at' ls v).o == ((at' ls v).s == 1))
 dn:∀ v,v<ls.length→(at' ls v).k=1→down ls' (ρ v)=(down ls v != fl)
 idx:∀ v,v<ls.length→(at' ls v).k=1→U1 (ρ v) (Z2 ls')=if fl then U1 v (Z2 ls)else Z1 ls - 1 - U1 v (Z2 ls)
def phi(n m:Nat)(fl:Bool)(ρ:Nat→Nat)(d:Nat):Nat:=
 if d<2*n then (if d % 2=0 then 2*ρ (d / 2)+1 else 2*ρ (d / 2))
 else if fl then (if d % 2=0 then d+1 else d - 1)else if d % 2=0 then 2*n+2*((2*m - 2 - (d - 2*n) / 2) % m)else 2*n+2*((2*m - 2 - (d - 2*n) / 2) % m)+1
theorem Zgx{m p:Nat}(hp:p<m):(2*m - 2 - p) % m=if p=m - 1 then m - 1 else m - 2 - p:=by
 split
 ·rename_i h; subst h; rw[show 2*m - 2 - (m - 1)=m - 1 by omega,Nat.mod_eq_of_lt (by omega)]
 ·rw[show 2*m - 2 - p=(m - 2 - p)+m by omega,Nat.add_mod_right,Nat.mod_eq_of_lt (by omega)]
theorem Zol{n m:Nat}{fl:Bool}{ρ:Nat→Nat}(hρ:∀ v,v<n→ρ v<n){x:Nat}(hx:x<2*n+2*m):phi n m fl ρ x<2*n+2*m:=by
 unfold phi;split
 ·have:=hρ (x / 2) (by omega)
  split<;>omega
 ·split
  ·split<;>omega
  ·have:=Nat.mod_lt (2*m - 2 - (x - 2*n) / 2) (show 0<m by omega)
   split<;>omega
theorem Z34{n m:Nat}{fl:Bool}{ρ:Nat→Nat}(hρ:∀ v,v<n→ρ v<n){x:Nat}(hx:x<2*n+2*m):phi n m fl ρ x<2*n↔x<2*n:=by
 unfold phi;split
 ·rename_i h;have:=hρ (x / 2) (by omega)
  constructor
  ·intro _; exact h
  ·intro _; split<;>omega
 ·rename_i h;constructor
  ·intro h2;split at h2
   ·split at h2<;>omega
   ·split at h2<;>omega
  ·intro h2; omega
theorem Zzq{n m:Nat}{fl:Bool}{ρ σ:Nat→Nat}(hρ:∀ v,v<n→ρ v<n)(hσ:∀ v,v<n→σ (ρ v)=v){x:Nat}(hx:x<2*n+2*m):phi n m fl σ (phi n m fl ρ x)=x:=by
 by_cases h:x<2*n
 ·have h1:=hρ (x / 2) (by omega)
  have h2:=hσ (x / 2) (by omega)
  rcases Nat.mod_two_eq_zero_or_one x with e|e
  ·have e1:phi n m fl ρ x=2*ρ (x / 2)+1:=by unfold phi; rw[if_pos h,if_pos e]
   rw[e1];unfold phi;rw[if_pos (by omega),if_neg (by omega),show (2*ρ (x / 2)+1) / 2=ρ (x / 2) by omega,h2]
   omega
  ·have e1:phi n m fl ρ x=2*ρ (x / 2):=by unfold phi; rw[if_pos h,if_neg (by omega)]
   rw[e1];unfold phi;rw[if_pos (by omega),if_pos (by omega),show (2*ρ (x / 2)) / 2=ρ (x / 2) by omega,h2]
   omega
 ·obtain⟨p,hp⟩:∃ p,(x - 2*n) / 2=p:=⟨_,rfl⟩
  have hpm:p<m:=by omega
  cases fl with
  | true=>
   unfold phi;rcases Nat.mod_two_eq_zero_or_one x with e|e
   ·simp only[if_neg h,if_true,if_pos e];rw[if_neg (by omega),if_neg (by omega)]
    omega
   ·simp only[if_neg h,if_true,if_neg (show ¬x % 2=0 by omega)]
    rw[if_neg (by omega),if_pos (by omega)]
    omega
  | false=>
   obtain⟨q,hq⟩:∃ q,(2*m - 2 - p) % m=q:=⟨_,rfl⟩
   have hqm:q<m:=by rw[← hq]; exact Nat.mod_lt _ (by omega)
   have hqp:(2*m - 2 - q) % m=p:=by
    rw[Zgx hpm]at hq;rw[Zgx hqm];split at hq<;>split<;>omega
   unfold phi;rcases Nat.mod_two_eq_zero_or_one x with e|e
   ·simp only[if_neg h,bF,if_false,if_pos e,hp,hq];rw[if_neg (by omega),if_pos (by omega),show (2*n+2*q - 2*n) / 2=q by omega,hqp]
    omega
   ·simp only[if_neg h,bF,if_false,if_neg (show ¬x % 2=0 by omega),hp,hq]
    rw[if_neg (by omega),if_neg (by omega),show (2*n+2*q+1 - 2*n) / 2=q by omega,hqp]
    omega
theorem Zqu{n m:Nat}{fl:Bool}{ρ:Nat→Nat}{v:Nat}(hv:v<n)(hpre:ρ ((v+n - 1) % n)=(ρ v+n - 1) % n)(b:Bool):phi n m fl ρ (U3 n v b)=arr n (ρ v) (!b):=by
 have hm:=Nat.mod_lt (v+n - 1) (show 0<n by omega)
 cases b with
 | true=>
  unfold U3 phi arr;simp only[if_true,Bool.not_true,bF,if_false];rw[if_pos (by omega),if_pos (by omega),show 2*v / 2=v by omega]
 | false=>
  unfold U3 phi arr;simp only[if_true,Bool.not_false,bF,if_false];rw[if_pos (by omega),if_neg (by omega),show (2*((v+n - 1) % n)+1) / 2=(v+n - 1) % n by omega,hpre]
theorem Ydx{n m:Nat}{fl:Bool}{ρ:Nat→Nat}{v:Nat}(hv:v<n)(hpre:ρ ((v+n - 1) % n)=(ρ v+n - 1) % n)(b:Bool):phi n m fl ρ (arr n v b)=U3 n (ρ v) (!b):=by
 have hm:=Nat.mod_lt (v+n - 1) (show 0<n by omega)
 cases b with
 | true=>
  unfold U3 phi arr;simp only[if_true,Bool.not_true,bF,if_false];rw[if_pos (by omega),if_pos (by omega),show 2*((v+n - 1) % n) / 2=(v+n - 1) % n by omega,hpre]
 | false=>
  unfold U3 phi arr;simp only[if_true,Bool.not_false,bF,if_false];rw[if_pos (by omega),if_neg (by omega),show (2*v+1) / 2=v by omega]
theorem Zu9{n m p:Nat}{fl:Bool}{ρ:Nat→Nat}:phi n m fl ρ (2*n+2*p)=if fl then 2*n+2*p+1 else 2*n+2*((2*m - 2 - p) % m):=by
 have e1:¬2*n+2*p<2*n:=by omega
 have e2:(2*n+2*p) % 2=0:=by omega
 have e3:(2*n+2*p - 2*n) / 2=p:=by omega
 unfold phi;rw[if_neg e1,if_pos e2,if_pos e2,e3]
theorem Zvy{n m p:Nat}{fl:Bool}{ρ:Nat→Nat}:phi n m fl ρ (2*n+2*p+1)=if fl then 2*n+2*p else 2*n+2*((2*m - 2 - p) % m)+1:=by
 have e1:¬2*n+2*p+1<2*n:=by omega
 have e2:¬(2*n+2*p+1) % 2=0:=by omega
 have e3:(2*n+2*p+1 - 2*n) / 2=p:=by omega
 unfold phi;rw[if_neg e1,if_neg e2,if_neg e2,e3];rfl
theorem Zlk{ls:List Lt}{v:Nat}(hv:v<ls.length)(hk:(at' ls v).k=1):U1 v (Z2 ls)<Z1 ls∧(Z2 ls).getD (U1 v (Z2 ls)) 0=v:=by
 have hm:v∈Z2 ls:=mem_axis.2 ⟨hv,by simp[isP,hk]⟩
 refine⟨by rw[← O6]; exact Zix hm,?_⟩
 rw[List.getD,(Zax hm).1]; rfl
theorem Zho{ls:List Lt}{p:Nat}(hp:p<Z1 ls):∃ v,v<ls.length∧(at' ls v).k=1∧(Z2 ls).getD p 0=v∧U1 v (Z2 ls)=p:=by
 have hg:(Z2 ls)[p]? = some ((Z2 ls).getD p 0):=by rw[List.getD,gE (by rw[O6]; exact hp)]; rfl
 have hm:=List.mem_of_getElem? hg;obtain⟨h1,h2⟩:=mem_axis.1 hm;exact⟨_,h1,by simpa[isP]using h2,rfl,Zjk (Zga ls) (Zax hm).1 hg⟩
theorem Zim{m p:Nat}(hp:p<m):(p+1) % m=if p=m - 1 then 0 else p+1:=by
 split
 ·rename_i h; subst h; rw[show m - 1+1=m by omega,Nat.mod_self]
 ·rw[Nat.mod_eq_of_lt (by omega)]
theorem Ze7{m p:Nat}(hp:p<m):(p+m - 1) % m=if p=0 then m - 1 else p - 1:=by
 split
 ·rename_i h; subst h; rw[Nat.zero_add,Nat.mod_eq_of_lt (by omega)]
 ·rw[show p+m - 1=(p - 1)+m by omega,Nat.add_mod_right,Nat.mod_eq_of_lt (by omega)]
section
variable {ls ls':List Lt} {ρ σ:Nat→Nat} {fl:Bool} (h:Img ls ls' ρ σ fl)
include h
theorem Ycd{v:Nat}(hv:v<ls.length):(at' ls v).k=2∨(at' ls v).k=1:=by
 rcases Decidable.em ((at' ls v).k=2)with e|e
 ·exact .inl e
 ·exact .inr (h.wv.kin v hv e)
theorem Zh9{x:Nat}(hx:x<2*ls.length+2*Z1 ls):Y3 ls' (Z2 ls') (phi ls.length (Z1 ls) fl ρ (Y3 ls (Z2 ls) x))=phi ls.length (Z1 ls) fl ρ x:=by
 have hlen:=h.len;have hpas:=h.pas;have himg:∀ v,v<ls.length→(at' ls v).k=1 → ∀ b,Y3 ls' (Z2 ls') (arr ls.length (ρ v) b)=if (down ls v != fl)=b then 2*ls.length+2*U1 (ρ v) (Z2 ls')else 2*ls.length+2*((U1 (ρ v) (Z2 ls')+Z1 ls - 1) % Z1 ls)+1:=by
  intro v hv hk b;have:=Zff (ls:=ls') (v:=ρ v) (by rw[hlen]; exact h.lt v hv) b
  rw[hlen,hpas,h.kin v hv,hk,h.dn v hv hk]at this;rw[this,if_neg (by decide)]
 by_cases hs:x<2*ls.length
 ·obtain⟨v,b,hv,rfl⟩:=B5 hs;rw[Ydx hv (h.pre v hv)];rcases Ycd h hv with hk|hk
  ·obtain⟨w1,w2,w3,w4,w5⟩:=h.wv.oth v hv hk;have ho:=h.oth _ w1 w2;rw[w3]at ho;rw[Zff hv,if_pos hk,Zqu w1 (h.pre _ w1)];have:=Zff (ls:=ls') (v:=ρ (W1 ls v ls.length 0)) (by rw[hlen]; exact h.lt _ w1)
   rw[hlen]at this;rw[this,h.kin _ w1,if_pos w2,ho,h.ov _ w1 w2,w4,w5]
   congr 1
   cases b<;>cases (at' ls v).o<;>cases ((at' ls v).s == 1)<;>rfl
  ·obtain⟨hi,hg⟩:=Zlk hv hk;have hi':=h.idx v hv hk;obtain⟨hj,hg'⟩:=Zlk (ls:=ls') (v:=ρ v) (by rw[hlen]; exact h.lt v hv) (by rw[h.kin v hv]; exact hk)
   have hd:=h.dn v hv hk;rw[hpas]at hj;have tr:=fun p=>Ziz (ls:=ls') (p:=p)
   have tl:=fun p=>Ziy (ls:=ls') (p:=p)
   rw[hlen]at tr tl;rw[hpas]at tr;rw[Zff hv,if_neg (by omega)]
   have key:∀ q,q=U1 (ρ v) (Z2 ls')→(Z2 ls').getD q 0=ρ v:=fun q e=>by rw[e,hg']
   by_cases hdb:down ls v=b
   ·rw[if_pos hdb,Zu9];cases fl with
    | true=>
     rw[if_pos rfl,tl,key _ (by rw[hi',if_pos rfl]),hd,hdb]
     cases b<;>rfl
    | false=>
     have e:((2*Z1 ls - 2 - U1 v (Z2 ls)) % Z1 ls+1) % Z1 ls=U1 (ρ v) (Z2 ls'):=by
      rw[hi',Zgx hi];simp only[bF,if_false];split
      ·rw[Zim (by omega)]; split<;>omega
      ·rw[Zim (by omega)]; split<;>omega
     rw[if_neg (by decide),tr,key _ e,hd,hdb]
     cases b<;>rfl
   ·have hdb':down ls v = !b:=by revert hdb; cases down ls v<;>cases b<;>simp
    rw[if_neg hdb,Zvy];cases fl with
    | true=>
     have e:((U1 v (Z2 ls)+Z1 ls - 1) % Z1 ls+1) % Z1 ls=U1 (ρ v) (Z2 ls'):=by
      rw[hi',Ze7 hi,if_pos rfl];split
      ·rw[Zim (by omega)]; split<;>omega
      ·rw[Zim (by omega)]; split<;>omega
     rw[if_pos rfl,tr,key _ e,hd,hdb'];cases b<;>rfl
    | false=>
     have hm:=Nat.mod_lt (U1 v (Z2 ls)+Z1 ls - 1) h.wv.pas;have e:(2*Z1 ls - 2 - (U1 v (Z2 ls)+Z1 ls - 1) % Z1 ls) % Z1 ls=U1 (ρ v) (Z2 ls'):=by
      rw[hi',Zgx hm,Ze7 hi];simp only[bF,if_false];split<;>split<;>omega
     rw[if_neg (by decide),tl,key _ e,hd,hdb']
     cases b<;>rfl
 ·obtain⟨p,hp⟩:∃ p,(x - 2*ls.length) / 2=p:=⟨_,rfl⟩
  have hpm:p<Z1 ls:=by omega
  rcases Nat.mod_two_eq_zero_or_one x with e0|e0
  ·have ex:x=2*ls.length+2*p:=by omega
   subst ex;have hq:=Nat.mod_lt (p+1) h.wv.pas;obtain⟨v,hv,hk,hg,hi⟩:=Zho hq;rw[Ziz,hg,Zqu hv (h.pre v hv),himg v hv hk,h.idx v hv hk,hi,Zu9];rw[Zim hpm];cases fl with
   | true=>
    rw[if_neg (by cases down ls v<;>decide)]
    simp only[if_true]
    congr 2
    split
    ·rw[Ze7 (by omega)]; split<;>omega
    ·rw[Ze7 (by omega)]; split<;>omega
   | false=>
    rw[if_pos (by cases down ls v<;>decide)]
    simp only[bF,if_false]
    congr 2
    rw[Zgx hpm];split<;>omega
  ·have ex:x=2*ls.length+2*p+1:=by omega
   subst ex;obtain⟨v,hv,hk,hg,hi⟩:=Zho hpm;rw[Ziy,hg,Zqu hv (h.pre v hv),himg v hv hk,h.idx v hv hk,hi,Zvy];cases fl with
   | true=>
    rw[if_pos (by cases down ls v<;>decide)]
    simp only[if_true]
   | false=>
    rw[if_neg (by cases down ls v<;>decide)]
    simp only[bF,if_false]
    congr 2
    rw[Zgx hpm,Ze7 (by omega)]
    split<;>split<;>omega
theorem Z6y:Opp (Y3 ls (Z2 ls)) (Y3 ls' (Z2 ls')) (2*ls.length+2*Z1 ls) (2*ls.length) (phi ls.length (Z1 ls) fl ρ) (phi ls.length (Z1 ls) fl σ):=by
 obtain⟨_,h2,_,_⟩:=Zg3 h.wv.pas h.wv.kin;have hk':∀ v,v<ls'.length→(at' ls' v).k≠2→(at' ls' v).k=1:=fun v hv hk=>by
  rw[h.len]at hv;have e:=h.inr v hv;rw[← e]at hk ⊢;rw[h.kin _ (h.ltr v hv)]at hk ⊢;exact h.wv.kin _ (h.ltr v hv) hk
 obtain⟨_,g2,_,_⟩:=Zg3 (ls:=ls') (by rw[h.pas]; exact h.wv.pas) hk'
 rw[h.len,h.pas]at g2;have hφ:∀ x,x<2*ls.length+2*Z1 ls→phi ls.length (Z1 ls) fl σ (phi ls.length (Z1 ls) fl ρ x)=x:=fun x hx=>Zzq h.lt h.inv hx
 have hψ:∀ x,x<2*ls.length+2*Z1 ls→phi ls.length (Z1 ls) fl ρ (phi ls.length (Z1 ls) fl σ x)=x:=fun x hx=>Zzq h.ltr h.inr hx
 have hp:Perm1 (Y3 ls (Z2 ls)) (2*ls.length+2*Z1 ls):=⟨h2,fun y y' hy hy' e=>by
  have e1:=Zh9 h hy;have e2:=Zh9 h hy';rw[e]at e1;have e3:phi ls.length (Z1 ls) fl ρ y=phi ls.length (Z1 ls) fl ρ y':=by rw[← e1,← e2]
  have:=hφ y hy;rw[e3,hφ y' hy']at this;exact this.symm⟩
 have sur:∀ y,y<2*ls.length+2*Z1 ls → ∃ x,x<2*ls.length+2*Z1 ls∧phi ls.length (Z1 ls) fl ρ (Y3 ls (Z2 ls) x)=y:=fun y hy=>by
  have hz:=Zol (fl:=fl) (m:=Z1 ls) h.ltr hy;obtain⟨q0,q1,_⟩:=Zgw hp hz;refine⟨it (Y3 ls (Z2 ls)) (per (Y3 ls (Z2 ls)) (2*ls.length+2*Z1 ls) (phi ls.length (Z1 ls) fl σ y) - 1) (phi ls.length (Z1 ls) fl σ y),E3 hp hz _,?_⟩;have e:Y3 ls (Z2 ls) (it (Y3 ls (Z2 ls)) (per (Y3 ls (Z2 ls)) (2*ls.length+2*Z1 ls) (phi ls.length (Z1 ls) fl σ y) - 1) (phi ls.length (Z1 ls) fl σ y))=it (Y3 ls (Z2 ls)) (per (Y3 ls (Z2 ls)) (2*ls.length+2*Z1 ls) (phi ls.length (Z1 ls) fl σ y) - 1+1) (phi ls.length (Z1 ls) fl σ y):=rfl
  rw[e,show per (Y3 ls (Z2 ls)) (2*ls.length+2*Z1 ls) (phi ls.length (Z1 ls) fl σ y) - 1+1=per (Y3 ls (Z2 ls)) (2*ls.length+2*Z1 ls) (phi ls.length (Z1 ls) fl σ y) by omega,q1]
  exact hψ y hy
 refine⟨hp,⟨g2,fun y y' hy hy' e=>?_⟩,fun x hx=>Zol h.lt hx,fun x hx=>Zol h.ltr hx,hφ,hψ,fun x hx=>Zh9 h hx,fun x hx=>Z34 h.lt hx⟩
 obtain⟨x,hx,rfl⟩:=sur y hy;obtain⟨x',hx',rfl⟩:=sur y' hy';rw[Zh9 h hx,Zh9 h hx']at e;have:=hφ x hx;rw[e,hφ x' hx']at this;rw[this]
end
end
end Go.Known
end
