/- Part 22 of the proof: Pk, Pl, Pm. -/
import Derived.Test.YtilmpmlkndfbjaaGreatDoorK19
import Derived.Test.YtilmpmlkndfbjaaGreatDoorK21
set_option linter.all false
section
namespace Go.Ab
open Go.Plain
def it(T:Nat→Nat):Nat→Nat→Nat
 | 0,x=>x
 | j+1,x=>T (it T j x)
theorem MR(T:Nat→Nat):∀ (j x:Nat),it T j (T x)=T (it T j x)
 | 0,_=>rfl
 | j+1,x=>by simp only[it]; rw[MR T j x]
theorem Nn(T:Nat→Nat)(x:Nat):∀ (i j:Nat),it T (i+j) x=it T i (it T j x)
 | 0,j=>by rw[Nat.zero_add]; rfl
 | i+1,j=>by rw[Nat.succ_add]; simp only[it]; rw[Nn T x i j]
def EZ(T:Nat→Nat)(N x:Nat):Nat:=(((List.range (N+1)).find? fun j=>it T (j+1) x == x).map (· + 1)).getD 0
theorem SG{T:Nat→Nat}{N L x:Nat}(h0:0<L)(hL:L≤N+1)(h1:it T L x=x)(h2:∀ j,0<j→j<L→it T j x≠x):EZ T N x=L:=by
 unfold EZ;have:(List.range (N+1)).find? (fun j=>it T (j+1) x == x)=some (L - 1):=by
  rw[List.find?_range_eq_some];refine⟨?_,by simp; omega,fun j hj=>?_⟩
  ·rw[show L - 1+1=L by omega,h1]; simp
  ·have:=h2 (j+1) (by omega) (by omega)
   simpa using this
 grind
def Mz(T:Nat→Nat)(n x:Nat):Prop:=∀ j,it T j x<n
structure Cn (T:Nat→Nat) (N:Nat):Prop where
 lt:∀ d,d<N→T d<N
 inj:∀ y y',y<N→y'<N→T y=T y'→y=y'
structure Jp (T:Nat→Nat) (N:Nat) (seen:List Bool):Prop where
 len:seen.length=N
 same:∀ y,y<N→seen.getD (T y) true=seen.getD y true
section
variable {T:Nat→Nat} {N n:Nat} (hP:Cn T N)
include hP
theorem H0{x:Nat}(hx:x<N):∀ j,it T j x<N
 | 0=>hx
 | j+1=>hP.lt _ (H0 hx j)
theorem pH{S:List Bool}(hc:Jp T N S){x:Nat}(hx:x<N):∀ j,S.getD (it T j x) true=S.getD x true
 | 0=>rfl
 | j+1=>by simp only[it]; rw[hc.same _ (H0 hP hx j),pH hc hx j]
theorem Z5t{S:List Bool}(hc:Jp T N S){x:Nat}(hx:x<N)(Lj:S.getD x true=false) :
 ∀(k i:Nat) (seen:List Bool),seen.length=N→Kp seen<k→0<i→(∀ y,y<N→(seen.getD y true=true↔S.getD y true=true ∨ ∃ j,j<i∧it T j x=y))→(∀ a b,a<b→b<i→it T a x≠it T b x) →
  ∃ L,i≤L∧it T L x=x∧(∀ j,0<j→j<L→it T j x≠x)∧tr T k seen (it T i x)=(List.range' i (L - i)).map (fun j=>it T j x) ∧
   ∀ y,y<N→((Plain.mark T k seen (it T i x)).getD y true=true↔S.getD y true=true ∨ ∃ j,j<L∧it T j x=y):=by
 intro k
 induction k with
 | zero=>intro i seen _ h; omega
 | succ k ih=>
  intro i seen hs hu hi hseen hd;have hyN:=H0 hP hx i;cases hy:seen.getD (it T i x) true with
  | true=>
   rcases (hseen _ hyN).1 hy with h1|⟨j,hj,h1⟩
   ·rw[pH hP hc hx,Lj]at h1; cases h1
   ·have hj0:j=0:=by
     rcases Nat.eq_zero_or_pos j with h|h
     ·exact h
     ·exfalso;obtain⟨j',rfl⟩:∃ j',j=j'+1:=⟨j - 1,by omega⟩
      obtain⟨i',rfl⟩:∃ i',i=i'+1:=⟨i - 1,by omega⟩
      have:=hP.inj _ _ (H0 hP hx j') (H0 hP hx i') h1
      grind
    subst hj0;refine⟨i,lR _,h1.symm,fun j h0 hj e=>hd 0 j h0 hj e.symm,?_,?_⟩
    ·simp only[tr,hy,if_true,Nat.sub_self,List.range'_zero,List.map_nil]
    ·simp only[Plain.mark,hy,if_true];exact hseen
  | false=>
   have hun:=nB (by omega) hy
   obtain⟨L,hL,g1,g2,g3,g4⟩:=ih (i+1) (seen.set (it T i x) true) (by simpa using hs) (by omega) (by omega) (fun y hyN'=>by
    rw[Nj (by omega)]
    simp only[Bool.or_eq_true,decide_eq_true_eq];rw[hseen y hyN'];constructor
    ·rintro((h|⟨j,hj,h⟩)|h)
     ·exact .inl h
     ·exact .inr ⟨j,by omega,h⟩
     ·exact .inr ⟨i,by omega,h.symm⟩
    grind) (fun a b hab hb e=>by
    grind)
   refine⟨L,by omega,g1,g2,?_,?_⟩
   ·rw[show L - i=(L - (i+1))+1 by omega,List.range'_succ]
    simp only[tr,hy,bF,if_false,List.map_cons]
    congr 1
   ·simp only[Plain.mark,hy,bF,if_false];exact g4
theorem QJ{S:List Bool}(hc:Jp T N S){x:Nat}(hx:x<N)(Lj:S.getD x true=false) :
 ∃ L,0<L∧L≤N+1∧it T L x=x∧(∀ j,0<j→j<L→it T j x≠x)∧tr T (N+1) S x=(List.range' 0 L).map (fun j=>it T j x) ∧
  ∀ y,y<N→((Plain.mark T (N+1) S x).getD y true=true↔S.getD y true=true ∨ ∃ j,j<L∧it T j x=y):=by
 have hl:=hc.len;have hun:=nB (l:=S) (by omega) Lj
 have hul:=wW (l:=S);obtain⟨L,hL,g1,g2,g3,g4⟩:=Z5t hP hc hx Lj N 1 (S.set x true) (by simpa using hl) (by omega) (by omega) (fun y hy=>by
  rw[Nj (by omega)]
  simp only[Bool.or_eq_true,decide_eq_true_eq];constructor
  ·rintro(h|h)
   ·exact .inl h
   ·exact .inr ⟨0,by omega,h.symm⟩
  ·rintro(h|⟨j,hj,h⟩)
   ·exact .inl h
   ·have:j=0:=by omega
    subst this;exact .inr h.symm) (fun a b hab hb=>by omega)
 have e:tr T (N+1) S x=(List.range' 0 L).map (fun j=>it T j x):=by
  rw[show L=(L - 1)+1 by omega,List.range'_succ]
  simp only[tr,Lj,bF,if_false,List.map_cons]
  congr 1
 refine⟨L,by omega,?_,g1,g2,e,?_⟩
 ·have:=oL T (N+1) S x
  grind
 ·intro y hy;have:=g4 y hy;simp only[Plain.mark,Lj,bF,if_false];exact this
theorem QL{x:Nat}(hx:x<N):0<EZ T N x∧it T (EZ T N x) x=x ∧ ∀ j,0<j→j<EZ T N x→it T j x≠x:=by
 have hg:∀ y,y<N→(List.replicate N false).getD y true=false:=fun y hy=>by grind
 obtain⟨L,h0,h1,h2,h3,_⟩:=QJ hP (S:=List.replicate N false) ⟨by simp,fun y hy=>by rw[hg y hy,hg _ (hP.lt y hy)]⟩ hx (hg x hx)
 rw[SG h0 h1 h2 h3];exact⟨h0,h2,h3⟩
theorem aP{x:Nat}(hx:x<N):EZ T N x≤N+1:=by
 have hg:∀ y,y<N→(List.replicate N false).getD y true=false:=fun y hy=>by grind
 obtain⟨L,h0,h1,h2,h3,_⟩:=QJ hP (S:=List.replicate N false) ⟨by simp,fun y hy=>by rw[hg y hy,hg _ (hP.lt y hy)]⟩ hx (hg x hx)
 rw[SG h0 h1 h2 h3];exact h1
theorem Z2x{x:Nat}(hx:x<N):EZ T N (T x)=EZ T N x:=by
 obtain⟨h0,h1,h2⟩:=QL hP hx;refine SG h0 (aP hP hx) (by rw[MR,h1]) fun j hj hl e=>?_
 rw[MR]at e;exact h2 j hj hl (hP.inj _ _ (H0 hP hx j) hx e)
theorem Z6x{x:Nat}(hx:x<N):Mz T n (T x)↔Mz T n x:=by
 obtain⟨h0,h1,_⟩:=QL hP hx;constructor
 ·intro h j;cases j with
  | zero=>
   have:=h (EZ T N x - 1);rw[MR]at this;have e:T (it T (EZ T N x - 1) x)=it T (EZ T N x - 1+1) x:=rfl;rw[e,show EZ T N x - 1+1=EZ T N x by omega,h1]at this
   exact this
  | succ j=>
   have:=h j;rw[MR]at this;exact this
 ·intro h j;rw[MR];exact h (j+1)
end
def D5(P:Nat→Bool):Nat→List Bool→Nat
 | _,[]=>0
 | i,b :: r=>(if !b&&P i then 1 else 0)+D5 P (i+1) r
theorem aC{P:Nat→Bool}:∀ (l:List Bool) (i j:Nat),l[j]? = some false→D5 P i (l.set j true)+(if P (i+j)then 1 else 0)=D5 P i l
 | [],_,_,h=>by simp at h
 | b :: r,i,0,h=>by
  simp only[List.getElem?_cons_zero,oI]at h;subst h;simp only[List.set_cons_zero,D5,Bool.not_true,Bool.false_and,Bool.not_false,Bool.true_and,Nat.add_zero,bF,if_false];omega
 | b :: r,i,j+1,h=>by
  have:=aC (P:=P) r (i+1) j (by simpa using h)
  rw[show i+1+j=i+(j+1) by omega]at this
  simp only[List.set_cons_succ,D5];omega
theorem aG{P:Nat→Bool}:∀ (l:List Bool) (i:Nat),(∀ y,l.getD y true=true)→D5 P i l=0
 | [],_,_=>rfl
 | b :: r,i,h=>by
  have h0:b=true:=by simpa using h 0
  subst h0;have:=aG (P:=P) r (i+1) fun y=>by simpa using h (y+1)
  simp only[D5,this];simp
theorem bW{P:Nat→Bool}:∀ (k i:Nat),D5 P i (List.replicate k false)=((List.range' i k).filter P).length
 | 0,_=>rfl
 | k+1,i=>by
  rw[List.replicate_succ,D5,bW k (i+1),List.range'_succ,List.filter_cons]
  grind
section
variable {T:Nat→Nat} {N n:Nat} (hP:Cn T N)
include hP
theorem lB{P:Nat→Bool}(xN:∀ d,d<N→P (T d)=P d):∀ (k:Nat) (seen:List Bool) (x:Nat),seen.length=N→x<N →
 D5 P 0 (Plain.mark T k seen x)+(if P x then (tr T k seen x).length else 0)=D5 P 0 seen
 | 0,seen,x,_,_=>by simp[Plain.mark,tr]
 | k+1,seen,x,hs,hx=>by
  cases h:seen.getD x true with
  | true=>simp only[Plain.mark,tr,h,if_true,List.length_nil]; split<;>rfl
  | false=>
   have hg:seen[x]? = some false:=by
    rw[List.getD_eq_getElem?_getD,gE (by omega)]at h
    rw[gE (by omega)]
    simpa using h
   have h1:=aC (P:=P) seen 0 x hg;have h2:=lB xN k (seen.set x true) (T x) (by simpa using hs) (hP.lt x hx)
   rw[xN x hx]at h2;simp only[Plain.mark,tr,h,bF,if_false,lC]
   grind
theorem YI{S:List Bool}(hc:Jp T N S){x:Nat}(hx:x<N)(Lj:S.getD x true=false):Jp T N (Plain.mark T (N+1) S x):=by
 obtain⟨L,h0,h1,h2,h3,h4,h5⟩:=QJ hP hc hx Lj;refine⟨by rw[YH]; exact hc.len,fun y hy=>?_⟩
 have e:((Plain.mark T (N+1) S x).getD (T y) true=true↔(Plain.mark T (N+1) S x).getD y true=true):=by
  rw[h5 _ (hP.lt y hy),h5 y hy,hc.same y hy];constructor
  ·rintro(h|⟨j,hj,h⟩)
   ·exact .inl h
   ·refine .inr ?_;cases j with
    | zero=>
     refine⟨L - 1,by omega,hP.inj _ _ (H0 hP hx _) hy ?_⟩
     have e:T (it T (L - 1) x)=it T (L - 1+1) x:=rfl;rw[e,show L - 1+1=L by omega,h2]
     exact h
    | succ j=>exact ⟨j,by omega,hP.inj _ _ (H0 hP hx _) hy h⟩
  ·rintro(h|⟨j,hj,rfl⟩)
   ·exact .inl h
   ·refine .inr ?_;rcases lG (j+1) L with h'|h'
    ·exact⟨j+1,h',rfl⟩
    ·have:L=j+1:=by omega
     subst this;exact⟨0,by omega,h2.symm⟩
 grind
def sig(n:Nat)(w:List Nat):Nat×Bool:=(w.length,w.all fun d=>decide (d<n))
open Classical in
noncomputable def PK(T:Nat→Nat)(N n K:Nat)(b:Bool)(d:Nat):Bool:=decide (EZ T N d=K)&&(decide (Mz T n d) == b)
omit hP in
theorem Ya{L x:Nat}(h0:0<L)(h1:it T L x=x):(∀ j,j<L→it T j x<n)↔Mz T n x:=by
 refine⟨fun h j=>?_,fun h j _=>h j⟩
 have hm:∀ q,it T (L*q) x=x:=fun q=>by
  induction q with
  | zero=>rfl
  | succ q ih=>rw[Nat.mul_succ,Nn,h1,ih]
 have e:j=j % L+L*(j / L):=by rw[Nat.mod_add_div]
 rw[e,Nn,hm];exact h _ (Nat.mod_lt _ h0)
open Classical in
theorem Z5y{S:List Bool}(hc:Jp T N S){x:Nat}(hx:x<N)(Lj:S.getD x true=false):sig n (tr T (N+1) S x)=(EZ T N x,decide (Mz T n x)):=by
 obtain⟨L,h0,h1,h2,h3,h4,h5⟩:=QJ hP hc hx Lj;rw[h4,SG h0 h1 h2 h3];unfold sig;refine Prod.ext (by simp) ?_
 have:((List.map (fun j=>it T j x) (List.range' 0 L)).all fun d=>decide (d<n))=true↔Mz T n x:=by
  rw[← Ya h0 h2,List.all_eq_true];constructor
  ·intro h j hj;have:=h (it T j x) (mM.2 ⟨j,by simp[hj],rfl⟩)
   simpa using this
  ·intro h d hd;obtain⟨j,hj,rfl⟩:=mM.1 hd;have:=h j (by simpa using hj)
   simpa using this
 grind
theorem Z4b(K:Nat)(b:Bool){d:Nat}(hd:d<N):PK T N n K b (T d)=PK T N n K b d:=by
 classical
 unfold PK;rw[Z2x hP hd]
 congr 2
 exact decide_eq_decide.2 (Z6x hP hd)
theorem Yp(K:Nat)(b:Bool):∀ (k:Nat) (seen:List Bool),k≤N→Jp T N seen→(∀ y,y<N - k→seen.getD y true=true) →
 K*((FK T N k seen).map (sig n)).count (K,b)=D5 (PK T N n K b) 0 seen
 | 0,seen,_,hc,hd=>by
  rw[aG]
  ·simp[FK]
  ·intro y;rcases lG y N with h|h
   ·exact hd y (by omega)
   ·rw[List.getD_eq_getElem?_getD,List.getElem?_eq_none (by rw[hc.len]; omega)]; rfl
 | k+1,seen,hk,hc,hd=>by
  have hx:N - (k+1)<N:=by omega
  simp only[FK];have hstep:∀ seen':List Bool,(∀ y,seen.getD y true=true→seen'.getD y true=true)→seen'.getD (N - (k+1)) true=true → ∀ y,y<N - k→seen'.getD y true=true:=fun seen' h1 h2 y hy=>by
   grind
  cases h:seen.getD (N - (k+1)) true with
  | true=>
   rw[iP rfl];exact Yp K b k seen (by omega) hc (hstep seen (fun _ h=>h) h)
  | false=>
   rw[iN (by simp)]
   have hl:=hc.len;have ih:=Yp K b k (Plain.mark T (N+1) seen (N - (k+1))) (by omega) (YI hP hc hx h) (hstep _ (fun y hy=>Td _ _ _ hy) (by
    simp only[Plain.mark,h,bF,if_false];exact Td _ _ _ (by rw[Nj (by omega)]; simp)))
   have hcnt:=lB hP (P:=PK T N n K b) (fun d hd=>Z4b hP K b hd) (N+1) seen (N - (k+1)) hl hx
   have hsig:=Z5y (n:=n) hP hc hx h;have hlen:(tr T (N+1) seen (N - (k+1))).length=EZ T N (N - (k+1)):=congrArg Prod.fst hsig;rw[List.map_cons,List.count_cons,hsig,Nat.mul_add,ih];by_cases hp:PK T N n K b (N - (k+1))=true
   ·rw[iP hp,hlen]at hcnt;unfold PK at hp
    grind
   ·rw[iN hp]at hcnt;rw[iN]
    ·omega
    ·intro e;apply hp;simp only[beq_iff_eq,AP]at e;unfold PK
     grind
theorem uY(K:Nat)(b:Bool):K*((H3 T N).map (sig n)).count (K,b)=((List.range N).filter (PK T N n K b)).length:=by
 have hg:∀ y,y<N→(List.replicate N false).getD y true=false:=fun y hy=>by grind
 rw[H3,Yp hP K b N _ (lR _) ⟨by simp,fun y hy=>by rw[hg y hy,hg _ (hP.lt y hy)]⟩ (fun y hy=>by omega),bW,List.range_eq_range']
end
theorem oS{T:Nat→Nat}{N n:Nat}:∀ w,w∈H3 T N→0<w.length:=by
 have:∀ (k:Nat) (seen:List Bool),∀ w,w∈FK T N k seen→0<w.length:=by
  intro k
  induction k with
  | zero=>intro seen w hw; simp[FK]at hw
  | succ k ih=>
   intro seen w hw;simp only[FK]at hw;cases h:seen.getD (N - (k+1)) true with
   | true=>grind
   | false=>
    rw[h,iN (by simp)]at hw
    rcases mC.1 hw with rfl|hw
    ·simp only[tr,h,bF,if_false,lC]; omega
    ·exact ih _ w hw
 exact this N _
structure XY (T T':Nat→Nat) (N n:Nat) (φ ψ:Nat→Nat):Prop where
 p:Cn T N
 q:Cn T' N
 lt:∀ x,x<N→φ x<N
 Rw:∀ x,x<N→ψ x<N
 inv:∀ x,x<N→ψ (φ x)=x
 inr:∀ x,x<N→φ (ψ x)=x
 opp:∀ x,x<N→T' (φ (T x))=φ x
 str:∀ x,x<N→(φ x<n↔x<n)
section
variable {T T':Nat→Nat} {N n:Nat} {φ ψ:Nat→Nat} (h:XY T T' N n φ ψ)
include h
theorem bJ{x:Nat}(hx:x<N):∀ j,it T' j (φ (it T j x))=φ x
 | 0=>rfl
 | j+1=>by
  have hj:=H0 h.p hx j;rw[show it T' (j+1) (φ (it T (j+1) x))=it T' j (T' (φ (it T (j+1) x))) from(MR T' j _).symm]
  show it T' j (T' (φ (T (it T j x))))=φ x;rw[h.opp _ hj];exact bJ hx j
omit h in
theorem Xa{T:Nat→Nat}(hp:Cn T N):∀ (j:Nat) {x y:Nat},x<N→y<N→it T j x=it T j y→x=y
 | 0,_,_,_,_,e=>e
 | j+1,_,_,hx,hy,e=>Xa hp j hx hy (hp.inj _ _ (H0 hp hx j) (H0 hp hy j) e)
theorem Yr{x:Nat}(hx:x<N)(j:Nat):it T' j (φ x)=φ x↔it T j x=x:=by
 have h1:=bJ h hx j;have hj:=H0 h.p hx j;constructor
 ·intro e;rw[← h1]at e;have:=Xa h.q j (h.lt _ hx) (h.lt _ hj) (by rw[h1]at e ⊢; exact e)
  have e2:=h.inv _ hx;rw[this,h.inv _ hj]at e2;exact e2
 grind
theorem we{x:Nat}(hx:x<N):EZ T' N (φ x)=EZ T N x:=by
 obtain⟨h0,h1,h2⟩:=QL h.p hx;exact SG h0 (aP h.p hx) ((Yr h hx _).2 h1) fun j a b e=>h2 j a b ((Yr h hx _).1 e)
theorem Z8z{x:Nat}(hx:x<N):Mz T' n (φ x)↔Mz T n x:=by
 obtain⟨h0,h1,_⟩:=QL h.p hx;have h1':=(Yr h hx (EZ T N x)).2 h1;rw[← Ya h0 h1,← Ya h0 h1'];generalize EZ T N x=L at *;have key:∀ j,j≤L→it T' j (φ x)=φ (it T (L - j) x):=fun j hj=>by
  have:=bJ h (H0 h.p hx (L - j)) j;rw[← Nn,show j+(L - j)=L by omega,h1]at this
  exact this
 constructor
 ·intro g j hj;cases j with
  | zero=>
   have:=g 0 h0;exact(h.str x hx).1 this
  | succ j=>
   have:=g (L - (j+1)) (by omega)
   rw[key _ (by omega),show L - (L - (j+1))=j+1 by omega]at this
   exact(h.str _ (H0 h.p hx _)).1 this
 ·intro g j hj;rw[key j (by omega)]
  refine(h.str _ (H0 h.p hx _)).2 ?_;cases j with
  | zero=>rw[Nat.sub_zero,h1]; exact g 0 h0
  | succ j=>exact g _ (by omega)
theorem oD{x:Nat}(hx:x<N)(K:Nat)(b:Bool):PK T' N n K b (φ x)=PK T N n K b x:=by
 classical
 unfold PK;rw[we h hx]
 congr 2
 exact decide_eq_decide.2 (Z8z h hx)
omit h in
theorem OT{f:Nat→Nat}:∀ {l:List Nat},(∀ x y,x∈l→y∈l→f x=f y→x=y)→l.Nodup→(l.map f).Nodup
 | [],_,_=>by simp
 | a :: r,hf,hn=>by
  obtain⟨h1,h2⟩:=List.nodup_cons.1 hn;rw[List.map_cons,List.nodup_cons];refine⟨fun hm=>?_,OT (fun x y hx hy=>hf x y (List.mem_cons_of_mem _ hx) (List.mem_cons_of_mem _ hy)) h2⟩
  grind
theorem vK:((H3 T N).map (sig n)).Perm ((H3 T' N).map (sig n)):=by
 rw[List.perm_iff_count];rintro⟨K,b⟩;have hc:((List.range N).filter (PK T N n K b)).length=((List.range N).filter (PK T' N n K b)).length:=by
  refine Nat.le_antisymm ?_ ?_
  ·have:=List.Nodup.length_le_of_subset (l₁:=((List.range N).filter (PK T N n K b)).map φ) (l₂:=(List.range N).filter (PK T' N n K b)) (OT (fun x y hx hy e=>by
    have hx':=mR.1 (List.mem_filter.1 hx).1;have hy':=mR.1 (List.mem_filter.1 hy).1;have:=h.inv x hx';rw[e,h.inv y hy']at this;exact this.symm) (List.nodup_range.filter _)) fun y hy=>by
    obtain⟨x,hx,rfl⟩:=mM.1 hy;obtain⟨h1,h2⟩:=List.mem_filter.1 hx;have h1:=mR.1 h1;exact List.mem_filter.2 ⟨mR.2 (h.lt x h1),by rw[oD h h1]; exact h2⟩
   simpa using this
  ·have:=List.Nodup.length_le_of_subset (l₁:=((List.range N).filter (PK T' N n K b)).map ψ) (l₂:=(List.range N).filter (PK T N n K b)) (OT (fun x y hx hy e=>by
    have hx':=mR.1 (List.mem_filter.1 hx).1;have hy':=mR.1 (List.mem_filter.1 hy).1;have:=h.inr x hx';rw[e,h.inr y hy']at this;exact this.symm) (List.nodup_range.filter _)) fun y hy=>by
    obtain⟨x,hx,rfl⟩:=mM.1 hy;obtain⟨h1,h2⟩:=List.mem_filter.1 hx;have h1:=mR.1 h1;refine List.mem_filter.2 ⟨mR.2 (h.Rw x h1),?_⟩;have:=oD h (h.Rw x h1) K b;rw[h.inr x h1]at this;rw[← this]; exact h2
   simpa using this
 have e1:=uY (n:=n) h.p K b;have e2:=uY (n:=n) h.q K b;rcases Nat.eq_zero_or_pos K with h0|h0
 ·subst h0;have z:∀ (T:Nat→Nat),((H3 T N).map (sig n)).count (0,b)=0:=fun T=>List.count_eq_zero.2 fun hm=>by
   obtain⟨w,hw,e⟩:=mM.1 hm;have:=oS (n:=n) w hw;have e:=congrArg Prod.fst e;simp only[sig]at e;omega
  rw[z,z]
 ·rw[hc,← e2]at e1;exact Nat.eq_of_mul_eq_mul_left h0 e1
end
end Go.Ab
end
section
namespace Go.Ab
open Go.Plain
section
variable {T:Nat→Nat} {N n:Nat} (hP:Cn T N)
include hP
theorem sY:Jp T N (List.replicate N false):=by
 have hg:∀ y,y<N→(List.replicate N false).getD y true=false:=fun y hy=>by grind
 exact⟨by simp,fun y hy=>by rw[hg y hy,hg _ (hP.lt y hy)]⟩
theorem YV:∀ (k:Nat) (seen:List Bool),k≤N→Jp T N seen → ∀ w,w∈FK T N k seen → ∀ d,d∈w→d<N∧T d∈w
 | 0,seen,_,_,w,hw=>by simp[FK]at hw
 | k+1,seen,hk,hc,w,hw=>by
  have hx:N - (k+1)<N:=by omega
  simp only[FK]at hw;cases h:seen.getD (N - (k+1)) true with
  | true=>
   rw[h,iP rfl]at hw;exact YV k seen (by omega) hc w hw
  | false=>
   rw[h,iN (by simp)]at hw
   rcases mC.1 hw with rfl|hw
   ·obtain⟨L,h0,h1,h2,h3,h4,h5⟩:=QJ hP hc hx h;rw[h4];intro d hd;obtain⟨j,hj,rfl⟩:=mM.1 hd;have hj:j<L:=by simpa using hj
    refine⟨H0 hP hx j,mM.2 ?_⟩;rcases lG (j+1) L with h'|h'
    ·exact⟨j+1,by simpa using h',rfl⟩
    ·have:L=j+1:=by omega
     subst this;exact⟨0,by simp,h2.symm⟩
   ·exact YV k _ (by omega) (YI hP hc hx h) w hw
theorem Xm:∀ w,w∈H3 T N → ∀ d,d∈w→d<N∧T d∈w:=YV hP N _ (lR _) (sY hP)
theorem vP(P:Nat→Bool):∀ (k:Nat) (seen:List Bool) (x:Nat),seen.length=N→x<N →
 D5 P 0 (Plain.mark T k seen x)+((tr T k seen x).filter P).length=D5 P 0 seen
 | 0,seen,x,_,_=>by simp[Plain.mark,tr]
 | k+1,seen,x,hs,hx=>by
  cases h:seen.getD x true with
  | true=>simp only[Plain.mark,tr,h,if_true,List.filter_nil,List.length_nil]; rfl
  | false=>
   have hg:seen[x]? = some false:=by
    rw[List.getD_eq_getElem?_getD,gE (by omega)]at h
    rw[gE (by omega)]
    simpa using h
   have h1:=aC (P:=P) seen 0 x hg;have h2:=vP P k (seen.set x true) (T x) (by simpa using hs) (hP.lt x hx)
   simp only[Plain.mark,tr,h,bF,if_false,List.filter_cons]
   grind
theorem Yl(P:Nat→Bool):∀ (k:Nat) (seen:List Bool),k≤N→seen.length=N→(∀ y,y<N - k→seen.getD y true=true) →
 ((FK T N k seen).map fun w=>(w.filter P).length).sum=D5 P 0 seen
 | 0,seen,_,hs,hd=>by
  rw[aG]
  ·simp[FK]
  grind
 | k+1,seen,hk,hs,hd=>by
  have hx:N - (k+1)<N:=by omega
  simp only[FK];have hstep:∀ seen':List Bool,(∀ y,seen.getD y true=true→seen'.getD y true=true)→seen'.getD (N - (k+1)) true=true → ∀ y,y<N - k→seen'.getD y true=true:=fun seen' h1 h2 y hy=>by
   grind
  cases h:seen.getD (N - (k+1)) true with
  | true=>
   rw[iP rfl];exact Yl P k seen (by omega) hs (hstep seen (fun _ h=>h) h)
  | false=>
   rw[iN (by simp)]
   have ih:=Yl P k (Plain.mark T (N+1) seen (N - (k+1))) (by omega) (by rw[YH]; exact hs) (hstep _ (fun y hy=>Td _ _ _ hy) (by
    simp only[Plain.mark,h,bF,if_false];exact Td _ _ _ (by rw[Nj (by omega)]; simp)))
   have hcnt:=vP hP P (N+1) seen (N - (k+1)) hs hx
   grind
theorem Zq(P:Nat→Bool):((H3 T N).map fun w=>(w.filter P).length).sum=((List.range N).filter P).length:=by
 rw[H3,Yl hP P N _ (lR _) (by simp) (fun y hy=>by omega),bW,List.range_eq_range']
end
section
variable {ls:List Lt}
end
end Go.Ab
end
section
namespace Go.Ab
open Go.Plain
def arr(n v:Nat)(b:Bool):Nat:=if b then 2*((v+n - 1) % n)else 2*v+1
theorem OQ{n v:Nat}(hv:v<n)(b:Bool):arr n v b<2*n∧U7 n (arr n v b)=v∧(arr n v b % 2 == 0)=b:=by
 cases b with
 | true=>
  have hm:=Nat.mod_lt (v+n - 1) (show 0<n by omega)
  have e:(v+n - 1) % n=if v=0 then n - 1 else v - 1:=by
   split
   ·simp_all
   ·have:v+n - 1=(v - 1)+n:=by omega
    rw[this,Nat.add_mod_right,Nat.mod_eq_of_lt (by omega)]
  unfold arr U7;simp only[if_true];refine⟨by omega,?_,by simp⟩
  rw[iP (by omega),show 2*((v+n - 1) % n) / 2=(v+n - 1) % n by omega,e]
  split
  ·rename_i h; subst h; rw[show n - 1+1=n by omega,Nat.mod_self]
  ·rw[show v - 1+1=v by omega,Nat.mod_eq_of_lt hv]
 | false=>
  unfold arr U7
  grind
theorem MP{n d:Nat}(hd:d<2*n):∃ v b,v<n∧d=arr n v b:=by
 have hh:=vO hd;obtain⟨h1,h2,h3⟩:=OQ hh (d % 2 == 0);refine⟨U7 n d,(d % 2 == 0),hh,cK hd h1 h2.symm ?_⟩
 grind
section
variable {ls:List Lt}
theorem Sv{v:Nat}(hv:v<ls.length)(b:Bool):U2 ls (Z4 ls) (arr ls.length v b)=if (at' ls v).k=2 then Q5 ls.length (Q9 ls v ls.length 0) (b == ((at' ls v).o == ((at' ls v).s == 1)))
 else if W4 ls v=b then 2*ls.length+2*R9 v (Z4 ls)else 2*ls.length+2*((R9 v (Z4 ls)+Z5 ls - 1) % Z5 ls)+1:=by
 obtain⟨h1,h2,h3⟩:=OQ hv b;rw[QT h1,h2,h3,HI]
theorem WL{p:Nat}:U2 ls (Z4 ls) (2*ls.length+2*p)=Q5 ls.length ((Z4 ls).getD ((p+1) % Z5 ls) 0) (!W4 ls ((Z4 ls).getD ((p+1) % Z5 ls) 0)):=by
 unfold U2;rw[iP (by omega),iP (by omega),HI,show (2*ls.length+2*p - 2*ls.length) / 2=p by omega]
theorem Vy{p:Nat}:U2 ls (Z4 ls) (2*ls.length+2*p+1)=Q5 ls.length ((Z4 ls).getD p 0) (W4 ls ((Z4 ls).getD p 0)):=by
 unfold U2
 grind
structure Wv (ls:List Lt):Prop where
 Qp:0<Z5 ls
 PD:∀ v,v<ls.length→(at' ls v).k≠2→(at' ls v).k=1
 CX:∀ v,v<ls.length→(at' ls v).k=2→Q9 ls v ls.length 0<ls.length∧(at' ls (Q9 ls v ls.length 0)).k=2∧Q9 ls (Q9 ls v ls.length 0) ls.length 0=v ∧
  (at' ls (Q9 ls v ls.length 0)).o=(!(at' ls v).o)∧(at' ls (Q9 ls v ls.length 0)).s=(at' ls v).s
structure yA (ls ls':List Lt) (ρ σ:Nat→Nat) (fl:Bool):Prop where
 wv:Wv ls
 len:ls'.length=ls.length
 Qp:Z5 ls'=Z5 ls
 lt:∀ v,v<ls.length→ρ v<ls.length
 Rw:∀ v,v<ls.length→σ v<ls.length
 inv:∀ v,v<ls.length→σ (ρ v)=v
 inr:∀ v,v<ls.length→ρ (σ v)=v
 pre:∀ v,v<ls.length→ρ ((v+ls.length - 1) % ls.length)=(ρ v+ls.length - 1) % ls.length
 PD:∀ v,v<ls.length→(at' ls' (ρ v)).k=(at' ls v).k
 CX:∀ v,v<ls.length→(at' ls v).k=2→Q9 ls' (ρ v) ls.length 0=ρ (Q9 ls v ls.length 0)
 ov:∀ v,v<ls.length→(at' ls v).k=2→((at' ls' (ρ v)).o == ((at' ls' (ρ v)).s == 1)) = !((at' ls v).o == ((at' ls v).s == 1))
 dn:∀ v,v<ls.length→(at' ls v).k=1→W4 ls' (ρ v)=(W4 ls v != fl)
 idx:∀ v,v<ls.length→(at' ls v).k=1→R9 (ρ v) (Z4 ls')=if fl then R9 v (Z4 ls)else Z5 ls - 1 - R9 v (Z4 ls)
theorem Zzs{ls:List Lt}{v:Nat}(hv:v<ls.length)(hk:(at' ls v).k=1):R9 v (Z4 ls)<Z5 ls∧(Z4 ls).getD (R9 v (Z4 ls)) 0=v:=by
 have hm:v∈Z4 ls:=Bb.2 ⟨hv,by simp[AT,hk]⟩
 refine⟨by rw[← HI]; exact SA hm,?_⟩
 rw[List.getD,(LC hm).1]; rfl
theorem Wo{ls:List Lt}{p:Nat}(hp:p<Z5 ls):∃ v,v<ls.length∧(at' ls v).k=1∧(Z4 ls).getD p 0=v∧R9 v (Z4 ls)=p:=by
 have hg:(Z4 ls)[p]? = some ((Z4 ls).getD p 0):=by rw[List.getD,gE (by rw[HI]; exact hp)]; rfl
 have hm:=List.mem_of_getElem? hg;obtain⟨h1,h2⟩:=Bb.1 hm;exact⟨_,h1,by simpa[AT]using h2,rfl,RJ (Su ls) (LC hm).1 hg⟩
theorem Z7g{m p:Nat}(hp:p<m):(p+m - 1) % m=if p=0 then m - 1 else p - 1:=by
 split
 ·simp_all
 ·rw[show p+m - 1=(p - 1)+m by omega,Nat.add_mod_right,Nat.mod_eq_of_lt (by omega)]
section
variable {ls ls':List Lt} {ρ σ:Nat→Nat} {fl:Bool} (h:yA ls ls' ρ σ fl)
include h
end
end
end Go.Ab
end
