/- Part 30 of the proof: Pk. -/
import Derived.Test.YtipeejpafgnjdaaGreatDoorG24
import Derived.Test.YtipeejpafgnjdaaGreatDoorG29
set_option linter.all false
namespace Go.Known
open Go.Plain
def it (T:Nat→Nat):Nat→Nat→Nat
 | 0,x=>x
 | j+1,x=>T (it T j x)
theorem Zkt (T:Nat→Nat):∀ (j x:Nat),it T j (T x)=T (it T j x)
 | 0,_=>rfl
 | j+1,x=>by simp only[it]; rw[Zkt T j x]
theorem Zxm (T:Nat→Nat) (x:Nat):∀ (i j:Nat),it T (i+j) x=it T i (it T j x)
 | 0,j=>by rw[Nat.zero_add]; rfl
 | i+1,j=>by rw[Nat.succ_add]; simp only[it]; rw[Zxm T x i j]
def per (T:Nat→Nat) (N x:Nat):Nat:=(((List.range (N+1)).find? fun j=>it T (j+1) x == x).map (· + 1)).getD 0
theorem Ztz {T:Nat→Nat} {N L x:Nat} (h0:0<L) (hL:L≤N+1) (h1:it T L x=x) (h2:∀ j,0<j→j<L→it T j x≠x):per T N x=L:=by
 unfold per
 have:(List.range (N+1)).find? (fun j=>it T (j+1) x == x)=some (L - 1):=by
  rw[List.find?_range_eq_some]
  refine⟨?_,by simp; omega,fun j hj=>?_⟩
  ·rw[show L - 1+1=L by omega,h1]; simp
  ·have:=h2 (j+1) (by omega) (by omega)
   simpa using this
 rw[this]
 show L - 1+1=L
 omega
def Inn (T:Nat→Nat) (n x:Nat):Prop:=∀ j,it T j x<n
structure Perm1 (T:Nat→Nat) (N:Nat):Prop where
 lt:∀ d,d<N→T d<N
 inj:∀ y y',y<N→y'<N→T y=T y'→y=y'
structure Clo (T:Nat→Nat) (N:Nat) (seen:List Bool):Prop where
 len:seen.length=N
 same:∀ y,y<N→seen.getD (T y) true=seen.getD y true
section
variable {T:Nat→Nat} {N n:Nat} (hP:Perm1 T N)
include hP
theorem Zi2 {x:Nat} (hx:x<N):∀ j,it T j x<N
 | 0=>hx
 | j+1=>hP.lt _ (Zi2 hx j)
theorem Z6a {S:List Bool} (hc:Clo T N S) {x:Nat} (hx:x<N):∀ j,S.getD (it T j x) true=S.getD x true
 | 0=>rfl
 | j+1=>by simp only[it]; rw[hc.same _ (Zi2 hP hx j),Z6a hc hx j]
theorem Z5x {S:List Bool} (hc:Clo T N S) {x:Nat} (hx:x<N) (hSx:S.getD x true=false) :
 ∀(k i:Nat) (seen:List Bool),seen.length=N→Zfd seen<k→0<i→(∀ y,y<N→(seen.getD y true=true↔S.getD y true=true ∨ ∃ j,j<i∧it T j x=y))→(∀ a b,a<b→b<i→it T a x≠it T b x) →
  ∃ L,i≤L∧it T L x=x∧(∀ j,0<j→j<L→it T j x≠x)∧tr T k seen (it T i x)=(List.range' i (L - i)).map (fun j=>it T j x) ∧
   ∀ y,y<N→((Plain.mark T k seen (it T i x)).getD y true=true↔S.getD y true=true ∨ ∃ j,j<L∧it T j x=y):=by
 intro k
 induction k with
 | zero=>intro i seen _ h; omega
 | succ k ih=>
  intro i seen hs hu hi hseen hd
  have hyN:=Zi2 hP hx i
  cases hy:seen.getD (it T i x) true with
  | true=>
   rcases (hseen _ hyN).1 hy with h1|⟨j,hj,h1⟩
   ·rw[Z6a hP hc hx,hSx]at h1; cases h1
   ·have hj0:j=0:=by
     rcases Nat.eq_zero_or_pos j with h|h
     ·exact h
     ·exfalso
      obtain⟨j',rfl⟩:∃ j',j=j'+1:=⟨j - 1,by omega⟩
      obtain⟨i',rfl⟩:∃ i',i=i'+1:=⟨i - 1,by omega⟩
      have:=hP.inj _ _ (Zi2 hP hx j') (Zi2 hP hx i') h1
      exact hd j' i' (by omega) (by omega) this
    subst hj0
    refine⟨i,Nat.le_refl _,h1.symm,fun j h0 hj e=>hd 0 j h0 hj e.symm,?_,?_⟩
    ·simp only[tr,hy,if_true,Nat.sub_self,List.range'_zero,List.map_nil]
    ·simp only[Plain.mark,hy,if_true]
     exact hseen
  | false=>
   have hun:=Zfs (by omega) hy
   obtain⟨L,hL,g1,g2,g3,g4⟩:=ih (i+1) (seen.set (it T i x) true) (by simpa using hs) (by omega) (by omega) (fun y hyN'=>by
    rw[Zcp (by omega)]
    simp only[Bool.or_eq_true,decide_eq_true_eq]
    rw[hseen y hyN']
    constructor
    ·rintro((h|⟨j,hj,h⟩)|h)
     ·exact .inl h
     ·exact .inr ⟨j,by omega,h⟩
     ·exact .inr ⟨i,by omega,h.symm⟩
    ·rintro(h|⟨j,hj,h⟩)
     ·exact .inl (.inl h)
     ·rcases Nat.lt_or_ge j i with h'|h'
      ·exact .inl (.inr ⟨j,h',h⟩)
      ·have:j=i:=by omega
       subst this
       exact .inr h.symm) (fun a b hab hb e=>by
    rcases Nat.lt_or_ge b i with h'|h'
    ·exact hd a b hab h' e
    ·have:b=i:=by omega
     subst this
     have:=(hseen _ hyN).2 (.inr ⟨a,hab,e⟩)
     rw[hy]at this; cases this)
   refine⟨L,by omega,g1,g2,?_,?_⟩
   ·rw[show L - i=(L - (i+1))+1 by omega,List.range'_succ]
    simp only[tr,hy,Bool.false_eq_true,if_false,List.map_cons]
    congr 1
   ·simp only[Plain.mark,hy,Bool.false_eq_true,if_false]
    exact g4
theorem Zl5 {S:List Bool} (hc:Clo T N S) {x:Nat} (hx:x<N) (hSx:S.getD x true=false) :
 ∃ L,0<L∧L≤N+1∧it T L x=x∧(∀ j,0<j→j<L→it T j x≠x)∧tr T (N+1) S x=(List.range' 0 L).map (fun j=>it T j x) ∧
  ∀ y,y<N→((Plain.mark T (N+1) S x).getD y true=true↔S.getD y true=true ∨ ∃ j,j<L∧it T j x=y):=by
 have hl:=hc.len
 have hun:=Zfs (l:=S) (by omega) hSx
 have hul:=Ze9 (l:=S)
 obtain⟨L,hL,g1,g2,g3,g4⟩:=Z5x hP hc hx hSx N 1 (S.set x true) (by simpa using hl) (by omega) (by omega) (fun y hy=>by
  rw[Zcp (by omega)]
  simp only[Bool.or_eq_true,decide_eq_true_eq]
  constructor
  ·rintro(h|h)
   ·exact .inl h
   ·exact .inr ⟨0,by omega,h.symm⟩
  ·rintro(h|⟨j,hj,h⟩)
   ·exact .inl h
   ·have:j=0:=by omega
    subst this
    exact .inr h.symm) (fun a b hab hb=>by omega)
 have e:tr T (N+1) S x=(List.range' 0 L).map (fun j=>it T j x):=by
  rw[show L=(L - 1)+1 by omega,List.range'_succ]
  simp only[tr,hSx,Bool.false_eq_true,if_false,List.map_cons]
  congr 1
 refine⟨L,by omega,?_,g1,g2,e,?_⟩
 ·have:=Zop T (N+1) S x
  rw[e]at this
  simpa using this
 ·intro y hy
  have:=g4 y hy
  simp only[Plain.mark,hSx,Bool.false_eq_true,if_false]
  exact this
theorem Zl6 {x:Nat} (hx:x<N):0<per T N x∧it T (per T N x) x=x ∧ ∀ j,0<j→j<per T N x→it T j x≠x:=by
 have hg:∀ y,y<N→(List.replicate N false).getD y true=false:=fun y hy=>by rw[List.getD_eq_getElem?_getD,List.getElem?_replicate,if_pos hy]; rfl
 obtain⟨L,h0,h1,h2,h3,_⟩:=Zl5 hP (S:=List.replicate N false) ⟨by simp,fun y hy=>by rw[hg y hy,hg _ (hP.lt y hy)]⟩ hx (hg x hx)
 rw[Ztz h0 h1 h2 h3]
 exact⟨h0,h2,h3⟩
theorem Z6e {x:Nat} (hx:x<N):per T N x≤N+1:=by
 have hg:∀ y,y<N→(List.replicate N false).getD y true=false:=fun y hy=>by rw[List.getD_eq_getElem?_getD,List.getElem?_replicate,if_pos hy]; rfl
 obtain⟨L,h0,h1,h2,h3,_⟩:=Zl5 hP (S:=List.replicate N false) ⟨by simp,fun y hy=>by rw[hg y hy,hg _ (hP.lt y hy)]⟩ hx (hg x hx)
 rw[Ztz h0 h1 h2 h3]
 exact h1
theorem Z5m {x:Nat} (hx:x<N):per T N (T x)=per T N x:=by
 obtain⟨h0,h1,h2⟩:=Zl6 hP hx
 refine Ztz h0 (Z6e hP hx) (by rw[Zkt,h1]) fun j hj hl e=>?_
 rw[Zkt]at e
 exact h2 j hj hl (hP.inj _ _ (Zi2 hP hx j) hx e)
theorem Z4m {x:Nat} (hx:x<N):Inn T n (T x)↔Inn T n x:=by
 obtain⟨h0,h1,_⟩:=Zl6 hP hx
 constructor
 ·intro h j
  cases j with
  | zero=>
   have:=h (per T N x - 1)
   rw[Zkt]at this
   have e:T (it T (per T N x - 1) x)=it T (per T N x - 1+1) x:=rfl
   rw[e,show per T N x - 1+1=per T N x by omega,h1]at this
   exact this
  | succ j=>
   have:=h j
   rw[Zkt]at this
   exact this
 ·intro h j
  rw[Zkt]
  exact h (j+1)
end
def cntL (P:Nat→Bool):Nat→List Bool→Nat
 | _,[]=>0
 | i,b :: r=>(if !b&&P i then 1 else 0)+cntL P (i+1) r
theorem Zye {P:Nat→Bool}:∀ (l:List Bool) (i j:Nat),l[j]? = some false→cntL P i (l.set j true)+(if P (i+j)then 1 else 0)=cntL P i l
 | [],_,_,h=>by simp at h
 | b :: r,i,0,h=>by
  simp only[List.getElem?_cons_zero,Option.some.injEq]at h
  subst h
  simp only[List.set_cons_zero,cntL,Bool.not_true,Bool.false_and,Bool.not_false,Bool.true_and,Nat.add_zero,Bool.false_eq_true,if_false]
  omega
 | b :: r,i,j+1,h=>by
  have:=Zye (P:=P) r (i+1) j (by simpa using h)
  rw[show i+1+j=i+(j+1) by omega]at this
  simp only[List.set_cons_succ,cntL]
  omega
theorem Zxx {P:Nat→Bool}:∀ (l:List Bool) (i:Nat),(∀ y,l.getD y true=true)→cntL P i l=0
 | [],_,_=>rfl
 | b :: r,i,h=>by
  have h0:b=true:=by simpa using h 0
  subst h0
  have:=Zxx (P:=P) r (i+1) fun y=>by simpa using h (y+1)
  simp only[cntL,this]
  simp
theorem Zuf {P:Nat→Bool}:∀ (k i:Nat),cntL P i (List.replicate k false)=((List.range' i k).filter P).length
 | 0,_=>rfl
 | k+1,i=>by
  rw[List.replicate_succ,cntL,Zuf k (i+1),List.range'_succ,List.filter_cons]
  cases P i<;>simp<;>omega
section
variable {T:Nat→Nat} {N n:Nat} (hP:Perm1 T N)
include hP
theorem Z61 {P:Nat→Bool} (hPT:∀ d,d<N→P (T d)=P d):∀ (k:Nat) (seen:List Bool) (x:Nat),seen.length=N→x<N →
 cntL P 0 (Plain.mark T k seen x)+(if P x then (tr T k seen x).length else 0)=cntL P 0 seen
 | 0,seen,x,_,_=>by simp[Plain.mark,tr]
 | k+1,seen,x,hs,hx=>by
  cases h:seen.getD x true with
  | true=>simp only[Plain.mark,tr,h,if_true,List.length_nil]; split<;>rfl
  | false=>
   have hg:seen[x]? = some false:=by
    rw[List.getD_eq_getElem?_getD,List.getElem?_eq_getElem (by omega)]at h
    rw[List.getElem?_eq_getElem (by omega)]
    simpa using h
   have h1:=Zye (P:=P) seen 0 x hg
   have h2:=Z61 hPT k (seen.set x true) (T x) (by simpa using hs) (hP.lt x hx)
   rw[hPT x hx]at h2
   simp only[Plain.mark,tr,h,Bool.false_eq_true,if_false,List.length_cons]
   rw[Nat.zero_add]at h1
   by_cases hp:P x=true
   ·rw[if_pos hp]at h1 h2 ⊢; omega
   ·rw[if_neg hp]at h1 h2 ⊢; omega
theorem Zxr {S:List Bool} (hc:Clo T N S) {x:Nat} (hx:x<N) (hSx:S.getD x true=false):Clo T N (Plain.mark T (N+1) S x):=by
 obtain⟨L,h0,h1,h2,h3,h4,h5⟩:=Zl5 hP hc hx hSx
 refine⟨by rw[Zhu]; exact hc.len,fun y hy=>?_⟩
 have e:((Plain.mark T (N+1) S x).getD (T y) true=true↔(Plain.mark T (N+1) S x).getD y true=true):=by
  rw[h5 _ (hP.lt y hy),h5 y hy,hc.same y hy]
  constructor
  ·rintro(h|⟨j,hj,h⟩)
   ·exact .inl h
   ·refine .inr ?_
    cases j with
    | zero=>
     refine⟨L - 1,by omega,hP.inj _ _ (Zi2 hP hx _) hy ?_⟩
     have e:T (it T (L - 1) x)=it T (L - 1+1) x:=rfl
     rw[e,show L - 1+1=L by omega,h2]
     exact h
    | succ j=>exact ⟨j,by omega,hP.inj _ _ (Zi2 hP hx _) hy h⟩
  ·rintro(h|⟨j,hj,rfl⟩)
   ·exact .inl h
   ·refine .inr ?_
    rcases Nat.lt_or_ge (j+1) L with h'|h'
    ·exact⟨j+1,h',rfl⟩
    ·have:L=j+1:=by omega
     subst this
     exact⟨0,by omega,h2.symm⟩
 cases ha:(Plain.mark T (N+1) S x).getD (T y) true<;>cases hb:(Plain.mark T (N+1) S x).getD y true<;>rw[ha,hb]at e<;>simp at e ⊢
def sig (n:Nat) (w:List Nat):Nat×Bool:=(w.length,w.all fun d=>decide (d<n))
open Classical in
noncomputable def PK (T:Nat→Nat) (N n K:Nat) (b:Bool) (d:Nat):Bool:=decide (per T N d=K)&&(decide (Inn T n d) == b)
omit hP in
theorem Zp6 {L x:Nat} (h0:0<L) (h1:it T L x=x):(∀ j,j<L→it T j x<n)↔Inn T n x:=by
 refine⟨fun h j=>?_,fun h j _=>h j⟩
 have hm:∀ q,it T (L*q) x=x:=fun q=>by
  induction q with
  | zero=>rfl
  | succ q ih=>rw[Nat.mul_succ,Zxm,h1,ih]
 have e:j=j % L+L*(j / L):=by rw[Nat.mod_add_div]
 rw[e,Zxm,hm]
 exact h _ (Nat.mod_lt _ h0)
open Classical in
theorem Z19 {S:List Bool} (hc:Clo T N S) {x:Nat} (hx:x<N) (hSx:S.getD x true=false):sig n (tr T (N+1) S x)=(per T N x,decide (Inn T n x)):=by
 obtain⟨L,h0,h1,h2,h3,h4,h5⟩:=Zl5 hP hc hx hSx
 rw[h4,Ztz h0 h1 h2 h3]
 unfold sig
 refine Prod.ext (by simp) ?_
 have:((List.map (fun j=>it T j x) (List.range' 0 L)).all fun d=>decide (d<n))=true↔Inn T n x:=by
  rw[← Zp6 h0 h2,List.all_eq_true]
  constructor
  ·intro h j hj
   have:=h (it T j x) (List.mem_map.2 ⟨j,by simp[hj],rfl⟩)
   simpa using this
  ·intro h d hd
   obtain⟨j,hj,rfl⟩:=List.mem_map.1 hd
   have:=h j (by simpa using hj)
   simpa using this
 by_cases h:Inn T n x
 ·rw[this.2 h]; simp[h]
 ·have h':¬((List.map (fun j=>it T j x) (List.range' 0 L)).all fun d=>decide (d<n))=true:=fun e=>h (this.1 e)
  simp only[Bool.not_eq_true]at h'
  show((List.map (fun j=>it T j x) (List.range' 0 L)).all fun d=>decide (d<n))=decide (Inn T n x)
  rw[h']; simp[h]
theorem Z8t (K:Nat) (b:Bool) {d:Nat} (hd:d<N):PK T N n K b (T d)=PK T N n K b d:=by
 classical
 unfold PK
 rw[Z5m hP hd]
 congr 2
 exact decide_eq_decide.2 (Z4m hP hd)
theorem Zo1 (K:Nat) (b:Bool):∀ (k:Nat) (seen:List Bool),k≤N→Clo T N seen→(∀ y,y<N - k→seen.getD y true=true) →
 K*((wks T N k seen).map (sig n)).count (K,b)=cntL (PK T N n K b) 0 seen
 | 0,seen,_,hc,hd=>by
  rw[Zxx]
  ·simp[wks]
  ·intro y
   rcases Nat.lt_or_ge y N with h|h
   ·exact hd y (by omega)
   ·rw[List.getD_eq_getElem?_getD,List.getElem?_eq_none (by rw[hc.len]; omega)]; rfl
 | k+1,seen,hk,hc,hd=>by
  have hx:N - (k+1)<N:=by omega
  simp only[wks]
  have hstep:∀ seen':List Bool,(∀ y,seen.getD y true=true→seen'.getD y true=true)→seen'.getD (N - (k+1)) true=true → ∀ y,y<N - k→seen'.getD y true=true:=fun seen' h1 h2 y hy=>by
   rcases Nat.lt_or_ge y (N - (k+1))with h3|h3
   ·exact h1 y (hd y h3)
   ·have:y=N - (k+1):=by omega
    rw[this]; exact h2
  cases h:seen.getD (N - (k+1)) true with
  | true=>
   rw[if_pos rfl]
   exact Zo1 K b k seen (by omega) hc (hstep seen (fun _ h=>h) h)
  | false=>
   rw[if_neg (by simp)]
   have hl:=hc.len
   have ih:=Zo1 K b k (Plain.mark T (N+1) seen (N - (k+1))) (by omega) (Zxr hP hc hx h) (hstep _ (fun y hy=>Zfv _ _ _ hy) (by
    simp only[Plain.mark,h,Bool.false_eq_true,if_false]
    exact Zfv _ _ _ (by rw[Zcp (by omega)]; simp)))
   have hcnt:=Z61 hP (P:=PK T N n K b) (fun d hd=>Z8t hP K b hd) (N+1) seen (N - (k+1)) hl hx
   have hsig:=Z19 (n:=n) hP hc hx h
   have hlen:(tr T (N+1) seen (N - (k+1))).length=per T N (N - (k+1)):=congrArg Prod.fst hsig
   rw[List.map_cons,List.count_cons,hsig,Nat.mul_add,ih]
   by_cases hp:PK T N n K b (N - (k+1))=true
   ·rw[if_pos hp,hlen]at hcnt
    unfold PK at hp
    simp only[Bool.and_eq_true,decide_eq_true_eq,beq_iff_eq]at hp
    rw[if_pos (by simp[hp.1,hp.2])]
    rw[hp.1]at hcnt
    omega
   ·rw[if_neg hp]at hcnt
    rw[if_neg]
    ·omega
    ·intro e
     apply hp
     simp only[beq_iff_eq,Prod.mk.injEq]at e
     unfold PK
     simp only[Bool.and_eq_true,decide_eq_true_eq,beq_iff_eq]
     exact e
theorem Zp5 (K:Nat) (b:Bool):K*((Zed T N).map (sig n)).count (K,b)=((List.range N).filter (PK T N n K b)).length:=by
 have hg:∀ y,y<N→(List.replicate N false).getD y true=false:=fun y hy=>by rw[List.getD_eq_getElem?_getD,List.getElem?_replicate,if_pos hy]; rfl
 rw[Zed,Zo1 hP K b N _ (Nat.le_refl _) ⟨by simp,fun y hy=>by rw[hg y hy,hg _ (hP.lt y hy)]⟩ (fun y hy=>by omega),Zuf,List.range_eq_range']
end
theorem Z1v {T:Nat→Nat} {N n:Nat}:∀ w,w∈Zed T N→0<w.length:=by
 have:∀ (k:Nat) (seen:List Bool),∀ w,w∈wks T N k seen→0<w.length:=by
  intro k
  induction k with
  | zero=>intro seen w hw; simp[wks]at hw
  | succ k ih=>
   intro seen w hw
   simp only[wks]at hw
   cases h:seen.getD (N - (k+1)) true with
   | true=>rw[h,if_pos rfl]at hw; exact ih _ w hw
   | false=>
    rw[h,if_neg (by simp)]at hw
    rcases List.mem_cons.1 hw with rfl|hw
    ·simp only[tr,h,Bool.false_eq_true,if_false,List.length_cons]; omega
    ·exact ih _ w hw
 exact this N _
structure Opp (T T':Nat→Nat) (N n:Nat) (φ ψ:Nat→Nat):Prop where
 p:Perm1 T N
 q:Perm1 T' N
 lt:∀ x,x<N→φ x<N
 ltr:∀ x,x<N→ψ x<N
 inv:∀ x,x<N→ψ (φ x)=x
 inr:∀ x,x<N→φ (ψ x)=x
 opp:∀ x,x<N→T' (φ (T x))=φ x
 str:∀ x,x<N→(φ x<n↔x<n)
section
variable {T T':Nat→Nat} {N n:Nat} {φ ψ:Nat→Nat} (h:Opp T T' N n φ ψ)
include h
theorem Z12 {x:Nat} (hx:x<N):∀ j,it T' j (φ (it T j x))=φ x
 | 0=>rfl
 | j+1=>by
  have hj:=Zi2 h.p hx j
  rw[show it T' (j+1) (φ (it T (j+1) x))=it T' j (T' (φ (it T (j+1) x))) from(Zkt T' j _).symm]
  show it T' j (T' (φ (T (it T j x))))=φ x
  rw[h.opp _ hj]
  exact Z12 hx j
omit h in
theorem Z6j {T:Nat→Nat} (hp:Perm1 T N):∀ (j:Nat) {x y:Nat},x<N→y<N→it T j x=it T j y→x=y
 | 0,_,_,_,_,e=>e
 | j+1,_,_,hx,hy,e=>Z6j hp j hx hy (hp.inj _ _ (Zi2 hp hx j) (Zi2 hp hy j) e)
theorem Zwk {x:Nat} (hx:x<N) (j:Nat):it T' j (φ x)=φ x↔it T j x=x:=by
 have h1:=Z12 h hx j
 have hj:=Zi2 h.p hx j
 constructor
 ·intro e
  rw[← h1]at e
  have:=Z6j h.q j (h.lt _ hx) (h.lt _ hj) (by rw[h1]at e ⊢; exact e)
  have e2:=h.inv _ hx
  rw[this,h.inv _ hj]at e2
  exact e2
 ·intro e
  rw[e]at h1
  exact h1
theorem Z86 {x:Nat} (hx:x<N):per T' N (φ x)=per T N x:=by
 obtain⟨h0,h1,h2⟩:=Zl6 h.p hx
 exact Ztz h0 (Z6e h.p hx) ((Zwk h hx _).2 h1) fun j a b e=>h2 j a b ((Zwk h hx _).1 e)
theorem Z8d {x:Nat} (hx:x<N):Inn T' n (φ x)↔Inn T n x:=by
 obtain⟨h0,h1,_⟩:=Zl6 h.p hx
 have h1':=(Zwk h hx (per T N x)).2 h1
 rw[← Zp6 h0 h1,← Zp6 h0 h1']
 generalize per T N x=L at *
 have key:∀ j,j≤L→it T' j (φ x)=φ (it T (L - j) x):=fun j hj=>by
  have:=Z12 h (Zi2 h.p hx (L - j)) j
  rw[← Zxm,show j+(L - j)=L by omega,h1]at this
  exact this
 constructor
 ·intro g j hj
  cases j with
  | zero=>
   have:=g 0 h0
   exact(h.str x hx).1 this
  | succ j=>
   have:=g (L - (j+1)) (by omega)
   rw[key _ (by omega),show L - (L - (j+1))=j+1 by omega]at this
   exact(h.str _ (Zi2 h.p hx _)).1 this
 ·intro g j hj
  rw[key j (by omega)]
  refine(h.str _ (Zi2 h.p hx _)).2 ?_
  cases j with
  | zero=>rw[Nat.sub_zero,h1]; exact g 0 h0
  | succ j=>exact g _ (by omega)
theorem Z59 {x:Nat} (hx:x<N) (K:Nat) (b:Bool):PK T' N n K b (φ x)=PK T N n K b x:=by
 classical
 unfold PK
 rw[Z86 h hx]
 congr 2
 exact decide_eq_decide.2 (Z8d h hx)
omit h in
theorem Zpa {f:Nat→Nat}:∀ {l:List Nat},(∀ x y,x∈l→y∈l→f x=f y→x=y)→l.Nodup→(l.map f).Nodup
 | [],_,_=>by simp
 | a :: r,hf,hn=>by
  obtain⟨h1,h2⟩:=List.nodup_cons.1 hn
  rw[List.map_cons,List.nodup_cons]
  refine⟨fun hm=>?_,Zpa (fun x y hx hy=>hf x y (List.mem_cons_of_mem _ hx) (List.mem_cons_of_mem _ hy)) h2⟩
  obtain⟨y,hy,e⟩:=List.mem_map.1 hm
  have:=hf y a (List.mem_cons_of_mem _ hy) (List.mem_cons_self ..) e
  subst this
  exact h1 hy
theorem Z2j:((Zed T N).map (sig n)).Perm ((Zed T' N).map (sig n)):=by
 rw[List.perm_iff_count]
 rintro⟨K,b⟩
 have hc:((List.range N).filter (PK T N n K b)).length=((List.range N).filter (PK T' N n K b)).length:=by
  refine Nat.le_antisymm ?_ ?_
  ·have:=List.Nodup.length_le_of_subset (l₁:=((List.range N).filter (PK T N n K b)).map φ) (l₂:=(List.range N).filter (PK T' N n K b)) (Zpa (fun x y hx hy e=>by
    have hx':=List.mem_range.1 (List.mem_filter.1 hx).1
    have hy':=List.mem_range.1 (List.mem_filter.1 hy).1
    have:=h.inv x hx'
    rw[e,h.inv y hy']at this
    exact this.symm) (List.nodup_range.filter _)) fun y hy=>by
    obtain⟨x,hx,rfl⟩:=List.mem_map.1 hy
    obtain⟨h1,h2⟩:=List.mem_filter.1 hx
    have h1:=List.mem_range.1 h1
    exact List.mem_filter.2 ⟨List.mem_range.2 (h.lt x h1),by rw[Z59 h h1]; exact h2⟩
   simpa using this
  ·have:=List.Nodup.length_le_of_subset (l₁:=((List.range N).filter (PK T' N n K b)).map ψ) (l₂:=(List.range N).filter (PK T N n K b)) (Zpa (fun x y hx hy e=>by
    have hx':=List.mem_range.1 (List.mem_filter.1 hx).1
    have hy':=List.mem_range.1 (List.mem_filter.1 hy).1
    have:=h.inr x hx'
    rw[e,h.inr y hy']at this
    exact this.symm) (List.nodup_range.filter _)) fun y hy=>by
    obtain⟨x,hx,rfl⟩:=List.mem_map.1 hy
    obtain⟨h1,h2⟩:=List.mem_filter.1 hx
    have h1:=List.mem_range.1 h1
    refine List.mem_filter.2 ⟨List.mem_range.2 (h.ltr x h1),?_⟩
    have:=Z59 h (h.ltr x h1) K b
    rw[h.inr x h1]at this
    rw[← this]; exact h2
   simpa using this
 have e1:=Zp5 (n:=n) h.p K b
 have e2:=Zp5 (n:=n) h.q K b
 rcases Nat.eq_zero_or_pos K with h0|h0
 ·subst h0
  have z:∀ (T:Nat→Nat),((Zed T N).map (sig n)).count (0,b)=0:=fun T=>List.count_eq_zero.2 fun hm=>by
   obtain⟨w,hw,e⟩:=List.mem_map.1 hm
   have:=Z1v (n:=n) w hw
   have e:=congrArg Prod.fst e
   simp only[sig]at e
   omega
  rw[z,z]
 ·rw[hc,← e2]at e1
  exact Nat.eq_of_mul_eq_mul_left h0 e1
end
end Go.Known
