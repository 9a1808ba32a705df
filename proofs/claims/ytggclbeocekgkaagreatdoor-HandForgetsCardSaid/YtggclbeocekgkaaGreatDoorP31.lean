/- Part 31 of the proof: Rr, Pl, Pm. -/
import Derived.Test.YtggclbeocekgkaaGreatDoorP19
import Derived.Test.YtggclbeocekgkaaGreatDoorP28
import Derived.Test.YtggclbeocekgkaaGreatDoorP30
set_option linter.all false
section
namespace Go.Ac
open Go Go.AE Go.Proofs
open Go.Plain
theorem wI{T:Nat→Nat}{N:Nat}(hT:∀ d,d<N→T d<N):∀ (k:Nat) (seen:List Bool) (x:Nat),x<N → ∀ y,y∈tr T k seen x→y<N
 | 0,_,_,_,y,h=>by simp[tr]at h
 | k+1,seen,x,hx,y,h=>by
  simp only[tr]at h;split at h
  ·simp at h
  ·rcases mC.1 h with rfl|h
   ·exact hx
   ·exact wI hT k _ _ (hT x hx) y h
theorem ZF{T:Nat→Nat}{N:Nat}(hT:∀ d,d<N→T d<N):∀ (k:Nat) (seen:List Bool),k≤N→(Dw T N k seen).length≤k ∧ ∀ w,w∈Dw T N k seen→w.length≤N+1 ∧ ∀ x,x∈w→x<N
 | 0,_,_=>by simp[Dw]
 | k+1,seen,hk=>by
  simp only[Dw];split
  ·have:=ZF hT k seen (by omega)
   exact⟨by omega,this.2⟩
  ·have:=ZF hT k (Plain.mark T (N+1) seen (N - (k+1))) (by omega)
   refine⟨by simp; omega,fun w hw=>?_⟩
   rcases mC.1 hw with rfl|hw
   ·exact⟨Yp T _ _ _,wI hT _ _ _ (by omega)⟩
   ·exact this.2 w hw
theorem ZD{T:Nat→Nat}{n N:Nat}(hn:n≤N)(hA:∀ z,n≤z→z<N→T z<n)(hT:∀ d,d<N→T d<N)(hI:∀ y y',y<n→y'<n→n≤T y→T y=T y'→y=y')(hS:∀ z,n≤z→z<N → ∃ y,y<n∧T y=z) :
 ∀(k:Nat) (seen:List Bool),k≤n→seen.length=N→(∀ y,y<n - k→seen.getD y true=true)→(∀ y,y<n→n≤T y→seen.getD (T y) true=seen.getD y true) →
  ∀ w,w∈Dw T N (k+(N - n)) seen → ∃ d r,w=d :: r∧d<n
 | 0,seen,_,hs,hd,hJ=>by
  rw[Zz]
  ·intro w hw; simp at hw
  ·intro x;rcases lG x n with h1|h1
   ·exact hd x (by omega)
   ·rcases lG x N with h2|h2
    ·obtain⟨y,hy,rfl⟩:=hS x h1 h2;rw[hJ y hy h1];exact hd y (by omega)
    ·rw[List.getD_eq_getElem?_getD,List.getElem?_eq_none (by omega)]; rfl
 | k+1,seen,hk,hs,hd,hJ=>by
  have e:k+1+(N - n)=(k+(N - n))+1:=by omega
  have e2:N - (k+(N - n)+1)=n - (k+1):=by omega
  rw[e];simp only[Dw,e2];have hstep:∀ seen':List Bool,(∀ y,seen.getD y true=true→seen'.getD y true=true)→seen'.getD (n - (k+1)) true=true → ∀ y,y<n - k→seen'.getD y true=true:=fun seen' h1 h2 y hy=>by
   rcases lG y (n - (k+1))with h3|h3
   ·exact h1 y (hd y h3)
   ·have:y=n - (k+1):=by omega
    rw[this]; exact h2
  cases hx:seen.getD (n - (k+1)) true with
  | true=>
   simp only[if_true];exact ZD hn hA hT hI hS k seen (by omega) hs (hstep seen (fun _ h=>h) hx) hJ
  | false=>
   have hul:=OG (l:=seen);have hul2:=OG (l:=seen.take n);rw[lK]at hul2;obtain⟨_,_,h3⟩:=nQ hn hA hT hI (N+1) (2*n+2) seen (n - (k+1)) hs (by omega) (by omega) (by rw[iN (by omega)]; omega)
    (fun y hy hTy=>by
      rw[hJ y hy hTy];have:T y≠n - (k+1):=by omega
      simp[this]) (fun h=>by omega)
   simp only[bF,if_false];intro w hw;rcases mC.1 hw with rfl|hw
   ·refine⟨n - (k+1),tr T N (seen.set (n - (k+1)) true) (T (n - (k+1))),?_,by omega⟩
    simp only[tr,hx,bF,if_false]
   ·refine ZD hn hA hT hI hS k _ (by omega) (by rw[SV]; exact hs) (hstep _ (fun y hy=>Ov _ _ _ hy) ?_) h3 w hw
    simp only[Plain.mark,hx,bF,if_false];exact Ov _ _ _ (by rw[H1 (by omega)]; simp)
theorem Z6p{T:Nat→Nat}{n N:Nat}(hn:n≤N)(hA:∀ z,n≤z→z<N→T z<n)(hT:∀ d,d<N→T d<N)(hI:∀ y y',y<n→y'<n→n≤T y→T y=T y'→y=y')(hS:∀ z,n≤z→z<N → ∃ y,y<n∧T y=z) :
 ∀ w,w∈J8 T N → ∃ d r,w=d :: r∧d<n:=by
 have h:=ZD hn hA hT hI hS n (List.replicate N false) (lR _) (by simp) (fun y hy=>by omega) (fun y hy hTy=>by
  have h1:∀ y,y<N→(List.replicate N false).getD y true=false:=fun y hy=>by rw[List.getD_eq_getElem?_getD,List.getElem?_replicate,iP hy]; rfl
  rw[h1 y (by omega),h1 (T y) (hT y (by omega))])
 rw[Nat.add_sub_cancel' hn]at h;exact h
theorem yV{f:Int}{ls:List Lt}(he:U0 f ls=0)(h0:ls≠[]):0≤f∧f≤40∧Og f.toNat ls:=by
 unfold U0 at he;split at he
 ·cases he
 ·split at he
  ·cases he
  ·rename_i h1 h2;split at he
   ·rename_i h3;exact⟨by omega,by omega,h3.resolve_left h0⟩
   ·cases he
structure Cz (f:Int) (ls:List Lt):Prop where
 fill:Di ls (Ba ls ls.length)
 He:0<Z0 ls
 GY:∀ v,v<ls.length→(at' ls v).k≠2→(at' ls v).k=1
 axi:∀ v,v∈Z2 ls→v<ls.length∧0≤(at' ls v).g∧(at' ls v).g≤40
theorem Z97{f:Int}{ls:List Lt}(h:ls.length≤1000)(he:U0 f ls=0)(h0:ls≠[]):Cz f ls:=by
 obtain⟨hf0,EK,h1,h2,h3,h4,h5,h6⟩:=yV he h0;have hpos:0<ls.length:=List.length_pos_iff.2 h0;have hfl:=pK h h1 hpos h2 h4 h5;have hG:=On h1;refine⟨hfl,by rw[← O5]; exact hfl.some,fun v hv hk=>(hfl.kind v hv).resolve_right hk,fun v hv=>?_⟩
 obtain⟨hv1,hv2⟩:=AB.1 hv;have:=hG _ (O0 hv1) hv2;exact⟨hv1,this.1,by omega⟩
section
variable {f:Int} {ls:List Lt}
abbrev Re(ls:List Lt):List (List Nat):=J8 (X7 ls (Z2 ls)) (2*ls.length+2*Z0 ls)
theorem Cz.Uu(h:Cz f ls):(Re ls).map (KC (2*ls.length))=B6 (X7 ls (Z2 ls)) (2*ls.length):=uc h.He h.GY
theorem Cz.wk(h:Cz f ls):(Re ls).length≤4000 ∧ ∀ w,w∈Re ls → ∃ d r,w=d :: r∧d<2*ls.length∧w.length≤4001 ∧ ∀ x,x∈w→x<2*ls.length+2*Z0 ls:=by
 obtain⟨h1,h2,h3,h4⟩:=Xj h.He h.GY;have hpl:Z0 ls≤ls.length:=B3;have hs:=h.fill.small;obtain⟨a1,a2⟩:=ZF h2 (2*ls.length+2*Z0 ls) (List.replicate (2*ls.length+2*Z0 ls) false) (lR _);refine⟨Nat.le_trans a1 (by omega),fun w hw=>?_⟩
 obtain⟨d,r,e,hd⟩:=Z6p (by omega) h1 h2 h3 h4 w hw
 obtain⟨b1,b2⟩:=a2 w hw;exact⟨d,r,e,hd,by omega,b2⟩
theorem Cz.fc(h:Cz f ls):(B6 (X7 ls (Z2 ls)) (2*ls.length)).length≤4000 ∧ ∀ w,w∈B6 (X7 ls (Z2 ls)) (2*ls.length)→w.1≠[]∧w.1.length≤5000 ∧ ∀ x,x∈w.1→x<2*ls.length:=by
 obtain⟨h1,h2⟩:=h.wk;rw[← h.Uu];refine⟨by simpa using h1,fun w hw=>?_⟩
 obtain⟨v,hv,rfl⟩:=mM.1 hw;obtain⟨d,r,e,hd,hl,_⟩:=h2 v hv;refine⟨?_,?_,fun x hx=>?_⟩
 ·subst e;simp[KC,hd]
 ·have:(KC (2*ls.length) v).1.length≤v.length:=List.length_filter_le _ _;omega
 ·have:=(List.mem_filter.1 hx).2;simpa using this
theorem Cz.T(h:Cz f ls):(∀ d,d<2*ls.length+2*(Z2 ls).length→X7 ls (Z2 ls) d<2*ls.length+2*(Z2 ls).length) ∧
 ∀ d,2*ls.length≤d→d<2*ls.length+2*(Z2 ls).length→X7 ls (Z2 ls) d<2*ls.length:=by
 obtain⟨h1,h2,_,_⟩:=Xj h.He h.GY;rw[O5];exact⟨h2,h1⟩
end
end Go.Ac
end
section
namespace Go.Ac
open Go.Plain
section
variable {T:Nat→Nat} {N n:Nat} (hP:BJ T N)
include hP
theorem aJ:Lq T N (List.replicate N false):=by
 have hg:∀ y,y<N→(List.replicate N false).getD y true=false:=fun y hy=>by grind
 exact⟨by simp,fun y hy=>by rw[hg y hy,hg _ (hP.lt y hy)]⟩
theorem YZ:∀ (k:Nat) (seen:List Bool),k≤N→Lq T N seen → ∀ w,w∈Dw T N k seen → ∀ d,d∈w→d<N∧T d∈w
 | 0,seen,_,_,w,hw=>by simp[Dw]at hw
 | k+1,seen,hk,hc,w,hw=>by
  have hx:N - (k+1)<N:=by omega
  simp only[Dw]at hw;cases h:seen.getD (N - (k+1)) true with
  | true=>
   rw[h,iP rfl]at hw;exact YZ k seen (by omega) hc w hw
  | false=>
   rw[h,iN (by simp)]at hw
   rcases mC.1 hw with rfl|hw
   ·obtain⟨L,h0,h1,h2,h3,h4,h5⟩:=WB hP hc hx h;rw[h4];intro d hd;obtain⟨j,hj,rfl⟩:=mM.1 hd;have hj:j<L:=by simpa using hj
    refine⟨Ho hP hx j,mM.2 ?_⟩;rcases lG (j+1) L with h'|h'
    ·exact⟨j+1,by simpa using h',rfl⟩
    ·have:L=j+1:=by omega
     subst this;exact⟨0,by simp,h2.symm⟩
   ·exact YZ k _ (by omega) (Za hP hc hx h) w hw
theorem Vg:∀ w,w∈J8 T N → ∀ d,d∈w→d<N∧T d∈w:=YZ hP N _ (lR _) (aJ hP)
theorem uV(P:Nat→Bool):∀ (k:Nat) (seen:List Bool) (x:Nat),seen.length=N→x<N →
 DY P 0 (Plain.mark T k seen x)+((tr T k seen x).filter P).length=DY P 0 seen
 | 0,seen,x,_,_=>by simp[Plain.mark,tr]
 | k+1,seen,x,hs,hx=>by
  cases h:seen.getD x true with
  | true=>simp only[Plain.mark,tr,h,if_true,List.filter_nil,List.length_nil]; rfl
  | false=>
   have hg:seen[x]? = some false:=by
    rw[List.getD_eq_getElem?_getD,gE (by omega)]at h
    rw[gE (by omega)]
    simpa using h
   have h1:=yU (P:=P) seen 0 x hg;have h2:=uV P k (seen.set x true) (T x) (by simpa using hs) (hP.lt x hx)
   simp only[Plain.mark,tr,h,bF,if_false,List.filter_cons]
   grind
theorem Zv(P:Nat→Bool):∀ (k:Nat) (seen:List Bool),k≤N→seen.length=N→(∀ y,y<N - k→seen.getD y true=true) →
 ((Dw T N k seen).map fun w=>(w.filter P).length).sum=DY P 0 seen
 | 0,seen,_,hs,hd=>by
  rw[zU]
  ·simp[Dw]
  grind
 | k+1,seen,hk,hs,hd=>by
  have hx:N - (k+1)<N:=by omega
  simp only[Dw];have hstep:∀ seen':List Bool,(∀ y,seen.getD y true=true→seen'.getD y true=true)→seen'.getD (N - (k+1)) true=true → ∀ y,y<N - k→seen'.getD y true=true:=fun seen' h1 h2 y hy=>by
   grind
  cases h:seen.getD (N - (k+1)) true with
  | true=>
   rw[iP rfl];exact Zv P k seen (by omega) hs (hstep seen (fun _ h=>h) h)
  | false=>
   rw[iN (by simp)]
   have ih:=Zv P k (Plain.mark T (N+1) seen (N - (k+1))) (by omega) (by rw[SV]; exact hs) (hstep _ (fun y hy=>Ov _ _ _ hy) (by
    simp only[Plain.mark,h,bF,if_false];exact Ov _ _ _ (by rw[H1 (by omega)]; simp)))
   have hcnt:=uV hP P (N+1) seen (N - (k+1)) hs hx
   grind
theorem Wx(P:Nat→Bool):((J8 T N).map fun w=>(w.filter P).length).sum=((List.range N).filter P).length:=by
 rw[J8,Zv hP P N _ (lR _) (by simp) (fun y hy=>by omega),qR,List.range_eq_range']
end
section
variable {ls:List Lt}
end
end Go.Ac
end
section
namespace Go.Ac
open Go.Plain
def arr(n v:Nat)(b:Bool):Nat:=if b then 2*((v+n - 1) % n)else 2*v+1
theorem WM{n v:Nat}(hv:v<n)(b:Bool):arr n v b<2*n∧T1 n (arr n v b)=v∧(arr n v b % 2 == 0)=b:=by
 cases b with
 | true=>
  have hm:=Nat.mod_lt (v+n - 1) (show 0<n by omega)
  have e:(v+n - 1) % n=if v=0 then n - 1 else v - 1:=by
   split
   ·simp_all
   ·have:v+n - 1=(v - 1)+n:=by omega
    rw[this,Nat.add_mod_right,Nat.mod_eq_of_lt (by omega)]
  unfold arr T1;simp only[if_true];refine⟨by omega,?_,by simp⟩
  rw[iP (by omega),show 2*((v+n - 1) % n) / 2=(v+n - 1) % n by omega,e]
  split
  ·rename_i h; subst h; rw[show n - 1+1=n by omega,Nat.mod_self]
  ·rw[show v - 1+1=v by omega,Nat.mod_eq_of_lt hv]
 | false=>
  unfold arr T1
  grind
theorem mE{n d:Nat}(hd:d<2*n):∃ v b,v<n∧d=arr n v b:=by
 have hh:=tC hd;obtain⟨h1,h2,h3⟩:=WM hh (d % 2 == 0);refine⟨T1 n d,(d % 2 == 0),hh,ZG hd h1 h2.symm ?_⟩
 grind
section
variable {ls:List Lt}
theorem aC{v:Nat}(hv:v<ls.length)(b:Bool):X7 ls (Z2 ls) (arr ls.length v b)=if (at' ls v).k=2 then X6 ls.length (Q4 ls v ls.length 0) (b == ((at' ls v).o == ((at' ls v).s == 1)))
 else if Z8 ls v=b then 2*ls.length+2*W7 v (Z2 ls)else 2*ls.length+2*((W7 v (Z2 ls)+Z0 ls - 1) % Z0 ls)+1:=by
 obtain⟨h1,h2,h3⟩:=WM hv b;rw[RD h1,h2,h3,O5]
theorem Z1p{p:Nat}:X7 ls (Z2 ls) (2*ls.length+2*p)=X6 ls.length ((Z2 ls).getD ((p+1) % Z0 ls) 0) (!Z8 ls ((Z2 ls).getD ((p+1) % Z0 ls) 0)):=by
 unfold X7;rw[iP (by omega),iP (by omega),O5,show (2*ls.length+2*p - 2*ls.length) / 2=p by omega]
theorem Z2c{p:Nat}:X7 ls (Z2 ls) (2*ls.length+2*p+1)=X6 ls.length ((Z2 ls).getD p 0) (Z8 ls ((Z2 ls).getD p 0)):=by
 unfold X7
 grind
structure Wv (ls:List Lt):Prop where
 He:0<Z0 ls
 GY:∀ v,v<ls.length→(at' ls v).k≠2→(at' ls v).k=1
 Gy:∀ v,v<ls.length→(at' ls v).k=2→Q4 ls v ls.length 0<ls.length∧(at' ls (Q4 ls v ls.length 0)).k=2∧Q4 ls (Q4 ls v ls.length 0) ls.length 0=v ∧
  (at' ls (Q4 ls v ls.length 0)).o=(!(at' ls v).o)∧(at' ls (Q4 ls v ls.length 0)).s=(at' ls v).s
structure sv (ls ls':List Lt) (ρ σ:Nat→Nat) (fl:Bool):Prop where
 wv:Wv ls
 len:ls'.length=ls.length
 He:Z0 ls'=Z0 ls
 lt:∀ v,v<ls.length→ρ v<ls.length
 qj:∀ v,v<ls.length→σ v<ls.length
 inv:∀ v,v<ls.length→σ (ρ v)=v
 inr:∀ v,v<ls.length→ρ (σ v)=v
 pre:∀ v,v<ls.length→ρ ((v+ls.length - 1) % ls.length)=(ρ v+ls.length - 1) % ls.length
 GY:∀ v,v<ls.length→(at' ls' (ρ v)).k=(at' ls v).k
 Gy:∀ v,v<ls.length→(at' ls v).k=2→Q4 ls' (ρ v) ls.length 0=ρ (Q4 ls v ls.length 0)
 ov:∀ v,v<ls.length→(at' ls v).k=2→((at' ls' (ρ v)).o == ((at' ls' (ρ v)).s == 1)) = !((at' ls v).o == ((at' ls v).s == 1))
 dn:∀ v,v<ls.length→(at' ls v).k=1→Z8 ls' (ρ v)=(Z8 ls v != fl)
 idx:∀ v,v<ls.length→(at' ls v).k=1→W7 (ρ v) (Z2 ls')=if fl then W7 v (Z2 ls)else Z0 ls - 1 - W7 v (Z2 ls)
theorem vN{ls:List Lt}{p:Nat}(hp:p<Z0 ls):∃ v,v<ls.length∧(at' ls v).k=1∧(Z2 ls).getD p 0=v∧W7 v (Z2 ls)=p:=by
 have hg:(Z2 ls)[p]? = some ((Z2 ls).getD p 0):=by rw[List.getD,gE (by rw[O5]; exact hp)]; rfl
 have hm:=List.mem_of_getElem? hg;obtain⟨h1,h2⟩:=AB.1 hm;exact⟨_,h1,by simpa[Am]using h2,rfl,KT (Hq ls) (C3 hm).1 hg⟩
section
variable {ls ls':List Lt} {ρ σ:Nat→Nat} {fl:Bool} (h:sv ls ls' ρ σ fl)
include h
end
end
end Go.Ac
end
