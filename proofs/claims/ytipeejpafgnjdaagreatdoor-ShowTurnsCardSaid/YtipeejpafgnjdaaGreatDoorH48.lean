/- Part 48 of the proof: Zb, Yk. -/
import Derived.Test.YtipeejpafgnjdaaGreatDoorH35
import Derived.Test.YtipeejpafgnjdaaGreatDoorH39
import Derived.Test.YtipeejpafgnjdaaGreatDoorH47
set_option linter.all false
section
namespace Go.Known
open Go.Plain
section
variable {T T':Nat→Nat} {N:Nat} {φ ψ:Nat→Nat}
theorem Z0d(hp:Perm1 T N)(hlt:∀ x,x<N→φ x<N)(hltr:∀ x,x<N→ψ x<N)(hinv:∀ x,x<N→ψ (φ x)=x)(hinr:∀ x,x<N→φ (ψ x)=x)(hc:∀ x,x<N→T' (φ x)=φ (T x)):I0 T' N=I0 T N:=by
 obtain⟨S,hS⟩:∃ S:Nat→Nat,S=fun x=>it T (per T N x - 1) x:=⟨_,rfl⟩
 have hSlt:∀ x,x<N→S x<N:=fun x hx=>by rw[hS]; exact E3 hp hx _
 have hTS:∀ x,x<N→T (S x)=x:=fun x hx=>by
  obtain⟨h0,h1,_⟩:=Zgw hp hx;rw[hS];show it T (per T N x - 1+1) x=x;rw[show per T N x - 1+1=per T N x by omega]
  exact h1
 have hST:∀ x,x<N→S (T x)=x:=fun x hx=>hp.inj _ _ (hSlt _ (hp.lt x hx)) hx (hTS _ (hp.lt x hx))
 have hpS:Perm1 S N:=⟨hSlt,fun y y' hy hy' e=>by rw[← hTS y hy,e,hTS y' hy']⟩
 have hpT:Perm1 T' N:=by
  have e:∀ y,y<N→T' y=φ (T (ψ y)):=fun y hy=>by
   have:=hc (ψ y) (hltr y hy);rwa[hinr y hy]at this
  refine⟨fun y hy=>by rw[e y hy]; exact hlt _ (hp.lt _ (hltr y hy)),fun y y' hy hy' h=>?_⟩
  rw[e y hy,e y' hy']at h;have h1:=hinv _ (hp.lt _ (hltr y hy));rw[h,hinv _ (hp.lt _ (hltr y' hy'))]at h1;have h2:=hp.inj _ _ (hltr y' hy') (hltr y hy) h1;rw[← hinr y hy,← h2,hinr y' hy']
 have o1:Opp T S N N id id:=⟨hp,hpS,fun x hx=>hx,fun x hx=>hx,fun x _=>rfl,fun x _=>rfl,hST,fun x _=>Iff.rfl⟩
 have o2:Opp S T' N N φ ψ:=⟨hpS,hpT,hlt,hltr,hinv,hinr,fun x hx=>by rw[hc _ (hSlt x hx),hTS x hx],fun x hx=>⟨fun _=>hx,fun _=>hlt x hx⟩⟩
 have l1:=(Zp5 o1).length_eq;have l2:=(Zp5 o2).length_eq;rw[List.length_map,List.length_map]at l1 l2;unfold Q5 at l1 l2;rw[Zez,Zez]at l1 l2;unfold I0;omega
end
structure Cj (x y:List Lt) (e:Bool) (ρ σ:Nat→Nat):Prop where
 wx:Wv x
 wy:Wv y
 len:y.length=x.length
 pas:Z1 y=Z1 x
 lt:∀ v,v<x.length→ρ v<x.length
 ltr:∀ v,v<x.length→σ v<x.length
 inv:∀ v,v<x.length→σ (ρ v)=v
 inr:∀ v,v<x.length→ρ (σ v)=v
 pre:∀ v,v<x.length→ρ ((v+x.length - 1) % x.length)=if e then (ρ v+x.length - 1) % x.length else (ρ v+1) % x.length
 nxt:∀ v,v<x.length→ρ ((v+1) % x.length)=if e then (ρ v+1) % x.length else (ρ v+x.length - 1) % x.length
 kin:∀ v,v<x.length→(at' y (ρ v)).k=(at' x v).k
 oth:∀ v,v<x.length→(at' x v).k=2→W1 y (ρ v) x.length 0=ρ (W1 x v x.length 0)
 ov:∀ v,v<x.length→(at' x v).k=2→smN y (ρ v)=smN x v
 dn:∀ v,v<x.length→(at' x v).k=1→down y (ρ v)=(down x v == e)
 idx:∀ v,v<x.length→(at' x v).k=1→U1 (ρ v) (Z2 y)=U1 v (Z2 x)
def dl(n:Nat)(e:Bool)(ρ:Nat→Nat)(d:Nat):Nat:=if d<2*n then arr n (ρ (X3 n d)) ((d % 2 == 0) == e)else d
theorem Zar{n v:Nat}{e:Bool}{ρ:Nat→Nat}(hv:v<n)(b:Bool):dl n e ρ (arr n v b)=arr n (ρ v) (b == e):=by
 obtain⟨h1,h2,h3⟩:=Zer hv b;unfold dl;rw[if_pos h1,h2,h3]
theorem Zkt{n d:Nat}{e:Bool}{ρ:Nat→Nat}(h:2*n≤d):dl n e ρ d=d:=by
 unfold dl;rw[if_neg (by omega)]
theorem Zhl{n v:Nat}(hv:v<n):(v+1) % n=if v=n - 1 then 0 else v+1:=by
 split
 ·rename_i h; rw[h,show n - 1+1=n by omega,Nat.mod_self]
 ·exact Nat.mod_eq_of_lt (by omega)
theorem Zkp{n v:Nat}(hv:v<n):(v+n - 1) % n=if v=0 then n - 1 else v - 1:=Ze7 hv
theorem Zs0{n v:Nat}(hv:v<n)(b:Bool):U3 n v b=arr n (if b then (v+1) % n else (v+n - 1) % n) b:=by
 have h0:0<n:=by omega
 cases b with
 | true=>
  unfold U3 arr;simp only[if_true];have hm:=Nat.mod_lt (v+1) h0;rw[Zkp hm,Zhl hv];split<;>split<;>omega
 | false=>
  unfold U3 arr;simp only[bF,if_false]
theorem Zha{n u u':Nat}{c c':Bool}(hu:u<n)(hu':u'<n)(h:U3 n u c=U3 n u' c'):u=u'∧c=c':=by
 have h1:=Zlo hu c;have h2:=Zlo hu' c';rw[h,h2]at h1;obtain⟨e1,e2⟩:=Zhr hu' hu h1;exact⟨e1.symm,by revert e2; cases c<;>cases c'<;>simp⟩
theorem Z53{m a b:Nat}(ha:a<m)(hb:b<m)(h:(a+1) % m=(b+1) % m):a=b:=by
 rw[Zhl ha,Zhl hb]at h;split at h<;>split at h<;>omega
theorem Z35{ls:List Lt}(hw:Wv ls):Perm1 (Y3 ls (Z2 ls)) (2*ls.length+2*Z1 ls):=by
 obtain⟨r1,r2,r3,_⟩:=Zg3 hw.pas hw.kin;have str:∀ d,d<2*ls.length→Y3 ls (Z2 ls) d<2*ls.length → ∃ v b,v<ls.length∧(at' ls v).k=2∧d=arr ls.length v b∧Y3 ls (Z2 ls) d=U3 ls.length (otN ls v) (b == smN ls v):=fun d hd ht=>by
  obtain⟨v,b,hv,rfl⟩:=B5 hd;rcases Decidable.em ((at' ls v).k=2)with hk|hk
  ·exact⟨v,b,hv,hk,rfl,Zq8 hv hk b⟩
  ·rw[Zff hv,if_neg hk]at ht;split at ht<;>omega
 have axs:∀ d,2*ls.length≤d→d<2*ls.length+2*Z1 ls → ∃ v q,v<ls.length∧(at' ls v).k=1∧q<Z1 ls∧(Z2 ls).getD q 0=v∧U1 v (Z2 ls)=q ∧
  (d % 2=0∧q=((d - 2*ls.length) / 2+1) % Z1 ls∧Y3 ls (Z2 ls) d=U3 ls.length v (!down ls v)∨d % 2=1∧q=(d - 2*ls.length) / 2∧Y3 ls (Z2 ls) d=U3 ls.length v (down ls v)):=fun d hd hd2=>by
  obtain⟨p,hp⟩:∃ p,(d - 2*ls.length) / 2=p:=⟨_,rfl⟩
  have hpm:p<Z1 ls:=by omega
  rcases Nat.mod_two_eq_zero_or_one d with e0|e0
  ·have ex:d=2*ls.length+2*p:=by omega
   have hq:=Nat.mod_lt (p+1) hw.pas;obtain⟨v,hv,hk,hg,hi⟩:=Zho hq;exact⟨v,_,hv,hk,hq,hg,hi,.inl ⟨e0,by rw[hp],by rw[ex,Ziz,hg]⟩⟩
  ·have ex:d=2*ls.length+2*p+1:=by omega
   obtain⟨v,hv,hk,hg,hi⟩:=Zho hpm;exact⟨v,p,hv,hk,hpm,hg,hi,.inr ⟨e0,hp.symm,by rw[ex,Ziy,hg]⟩⟩
 refine⟨r2,fun y y' hy hy' e=>?_⟩
 by_cases hz:2*ls.length≤Y3 ls (Z2 ls) y
 ·have s1:y<2*ls.length:=by
   apply Nat.lt_of_not_le;intro c;have:=r1 y c hy;omega
  have s2:y'<2*ls.length:=by
   apply Nat.lt_of_not_le;intro c;have:=r1 y' c hy';omega
  exact r3 y y' s1 s2 hz e
 ·by_cases s1:y<2*ls.length
  ·obtain⟨v,b,hv,hk,rfl,ht⟩:=str y s1 (by omega)
   obtain⟨w1,w2,w3,_,_⟩:=hw.oth v hv hk;by_cases s2:y'<2*ls.length
   ·obtain⟨v',b',hv',hk',rfl,ht'⟩:=str y' s2 (by omega)
    obtain⟨w1',w2',w3',_,_⟩:=hw.oth v' hv' hk';rw[ht,ht']at e;obtain⟨e1,e2⟩:=Zha w1 w1' e;have ev:v=v':=by
     rw[← w3,e1,w3']
    subst ev
    congr 1
    revert e2
    cases b<;>cases b'<;>cases smN ls v<;>simp
   ·obtain⟨v',q,hv',hk',_,_,_,ha⟩:=axs y' (by omega) hy'
    exfalso;rw[ht]at e;have:otN ls v=v':=by
     rcases ha with⟨_,_,ha⟩|⟨_,_,ha⟩
     ·rw[ha]at e;exact(Zha w1 hv' e).1
     ·rw[ha]at e;exact(Zha w1 hv' e).1
    unfold otN at this;rw[this,hk']at w2;cases w2
  ·obtain⟨v,q,hv,hk,hq,hg,hi,ha⟩:=axs y (by omega) hy
   by_cases s2:y'<2*ls.length
   ·obtain⟨v',b',hv',hk',rfl,ht'⟩:=str y' s2 (by omega)
    obtain⟨w1',w2',w3',_,_⟩:=hw.oth v' hv' hk';exfalso;rw[ht']at e;have:v=otN ls v':=by
     rcases ha with⟨_,_,ha⟩|⟨_,_,ha⟩
     ·rw[ha]at e;exact(Zha hv w1' e).1
     ·rw[ha]at e;exact(Zha hv w1' e).1
    unfold otN at this;rw[← this,hk]at w2';cases w2'
   ·obtain⟨v',q',hv',hk',hq',hg',hi',ha'⟩:=axs y' (by omega) hy'
    have p1:(y - 2*ls.length) / 2<Z1 ls:=by omega
    have p2:(y' - 2*ls.length) / 2<Z1 ls:=by omega
    rcases ha with⟨m1,q1,ha⟩|⟨m1,q1,ha⟩<;>rcases ha' with⟨m2,q2,ha'⟩|⟨m2,q2,ha'⟩<;>rw[ha,ha']at e<;>obtain ⟨e1,e2⟩:=Zha hv hv' e
    ·rw[e1,hi']at hi;rw[hi,q1]at q2;have:=Z53 p1 p2 q2;omega
    ·rw[e1]at e2
     revert e2
     cases down ls v'<;>simp
    ·rw[e1]at e2
     revert e2
     cases down ls v'<;>simp
    ·rw[e1,hi']at hi;omega
section
variable {x y:List Lt} {e:Bool} {ρ σ:Nat→Nat} (h:Cj x y e ρ σ)
include h
theorem Zh1{v:Nat}(hv:v<x.length)(b:Bool):dl x.length e ρ (U3 x.length v b)=U3 x.length (ρ v) (b == e):=by
 have h0:0<x.length:=by omega
 rw[Zs0 hv,Zar (by split<;>exact Nat.mod_lt _ h0),Zs0 (h.lt v hv)]
 congr 1
 have h1:=h.pre v hv;have h2:=h.nxt v hv;cases b<;>cases e<;>simp_all
theorem Zyh{d:Nat}(hd:d<2*x.length):dl x.length e ρ d<2*x.length:=by
 obtain⟨v,b,hv,rfl⟩:=B5 hd;rw[Zar hv];exact(Zer (h.lt v hv) _).1
theorem Z0s{d d':Nat}(hd:d<2*x.length)(hd':d'<2*x.length)(he:dl x.length e ρ d=dl x.length e ρ d'):d=d':=by
 obtain⟨v,b,hv,rfl⟩:=B5 hd;obtain⟨v',b',hv',rfl⟩:=B5 hd';rw[Zar hv,Zar hv']at he;obtain⟨e1,e2⟩:=Zhr (h.lt v hv) (h.lt v' hv') he;have:v=v':=by rw[← h.inv v hv,e1,h.inv v' hv']
 subst this
 congr 1
 revert e2
 cases b<;>cases b'<;>cases e<;>simp
theorem Z66{d:Nat}(hd:d<2*x.length):dl x.length e ρ (bkN d)=bkN (dl x.length e ρ d):=by
 obtain⟨v,b,hv,rfl⟩:=B5 hd;rw[Ztl,Zh1 h hv,Zar hv,Ztl]
 congr 1
 cases b<;>cases e<;>rfl
theorem Zw8{d:Nat}(hd:d<2*x.length+2*Z1 x):Y3 y (Z2 y) (dl x.length e ρ d)=dl x.length e ρ (Y3 x (Z2 x) d):=by
 have hlen:=h.len;have hpas:=h.pas;by_cases hs:d<2*x.length
 ·obtain⟨v,b,hv,rfl⟩:=B5 hs;have ty:=Zff (ls:=y) (v:=ρ v) (by rw[hlen]; exact h.lt v hv) (b == e)
  rw[hlen,hpas,h.kin v hv]at ty;rw[Zar hv,ty,Zff hv];rcases Decidable.em ((at' x v).k=2)with hk|hk
  ·rw[if_pos hk,if_pos hk,h.oth v hv hk,Zh1 h (h.wx.oth v hv hk).1];have:=h.ov v hv hk;unfold smN at this;rw[this]
   congr 1
   cases b<;>cases e<;>cases ((at' x v).o == ((at' x v).s == 1))<;>rfl
  ·have hk1:=h.wx.kin v hv hk;rw[if_neg hk,if_neg hk,h.dn v hv hk1,h.idx v hv hk1];by_cases hb:down x v=b
   ·rw[if_pos hb,if_pos (by rw[hb]),Zkt (by omega)]
   ·rw[if_neg hb,if_neg (by revert hb; cases down x v<;>cases b<;>cases e<;>simp),Zkt (by omega)]
 ·rw[Zkt (by omega)]
  obtain⟨p,hp⟩:∃ p,(d - 2*x.length) / 2=p:=⟨_,rfl⟩
  have hpm:p<Z1 x:=by omega
  have key:∀ q,q<Z1 x → ∃ v,v<x.length∧(Z2 x).getD q 0=v∧(Z2 y).getD q 0=ρ v∧down y (ρ v)=(down x v == e):=fun q hq=>by
   obtain⟨v,hv,hk,hg,hi⟩:=Zho hq;obtain⟨_,g2⟩:=Zlk (ls:=y) (v:=ρ v) (by rw[hlen]; exact h.lt v hv) (by rw[h.kin v hv]; exact hk)
   rw[h.idx v hv hk,hi]at g2;exact⟨v,hv,hg,g2,h.dn v hv hk⟩
  have tr:=Ziz (ls:=y) (p:=p);have tl:=Ziy (ls:=y) (p:=p);rw[hlen]at tr tl;rw[hpas]at tr;rcases Nat.mod_two_eq_zero_or_one d with e0|e0
  ·have ex:d=2*x.length+2*p:=by omega
   subst ex;obtain⟨v,hv,k1,k2,k3⟩:=key _ (Nat.mod_lt (p+1) h.wx.pas);rw[tr,Ziz,k1,k2,k3,Zh1 h hv]
   congr 1
   cases down x v<;>cases e<;>rfl
  ·have ex:d=2*x.length+2*p+1:=by omega
   subst ex;obtain⟨v,hv,k1,k2,k3⟩:=key p hpm;rw[tl,Ziy,k1,k2,k3,Zh1 h hv]
theorem Yb0{d:Nat}(hd:d<2*x.length):dl x.length e σ (dl x.length e ρ d)=d:=by
 obtain⟨v,b,hv,rfl⟩:=B5 hd;rw[Zar hv,Zar (h.lt v hv),h.inv v hv]
 congr 1
 cases b<;>cases e<;>rfl
theorem Z85{d:Nat}(hd:d<2*x.length):dl x.length e ρ (dl x.length e σ d)=d:=by
 obtain⟨v,b,hv,rfl⟩:=B5 hd;rw[Zar hv,Zar (h.ltr v hv),h.inr v hv]
 congr 1
 cases b<;>cases e<;>rfl
theorem Z5j:I0 (Y3 y (Z2 y)) (2*x.length+2*Z1 x)=I0 (Y3 x (Z2 x)) (2*x.length+2*Z1 x):=by
 have ax:∀ (ρ:Nat→Nat) d,¬d<2*x.length→dl x.length e ρ d=d:=fun ρ d hd=>Zkt (by omega)
 have hs:∀ d,d<2*x.length→dl x.length e σ d<2*x.length:=fun d hd=>by
  obtain⟨v,b,hv,rfl⟩:=B5 hd;rw[Zar hv];exact(Zer (h.ltr v hv) _).1
 refine Z0d (φ:=dl x.length e ρ) (ψ:=dl x.length e σ) (Z35 h.wx) (fun d hd=>?_) (fun d hd=>?_) (fun d hd=>?_) (fun d hd=>?_) fun d hd=>Zw8 h hd
 ·by_cases s:d<2*x.length
  ·have:=Zyh h s; omega
  ·rw[ax _ d s]; exact hd
 ·by_cases s:d<2*x.length
  ·have:=hs d s; omega
  ·rw[ax _ d s]; exact hd
 ·by_cases s:d<2*x.length
  ·exact Yb0 h s
  ·rw[ax ρ d s,ax σ d s]
 ·by_cases s:d<2*x.length
  ·exact Z85 h s
  ·rw[ax σ d s,ax ρ d s]
theorem Zz6{d:Nat}(hd:d<2*x.length):ldN y (dl x.length e ρ d)=at' y (ρ (X3 x.length d)):=by
 obtain⟨v,b,hv,rfl⟩:=B5 hd;have:=Ze4 (ls:=y) (v:=ρ v) (by rw[h.len]; exact h.lt v hv) (b == e)
 rw[h.len]at this;rw[Zar hv,this,(Zer hv b).2.1]
theorem Z1t:T2 y=(T2 x).map (dl x.length e ρ):=by
 have hax:Z2 y=(Z2 x).map ρ:=by
  apply List.ext_getElem?;intro q;by_cases hq:q<Z1 x
  ·obtain⟨v,hv,hk,hg,hi⟩:=Zho hq;obtain⟨g1,g2⟩:=Zlk (ls:=y) (v:=ρ v) (by rw[h.len]; exact h.lt v hv) (by rw[h.kin v hv]; exact hk)
   rw[h.idx v hv hk,hi]at g1 g2;rw[List.getElem?_map];have l1:q<(Z2 x).length:=by rw[O6]; exact hq
   have l2:q<(Z2 y).length:=by rw[O6]; exact g1
   rw[List.getD,gE l1]at hg;rw[List.getD,gE l2]at g2;rw[gE l1,gE l2];simp only[Option.getD_some]at hg g2;rw[hg,g2];rfl
  ·rw[List.getElem?_eq_none (by rw[O6,h.pas]; omega),List.getElem?_eq_none (by rw[List.length_map,O6]; omega)]
 unfold T2;rw[hax,List.map_map,List.map_map];refine List.map_congr_left fun v hv=>?_
 obtain⟨h1,h2⟩:=mem_axis.1 hv;have hk:(at' x v).k=1:=by simpa[isP]using h2
 show upN y (ρ v)=dl x.length e ρ (upN x v);unfold upN;rw[h.len,Zh1 h h1,h.dn v h1 hk]
 congr 1
 cases down x v<;>cases e<;>rfl
end
end Go.Known
end
section
namespace Go.Known
open Go Go.AE Go.Proofs
open Go.Plain
section
variable {α:Type}
def mkG(g:α→AVal):Nat→List (Int×α)→List (AVal×AVal×Nat)
 | _,[]=>[]
 | j,(k,v) :: r=>(.int .i64 k,g v,j) :: mkG g (j+1) r
theorem Z2q(g:α→AVal):∀ (j:Nat) (E:List (Int×α)),(mkG g j E).length=E.length
 | _,[]=>rfl
 | j,(k,v) :: r=>by simp only[mkG,List.length_cons,Z2q g (j+1) r]
theorem Zp3{g:α→AVal}(q:Nat→Nat)(hg:∀ v,(g v).ren q=g v):∀ (j:Nat) (E:List (Int×α)),F6 q (mkG g j E)=mkG g j E
 | _,[]=>rfl
 | j,(k,v) :: r=>by
  have:=Zp3 q hg (j+1) r;simp only[F6,mkG,List.map_cons,AVal.ren,hg]at *;rw[this]
theorem Zm7(g:α→AVal)(id:Int):∀ (j:Nat) (E:List (Int×α)),J5 .int (.int .i64 id) (mkG g j E)=some (match C4 id E with
 | some (p,v)=>some (p,g v,j+p)
 | none=>none)
 | _,[]=>rfl
 | j,(k,v) :: r=>by
  simp only[mkG,J5,C3,if_true,C4];by_cases h:id=k
  ·subst h; simp
  ·have hb:(id == k)=false:=by simpa using h
   simp only[hb,if_neg h];rw[Zm7 g id (j+1) r];cases C4 id r with
   | none=>rfl
   | some pw=>obtain ⟨p,w⟩:=pw; simp only; congr 4; omega
theorem Zr4(g:α→AVal)(k:Int)(v:α):∀ (j p:Nat) (E:List (Int×α)),(mkG g j E).set p (.int .i64 k,g v,j+p)=mkG g j (E.set p (k,v))
 | _,_,[]=>rfl
 | j,0,(k',v') :: r=>rfl
 | j,p+1,(k',v') :: r=>by
  simp only[mkG,List.set_cons_succ];have:=Zr4 g k v (j+1) p r;rw[show j+1+p=j+(p+1) by omega]at this
  rw[this]
theorem Zyx(g:α→AVal)(k:Int)(v:α):∀ (j:Nat) (E:List (Int×α)),mkG g j E++[(.int .i64 k,g v,j+E.length)]=mkG g j (E++[(k,v)])
 | _,[]=>rfl
 | j,(k',v') :: r=>by
  simp only[mkG,List.cons_append,List.length_cons];have:=Zyx g k v (j+1) r;rw[show j+1+r.length=j+(r.length+1) by omega]at this
  rw[this]
theorem Z7h(g:α→AVal)(k:Int)(v:α)(p:Nat)(E:List (Int×α)):(mkG g 0 E).set p (.int .i64 k,g v,p)=mkG g 0 (E.set p (k,v)):=by
 have:=Zr4 g k v 0 p E;rwa[Nat.zero_add]at this
theorem Zwo(g:α→AVal)(k:Int)(v:α)(E:List (Int×α)):mkG g 0 E++[(.int .i64 k,g v,E.length)]=mkG g 0 (E++[(k,v)]):=by
 have:=Zyx g k v 0 E;rwa[Nat.zero_add]at this
end
abbrev natV(v:Nat):AVal:=.int .i64 v
set_option maxRecDepth 100000 in
set_option maxHeartbeats 8000000 in
theorem Z1g(f:Int)(ls:List Lt)(hv:ValR f ls)(h0:ls≠[]) :
 Ctr Tryz.prog 97 [cV f ls] ⟨[],1⟩ fun r m=>r=.ptr 1 0 0∧m=⟨[(1,.cells 3 [[.imm (ls.map rowL),.sl 3 0 ls.length,.sl 2 0 (T2 ls).length]]),(2,.cells 1 (Z0 (T2 ls))),(3,.cells 1 (Z0 (T8 ls ls.length)))],4⟩:=by
 refine A3 hm Tryz.func97 cf57 rfl rfl fun K hK=>?_
 have h:ls.length≤400:=hv.len;have hpos:0<ls.length:=List.length_pos_iff.2 h0;have hw:=hv.wv h0;have hll:(ls.map rowL).length=ls.length:=List.length_map ..;have hrr:∀ q,Z3 q (ls.map rowL)=ls.map rowL:=fun q=>Y6 q _ (Z9 ls)
 have hren:=Z5;have hrM:∀ q (E:List (Int×Nat)),F6 q (mkG natV 0 E)=mkG natV 0 E:=fun q E=>Zp3 q (fun _=>rfl) 0 E
 have hrL:∀ (ps:List (Nat×Nat)) q,Z3 q (ps.map lrow)=ps.map lrow:=fun ps q=>Y6 q _ (Zw7 ps)
 have hrow:=fun i hi=>C6 ls (i:=i) hi
 have hsort:=fun ps h1 h2 h3=>Ycu f ls ps h1 h2 h3
 unfold cV at *;generalize ls.map rowL=rows at *;unfold rowL at hrow;have hw0:IntKind.i64.wrap 0=0:=by decide
 have hb0:ls.length≤1048576:=by omega
 simp[hll,hb0];have hrep:∀ q,Z3 q (List.replicate ls.length [AVal.int .i64 0])=List.replicate ls.length [AVal.int .i64 0]:=fun q=>by
  have:Z0 (List.replicate ls.length 0)=List.replicate ls.length [AVal.int .i64 0]:=by simp[Z0]
  rw[← this,hren]
 refine T1 (α:=Nat) (fun i=>[(28,.int .i64 i),(27,.int .i64 ls.length),(26,.imm rows),(7,.bool (down ls i)),(6,slV 5 ((psN ls i).map lrow)),(5,.map 4),(4,.ptr 3 0 0),(3,.int .i64 ls.length),(1,.ptr 1 0 0)])
  (fun i=>⟨(1,.cells 2 [[.int .i64 f,.imm rows]]) :: (2,.cells 1 (Z0 (T8 ls i))) :: (3,.cells 3 [[.imm rows,.sl 2 0 ls.length,.nilSl]]) :: (4,.map (mkG natV 0 (fsE ls i)) (fsE ls i).length) :: blV 5 2 ((psN ls i).map lrow) [],6⟩)
  (fun i=>ls.length - i) (fun i=>i≤ls.length) 0 [(2,10),(3,12),(4,14)] (by simp[hrr,hren,hrM,hrL,hrep,Z79,down,Z1,Z4,T8,fsE,mkG,Z0,F6]) (by simp) ?_
 intro i hi N hN
 try simp only at hi hN ⊢
 have hw1:IntKind.i64.wrap ((i:Int)+1)=(i:Int)+1:=Z6 (by omega) (by omega)
 by_cases hlt:i<ls.length
 ·have hN':=hN (i+1);rw[Int.natCast_add,Int.natCast_one]at hN';clear hN;have hr:=hrow i hlt;obtain⟨_,hr2⟩:=Y9 hr;have hdn:=Zo5 hlt;have hol:=Zif (ls:=ls) i;have hnl:(Z0 (T8 ls i)).length=ls.length:=by rw[M0,hol]
  have hpl:(psN ls i).length≤1048575:=by have:=Zxg (ls:=ls) i; omega
  by_cases hk:(at' ls i).k=2
  ·have hx:isX (at' ls i)=true:=by simp[isX,hk]
   have hp:isP (at' ls i)=false:=by simp[isP,hk]
   have e1:psN ls (i+1)=psN ls i:=Yez hp;have e2:fsE ls (i+1)=updG (fsE ls i) (at' ls i).i i:=by simp only[fsE,hx,if_true]
   have e3:T8 ls (i+1)=match C0 (at' ls i).i (fsE ls i)with
    | some j=>((T8 ls i).set i j).set j i
    | none=>T8 ls i:=by
    rw[T8,if_pos hx];cases C0 (at' ls i).i (fsE ls i)<;>rfl
   rw[hp]at hdn;simp only[bF,if_false]at hdn;rw[e1,e2,e3,hdn]at hN';have hfnd:=Zm7 natV (at' ls i).i 0 (fsE ls i);have hsp:=(Zov (ls:=ls) i).1 (at' ls i).i;generalize at' ls i=l at *;generalize hO:T8 ls i=O at *;generalize hEE:fsE ls i=EE at *;cases hf:C4 l.i EE with
   | none=>
    have hval:C0 l.i EE=none:=by unfold C0; rw[hf]; rfl
    have hup:updG EE l.i i=EE++[(l.i,i)]:=by unfold updG; rw[hf]
    rw[hf]at hfnd;simp only at hfnd;have hsn:mkG natV 0 EE++[(.int .i64 l.i,.int .i64 (i:Int),EE.length)]=mkG natV 0 (EE++[(l.i,i)]):=Zwo natV l.i i EE;rw[hval,hup]at hN';simp[hlt,hr,hr2,hk,hfnd,hw1];refine hN' [(1,1),(2,2),(3,3),(4,4),(5,5)] _ _ (by omega) (by omega) ?_
    simp +contextual [hrr,hren,hrM,hrL,hsn]
   | some pj=>
    obtain⟨p,j⟩:=pj;have hval:C0 l.i EE=some j:=by unfold C0; rw[hf]; rfl
    obtain⟨hji,_⟩:=hsp j hval;have hjn:j<ls.length:=by omega
    have hup:updG EE l.i i=EE.set p (l.i,i):=by unfold updG; rw[hf]
    rw[hf]at hfnd;simp only[Nat.zero_add]at hfnd;have hst:=Z7h natV l.i i p EE;rw[hval,hup]at hN';have hs1:=Zfb O i j;have hs2:=Zfb (O.set i j) j i;have hOl:O.length=ls.length:=hol;have hst':(mkG natV 0 EE).set p (.int .i64 l.i,.int .i64 (i:Int),p)=mkG natV 0 (EE.set p (l.i,i)):=hst;have hq1:=Zm2 (l:=O) (i:=i) (by omega)
    have hO2:(O.set i j).length=ls.length:=by rw[List.length_set,hOl]
    have hq2:=Zm2 (l:=O.set i j) (i:=j) (by omega)
    have hnl2:(Z0 (O.set i j)).length=ls.length:=by rw[M0,hO2]
    have hEl:(EE.set p (l.i,i)).length=EE.length:=List.length_set;simp only at hN';generalize O.getD i 0=a1 at *;generalize (O.set i j).getD j 0=a2 at *;generalize (O.set i j).set j i=O3 at *;generalize O.set i j=O2 at *;generalize EE.set p (l.i,i)=E2 at *;obtain⟨_,hq12⟩:=Y9 hq1;obtain⟨_,hq22⟩:=Y9 hq2;simp[hlt,hr,hr2,hk,hfnd,hw1,hnl,hjn,hOl,hq1,hq12,hs1,hq2,hq22,hnl2,hs2,hst'];refine hN' [(1,1),(2,2),(3,3),(4,4),(5,5)] _ _ (by omega) (by omega) ?_
    simp +contextual [hrr,hren,hrM,hrL,hEl]
  ·have hk1:=hw.kin i hlt hk;have hx:isX (at' ls i)=false:=by simp[isX,hk1]
   have hp:isP (at' ls i)=true:=by simp[isP,hk1]
   have e1:(psN ls (i+1)).map lrow=(psN ls i).map lrow++[[.int .i64 (i:Int),.int .i64 (upN ls i:Nat)]]:=by rw[Z8c hp]; simp[lrow]
   have e2:fsE ls (i+1)=fsE ls i:=by simp only[fsE,hx,bF,if_false]
   have e3:T8 ls (i+1)=T8 ls i:=by simp only[T8,hx,bF,if_false]
   rw[hp]at hdn;simp only[if_true]at hdn;rw[e1,e2,e3,hdn]at hN';have hwa:IntKind.i64.wrap (2*(i:Int))=((2*i:Nat):Int):=by rw[Z6 (by omega) (by omega)]; omega
   have hup:upN ls i=if down ls i then 2*((i+ls.length - 1) % ls.length)+1 else 2*i:=by
    unfold upN U3;cases down ls i<;>rfl
   rw[hup]at hN';have hpl':((psN ls i).map lrow).length=(psN ls i).length:=List.length_map ..;have hrP:=fun q=>hrL (psN ls i) q
   have hrO:=fun q=>hren q (T8 ls i)
   have hrM':=fun q=>hrM q (fsE ls i)
   generalize (psN ls i).map lrow=PP at *;generalize at' ls i=l at *;generalize Z0 (T8 ls i)=O at *;generalize mkG natV 0 (fsE ls i)=MM at *;generalize 2*i=i2 at *;cases hd:down ls i with
   | true=>
    rw[hd]at hN';simp only[if_true]at hN';have hwb:IntKind.i64.wrap ((i:Int) - 1)=(i:Int) - 1:=Z6 (by omega) (by omega)
    have hwc:IntKind.i64.wrap ((i:Int) - 1+(ls.length:Int))=((i+ls.length - 1:Nat):Int):=by rw[Z6 (by omega) (by omega)]; omega
    have hm2:((i+ls.length - 1:Nat):Int).tmod (ls.length:Int)=(((i+ls.length - 1) % ls.length:Nat):Int):=rfl;have hml:(i+ls.length - 1) % ls.length<ls.length:=Nat.mod_lt _ (by omega)
    generalize (i+ls.length - 1) % ls.length=z at *;generalize i+ls.length - 1=y at *;have hw4:IntKind.i64.wrap (2*(z:Int))=((2*z:Nat):Int):=by rw[Z6 (by omega) (by omega)]; omega
    have hw5:IntKind.i64.wrap (((2*z:Nat):Int)+1)=((2*z+1:Nat):Int):=by rw[Z6 (by omega) (by omega)]; omega
    generalize 2*z+1=y2 at *;generalize 2*z=y1 at *;simp[hlt,hr,hr2,hk,hk1,hw1,hwa,hwb,hwc,hm2,hw4,hw5,h0,hpl,hpl',hd];refine hN' [(1,1),(2,2),(3,3),(4,4),(5,39)] _ _ (by omega) (by omega) ?_
    simp +contextual [hrr,hrM',hrP,hrO,hpl']
   | false=>
    rw[hd]at hN';simp only[bF,if_false]at hN';simp[hlt,hr,hr2,hk,hk1,hw1,hwa,hpl,hpl',hd];refine hN' [(1,1),(2,2),(3,3),(4,4),(5,29)] _ _ (by omega) (by omega) ?_
    simp +contextual [hrr,hrM',hrP,hrO,hpl']
 ·have hie:i=ls.length:=by omega
  subst hie;clear hN hrow;obtain⟨hRk,hAp,_⟩:=ValR.ranks hv.lo hv.okr;have hmem:∀ p,p∈psN ls ls.length→POk ls p:=fun p hp=>by
   obtain⟨h1,h2,_⟩:=Zym hp;have hm:=R9 h1;obtain⟨_,_,_,c,d,e,e1,_⟩:=(Zec (by simpa[isP]using h2)).1 (hv.okr _ hm)
   have hin:inG (at' ls p.1).g ls≤ls.length:=E5;have hhi:=hv.hi;exact⟨h1,⟨by omega,by omega⟩,c,by omega⟩
  have hpl:=Zxg (ls:=ls) ls.length;have hne:psN ls ls.length≠[]:=by
   have h1:(0,upN ls 0)∈psN ls ls.length:=by
    unfold psN;exact List.mem_map.2 ⟨0,List.mem_filter.2 ⟨List.mem_range.2 hpos,by simp[isP,hv.fst]⟩,rfl⟩
   exact List.ne_nil_of_mem h1
  have hs:=hsort _ hne hmem (by omega)
  have hax:=fun d h1 h2=>Yek (d:=d) hAp h1 h2
  clear hsort hmem;generalize psN ls ls.length=PS at *;have hneL:¬PS.map lrow=[]:=by simpa using hne
  have hPl:(PS.map lrow).length=PS.length:=List.length_map ..;simp[Zet hneL,Zd7 hneL,hPl];refine U6 hs [(2,5),(1,1)] (by simp) (by simp[hrr,hrL]) (by simp) ?_
  rintro _ _ ⟨rfl,ps',hperm,hsorted,rfl⟩;have hfr:=hax ps' hperm hsorted;have hl':ps'.length=PS.length:=hperm.length_eq;have hl2:(ps'.map lrow).length=ps'.length:=List.length_map ..;simp[hrr,hrL,hl',hl2];have hneF:T2 ls≠[]:=by rw[← hfr]; simpa using fun e:ps'=[]=>hne (List.length_eq_zero_iff.1 (by rw[← hl',e]; rfl))
  have hrO:=fun q=>hren q (T8 ls ls.length)
  generalize Z0 (T8 ls ls.length)=OO at *;clear hs hax hperm hsorted;rw[← hl'];refine T1 (α:=Nat) (fun t=>[(88,.int .i64 t),(87,.int .i64 ps'.length),(86,.sl 5 0 ps'.length),(4,.ptr 3 0 0)])
   (fun t=>⟨(2,.cells 1 OO) :: (3,.cells 3 [[.imm rows,.sl 2 0 ls.length,slV 6 (Z0 ((ps'.take t).map Prod.snd))]]) :: (5,.cells 2 (ps'.map lrow)) :: blV 6 1 (Z0 ((ps'.take t).map Prod.snd)) [],7⟩)
   (fun t=>ps'.length - t) (fun t=>t≤ps'.length) 0 [(2,2),(3,3),(5,5)] (by simp[hrr,hrL,hrO,Z0]) (by simp) ?_
  intro t ht N2 hN2
  try simp only at ht hN2 ⊢
  have hw2:IntKind.i64.wrap ((t:Int)+1)=(t:Int)+1:=Z6 (by omega) (by omega)
  by_cases htl:t<ps'.length
  ·have hg:(ps'.map lrow)[t]? = some [.int .i64 (ps'[t].1:Nat),.int .i64 (ps'[t].2:Nat)]:=by rw[List.getElem?_map,gE htl]; rfl
   obtain⟨_,hg2⟩:=Y9 hg;have hN':=hN2 (t+1);have hft:Z0 ((ps'.take (t+1)).map Prod.snd)=Z0 ((ps'.take t).map Prod.snd)++[[.int .i64 (ps'[t].2:Nat)]]:=by
    rw[List.take_succ_eq_append_getElem htl,List.map_append,Z0,List.map_append];rfl
   rw[hft,Int.natCast_add,Int.natCast_one]at hN';have hfl:(Z0 ((ps'.take t).map Prod.snd)).length≤1048575:=by simp[Z0]; omega
   have hrF:=fun q=>hren q ((ps'.take t).map Prod.snd)
   have hrP:=fun q=>hrL ps' q
   generalize Z0 ((ps'.take t).map Prod.snd)=FF at *;generalize ps'[t]=p at *;generalize ps'.map lrow=PR at *;simp[htl,hl2,hg,hg2,hw2,hfl];refine hN' [(2,2),(3,3),(5,5),(6,20)] _ _ (by omega) (by omega) ?_
   simp +contextual [hrr,hrP,hrO,hrF]
  ·have hte:t=ps'.length:=by omega
   subst hte;rw[List.take_length,hfr];have hneN:=Znw hneF;have hnl:(Z0 (T2 ls)).length=(T2 ls).length:=M0 _;have hrF:=fun q=>hren q (T2 ls)
   generalize Z0 (T2 ls)=FF at *;simp[Zet hneN,Zd7 hneN,hnl];exact Y1 hK [(1,3),(2,6),(3,2)] (by simp[hrr,hrO,hrF])
end Go.Known
end
