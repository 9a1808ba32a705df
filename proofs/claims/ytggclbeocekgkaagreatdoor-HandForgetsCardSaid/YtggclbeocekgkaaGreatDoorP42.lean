/- Part 42 of the proof: Hb, Pv, Pw, Px, Py, Zb, Hn, To. -/
import Derived.Test.YtggclbeocekgkaaGreatDoorP19
import Derived.Test.YtggclbeocekgkaaGreatDoorP31
import Derived.Test.YtggclbeocekgkaaGreatDoorP35
import Derived.Test.YtggclbeocekgkaaGreatDoorP40
import Derived.Test.YtggclbeocekgkaaGreatDoorP41
set_option linter.all false
section
namespace Go.Ac
open Go Go.AE Go.Proofs
open Go.Plain
theorem vj:Al Tryz.prog 11 [] (.bool true):=kP
end Go.Ac
end
section
namespace Go.Ac
open Go.Plain
def Cn(y w:List Lt):Prop:=(∃ i,i<y.length∧(Am (at' y i)&&Z8 y i)=true∧w=cand y i)∨(∃ i,i<y.length∧(Am (at' (aZ y) i)&&Z8 (aZ y) i)=true∧w=cand (aZ y) i)
end Go.Ac
end
section
namespace Go.Ac
open Go.Plain
def XK(z:Option (List Lt))(n:Nat)(S:List Lt→Prop):Prop:=
 match z with
 | none=>∀ u,¬S u
 | some w=>S w ∧ ∀ u,S u→u.length=n∧UK u w=false
theorem XK.congr{z:Option (List Lt)}{n:Nat}{S T:List Lt→Prop}(h:XK z n S)(hs:∀ u,S u↔T u):XK z n T:=by
 cases z with
 | none=>exact fun u hu=>h u ((hs u).2 hu)
 | some w=>exact ⟨(hs w).1 h.1,fun u hu=>h.2 u ((hs u).2 hu)⟩
end Go.Ac
end
section
namespace Go.Ac
open Go.Plain
structure Tf (y:List Lt) (a:Nat):Prop where
 ev:Z0 y % 2=0
 lt:a<y.length
 dn:Z8 y a=false
 tu:sk y=AO a (y.map sj)
end Go.Ac
end
section
namespace Go.Ac
open Go.Plain
def imp(x y z:Bool):Bool:=!(x&&y)||z
end Go.Ac
end
section
namespace Go.Ac
open Go.Plain
section
variable {T T':Nat→Nat} {N:Nat} {φ ψ:Nat→Nat}
end
structure Cj (x y:List Lt) (e:Bool) (ρ σ:Nat→Nat):Prop where
 wx:Wv x
 wy:Wv y
 len:y.length=x.length
 He:Z0 y=Z0 x
 lt:∀ v,v<x.length→ρ v<x.length
 qj:∀ v,v<x.length→σ v<x.length
 inv:∀ v,v<x.length→σ (ρ v)=v
 inr:∀ v,v<x.length→ρ (σ v)=v
 pre:∀ v,v<x.length→ρ ((v+x.length - 1) % x.length)=if e then (ρ v+x.length - 1) % x.length else (ρ v+1) % x.length
 kR:∀ v,v<x.length→ρ ((v+1) % x.length)=if e then (ρ v+1) % x.length else (ρ v+x.length - 1) % x.length
 GY:∀ v,v<x.length→(at' y (ρ v)).k=(at' x v).k
 Gy:∀ v,v<x.length→(at' x v).k=2→Q4 y (ρ v) x.length 0=ρ (Q4 x v x.length 0)
 ov:∀ v,v<x.length→(at' x v).k=2→GA y (ρ v)=GA x v
 dn:∀ v,v<x.length→(at' x v).k=1→Z8 y (ρ v)=(Z8 x v == e)
 idx:∀ v,v<x.length→(at' x v).k=1→W7 (ρ v) (Z2 y)=W7 v (Z2 x)
theorem pI{n v:Nat}(hv:v<n):(v+1) % n=if v=n - 1 then 0 else v+1:=by
 split
 ·rename_i h; rw[h,show n - 1+1=n by omega,Nat.mod_self]
 ·exact Nat.mod_eq_of_lt (by omega)
theorem Ke{n u u':Nat}{c c':Bool}(hu:u<n)(Dv:u'<n)(h:X6 n u c=X6 n u' c'):u=u'∧c=c':=by
 have h1:=WZ hu c;have h2:=WZ Dv c';rw[h,h2]at h1;obtain⟨e1,e2⟩:=Z8o Dv hu h1
 grind
theorem zw{m a b:Nat}(ha:a<m)(hb:b<m)(h:(a+1) % m=(b+1) % m):a=b:=by
 rw[pI ha,pI hb]at h
 grind
theorem Xn{ls:List Lt}(hw:Wv ls):BJ (X7 ls (Z2 ls)) (2*ls.length+2*Z0 ls):=by
 obtain⟨r1,r2,r3,_⟩:=Xj hw.He hw.GY;have str:∀ d,d<2*ls.length→X7 ls (Z2 ls) d<2*ls.length → ∃ v b,v<ls.length∧(at' ls v).k=2∧d=arr ls.length v b∧X7 ls (Z2 ls) d=X6 ls.length (DS ls v) (b == GA ls v):=fun d hd ht=>by
  obtain⟨v,b,hv,rfl⟩:=mE hd;rcases Decidable.em ((at' ls v).k=2)with hk|hk
  ·exact⟨v,b,hv,hk,rfl,VZ hv hk b⟩
  ·rw[aC hv,iN hk]at ht;split at ht<;>omega
 have axs:∀ d,2*ls.length≤d→d<2*ls.length+2*Z0 ls → ∃ v q,v<ls.length∧(at' ls v).k=1∧q<Z0 ls∧(Z2 ls).getD q 0=v∧W7 v (Z2 ls)=q ∧
  (d % 2=0∧q=((d - 2*ls.length) / 2+1) % Z0 ls∧X7 ls (Z2 ls) d=X6 ls.length v (!Z8 ls v)∨d % 2=1∧q=(d - 2*ls.length) / 2∧X7 ls (Z2 ls) d=X6 ls.length v (Z8 ls v)):=fun d hd hd2=>by
  obtain⟨p,hp⟩:∃ p,(d - 2*ls.length) / 2=p:=⟨_,rfl⟩
  have hpm:p<Z0 ls:=by omega
  rcases Nat.mod_two_eq_zero_or_one d with e0|e0
  ·have ex:d=2*ls.length+2*p:=by omega
   have hq:=Nat.mod_lt (p+1) hw.He;obtain⟨v,hv,hk,hg,hi⟩:=vN hq;exact⟨v,_,hv,hk,hq,hg,hi,.inl ⟨e0,by rw[hp],by rw[ex,Z1p,hg]⟩⟩
  ·have ex:d=2*ls.length+2*p+1:=by omega
   obtain⟨v,hv,hk,hg,hi⟩:=vN hpm;exact⟨v,p,hv,hk,hpm,hg,hi,.inr ⟨e0,hp.symm,by rw[ex,Z2c,hg]⟩⟩
 refine⟨r2,fun y y' hy hy' e=>?_⟩
 by_cases hz:2*ls.length≤X7 ls (Z2 ls) y
 ·grind
 ·by_cases s1:y<2*ls.length
  ·obtain⟨v,b,hv,hk,rfl,ht⟩:=str y s1 (by omega)
   obtain⟨w1,w2,w3,_,_⟩:=hw.Gy v hv hk;by_cases s2:y'<2*ls.length
   ·obtain⟨v',b',Lj,hk',rfl,ht'⟩:=str y' s2 (by omega)
    obtain⟨w1',w2',w3',_,_⟩:=hw.Gy v' Lj hk';rw[ht,ht']at e;obtain⟨e1,e2⟩:=Ke w1 w1' e;have ev:v=v':=by
     rw[← w3,e1,w3']
    subst ev
    congr 1
    revert e2
    cases b<;>cases b'<;>cases GA ls v<;>simp
   ·obtain⟨v',q,Lj,hk',_,_,_,ha⟩:=axs y' (by omega) hy'
    exfalso;rw[ht]at e;have:DS ls v=v':=by
     rcases ha with⟨_,_,ha⟩|⟨_,_,ha⟩
     ·rw[ha]at e;exact(Ke w1 Lj e).1
     ·rw[ha]at e;exact(Ke w1 Lj e).1
    grind
  ·obtain⟨v,q,hv,hk,hq,hg,hi,ha⟩:=axs y (by omega) hy
   by_cases s2:y'<2*ls.length
   ·obtain⟨v',b',Lj,hk',rfl,ht'⟩:=str y' s2 (by omega)
    obtain⟨w1',w2',w3',_,_⟩:=hw.Gy v' Lj hk';exfalso;rw[ht']at e;have:v=DS ls v':=by
     rcases ha with⟨_,_,ha⟩|⟨_,_,ha⟩
     ·rw[ha]at e;exact(Ke hv w1' e).1
     ·rw[ha]at e;exact(Ke hv w1' e).1
    grind
   ·obtain⟨v',q',Lj,hk',hq',hg',hi',ha'⟩:=axs y' (by omega) hy'
    have p1:(y - 2*ls.length) / 2<Z0 ls:=by omega
    have p2:(y' - 2*ls.length) / 2<Z0 ls:=by omega
    rcases ha with⟨m1,q1,ha⟩|⟨m1,q1,ha⟩<;>rcases ha' with⟨m2,q2,ha'⟩|⟨m2,q2,ha'⟩<;>rw[ha,ha']at e<;>obtain ⟨e1,e2⟩:=Ke hv Lj e
    ·rw[e1,hi']at hi;rw[hi,q1]at q2;have:=zw p1 p2 q2;omega
    ·rw[e1]at e2
     revert e2
     cases Z8 ls v'<;>simp
    ·rw[e1]at e2
     revert e2
     cases Z8 ls v'<;>simp
    grind
section
variable {x y:List Lt} {e:Bool} {ρ σ:Nat→Nat} (h:Cj x y e ρ σ)
include h
end
end Go.Ac
end
section
namespace Go.Ac
open Go Go.AE Go.Proofs
open Go.Plain
theorem tV(rows:List (List Aa)):Wk (BQ rows) (.Aj rows):=by
 unfold BQ;split
 ·rename_i h; subst h; exact Z1k
 ·exact Wk.refl _
end Go.Ac
end
section
namespace Go.Ac
open Go Go.AE Go.Proofs
open Go.Plain
def kQ(ls:List Lt)(i:Nat):Int:=if (at' ls i).g<(Mx ls i).g then (Mx ls i).g else (at' ls i).g
def C5(ls:List Lt)(f:Int)(i:Nat):Bool:=decide ((at' ls i).k=1)&&Z8 ls i&&decide (kQ ls i=f)
def NT(ls:List Lt)(f:Int)(i:Nat):Nat×Nat:=if (at' ls i).g=f then ((i+1) % ls.length,i)else (i,(i+1) % ls.length)
def Ec(ls:List Lt)(f:Int)(n:Nat):List (Nat×Nat):=((List.range n).filter (C5 ls f)).map (NT ls f)
def Bk(p:Nat×Nat):List Aa:=[.int .i64 p.1,.int .i64 p.2]
def qd(ls:List Lt)(f:Int):Nat:=(Ec ls f ls.length).length
section
variable {ls:List Lt} {f:Int} {n:Nat}
theorem vw:Ec ls f 0=[]:=rfl
theorem Ydl:Ec ls f (n+1)=if C5 ls f n=true then Ec ls f n++[NT ls f n]else Ec ls f n:=by
 unfold Ec;rw[List.range_succ,List.filter_append,List.map_append];by_cases h:C5 ls f n=true
 ·simp[h]
 ·simp[h]
theorem Z0n{p:Nat×Nat}(h:p∈Ec ls f n):∃ i,i<n∧C5 ls f i=true∧p=NT ls f i:=by
 obtain⟨i,hi,rfl⟩:=mM.1 h;rw[List.mem_filter,mR]at hi;exact⟨i,hi.1,hi.2,rfl⟩
theorem wJ:(Ec ls f n).length≤n:=by
 have:=List.length_filter_le (C5 ls f) (List.range n);simpa[Ec]using this
theorem Z4z:qd ls f≤ls.length:=wJ
theorem Z35(hP:Fq ls){p:Nat×Nat}(h:p∈Ec ls f ls.length):(p.1<ls.length∧(at' ls p.1).k=1)∧p.2<ls.length∧(at' ls p.2).k=1:=by
 obtain⟨i,hi,h1,rfl⟩:=Z0n h;unfold C5 at h1;simp only[bA,decide_eq_true_eq]at h1;obtain⟨⟨h1,h2⟩,_⟩:=h1;have h3:=(hP i hi h1 h2).1;have h4:(i+1) % ls.length<ls.length:=Nat.mod_lt _ (by omega)
 unfold NT;split
 ·exact⟨⟨h4,h3⟩,hi,h1⟩
 ·exact⟨⟨hi,h1⟩,h4,h3⟩
theorem aX:∀ (ps:List (Nat×Nat)),U3 (ps.map Bk)=true
 | []=>rfl
 | p :: r=>by
  have:=aX r;simp only[List.map_cons,U3,Bk,X8,Aa.closed,Bool.and_true,Bool.true_and]at this ⊢;exact this
end
end Go.Ac
end
