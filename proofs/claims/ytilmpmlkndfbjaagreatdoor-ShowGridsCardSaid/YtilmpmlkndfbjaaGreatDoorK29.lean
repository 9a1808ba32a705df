/- Part 29 of the proof: Sx, Pw, Px, Py, Zb. -/
import Derived.Test.YtilmpmlkndfbjaaGreatDoorK10
import Derived.Test.YtilmpmlkndfbjaaGreatDoorK23
import Derived.Test.YtilmpmlkndfbjaaGreatDoorK26
import Derived.Test.YtilmpmlkndfbjaaGreatDoorK27
import Derived.Test.YtilmpmlkndfbjaaGreatDoorK28
set_option linter.all false
section
namespace Go.Ab
open Go Go.AE Go.Proofs
open Go.Plain
structure Fg where
 p:Int
 r:Bool
 d:Int
deriving DecidableEq,Inhabited
end Go.Ab
end
section
namespace Go.Ab
open Go.Plain
theorem Z9s{met:List Int}{l:Lt}{x:Int}(h:x∈P9 met l):x∈met∨(l.k=2∧l.i=x):=by
 unfold P9 at h
 grind
theorem Wp{y:List Lt}{s p:Nat}(hs:s<y.length)(hp:p<y.length):at' (Em s y) p=at' y (Di y.length true s p):=by
 have hv:=MM (e:=true) hs hp;have hr:Fy y.length s (Di y.length true s p)=p:=by
  rw[nZ hs hv];unfold Di;simp only[if_true];split<;>split<;>omega
 have h1:=Z60 hs hv
 grind
def XV(z:Option (List Lt))(n:Nat)(S:List Lt→Prop):Prop:=
 match z with
 | none=>∀ u,¬S u
 | some w=>S w ∧ ∀ u,S u→u.length=n∧Vi u w=false
theorem XV.congr{z:Option (List Lt)}{n:Nat}{S T:List Lt→Prop}(h:XV z n S)(hs:∀ u,S u↔T u):XV z n T:=by
 cases z with
 | none=>exact fun u hu=>h u ((hs u).2 hu)
 | some w=>exact ⟨(hs w).1 h.1,fun u hu=>h.2 u ((hs u).2 hu)⟩
end Go.Ab
end
section
namespace Go.Ab
open Go.Plain
theorem WS{e:Bool}{y x:List Lt}{p:Lt→Bool}(hp:∀ φ l,p (ap φ l)=p l)(h:De e y x):Z7 p x=Z7 p y:=by
 obtain⟨hl,s,φ,hs,hi,h1⟩:=h;have hm:∀ l:List Lt,Z7 p (l.map (ap φ))=Z7 p l:=fun l=>by rw[Wd]; simp_all
 cases e with
 | true=>
  have hx:x=(Em s y).map (ap φ):=by
   refine SY (by rw[lM,Ng,hl]) fun q hq=>?_
   rw[hl]at hq;rw[(h1 q hq).1,Rs (by rw[Ng]; exact hq),Wp hs hq]
  rw[hx,hm,VS]
 | false=>
  have hx:x=(Em (y.length - 1 - s) y.reverse).map (ap φ):=by
   refine SY (by rw[lM,Ng,List.length_reverse,hl]) fun q hq=>?_
   rw[hl]at hq;have hs':y.length - 1 - s<y.reverse.length:=by grind
   have EI:q<y.reverse.length:=by grind
   have e1:y.length - 1 - Di y.length true (y.length - 1 - s) q=Di y.length false s q:=by
    unfold Di
    grind
   rw[(h1 q hq).1,Rs (by rw[Ng]; exact EI),Wp hs' EI,List.length_reverse,rF (MM (by omega) hq),e1]
  have hr:Z7 p y.reverse=Z7 p y:=by unfold Z7; grind
  rw[hx,hm,VS,hr]
theorem yD{e:Bool}{y x:List Lt}(h:De e y x)(g:Int):CS g x=CS g y:=
 WS (p:=fun l=>AT l&&l.g == g) (fun φ l=>by
  by_cases hk:l.k=2
  ·rw[Iu hk];rfl
  ·rw[MV hk]) h
structure Tf (y:List Lt) (a:Nat):Prop where
 ev:Z5 y % 2=0
 lt:a<y.length
 dn:W4 y a=false
 tu:tuN y=Em a (y.map xX)
end Go.Ab
end
section
namespace Go.Ab
open Go.Plain
def imp(x y z:Bool):Bool:=!(x&&y)||z
end Go.Ab
end
section
namespace Go.Ab
open Go.Plain
section
variable {T T':Nat→Nat} {N:Nat} {φ ψ:Nat→Nat}
theorem tK(hp:Cn T N)(hlt:∀ x,x<N→φ x<N)(Je:∀ x,x<N→ψ x<N)(hinv:∀ x,x<N→ψ (φ x)=x)(Vg:∀ x,x<N→φ (ψ x)=x)(hc:∀ x,x<N→T' (φ x)=φ (T x)):H5 T' N=H5 T N:=by
 obtain⟨S,hS⟩:∃ S:Nat→Nat,S=fun x=>it T (EZ T N x - 1) x:=⟨_,rfl⟩
 have hSlt:∀ x,x<N→S x<N:=fun x hx=>by rw[hS]; exact H0 hp hx _
 have hTS:∀ x,x<N→T (S x)=x:=fun x hx=>by
  obtain⟨h0,h1,_⟩:=QL hp hx;rw[hS];show it T (EZ T N x - 1+1) x=x
  grind
 have hST:∀ x,x<N→S (T x)=x:=fun x hx=>hp.inj _ _ (hSlt _ (hp.lt x hx)) hx (hTS _ (hp.lt x hx))
 have hpS:Cn S N:=⟨hSlt,fun y y' hy hy' e=>by grind⟩
 have hpT:Cn T' N:=by
  have e:∀ y,y<N→T' y=φ (T (ψ y)):=fun y hy=>by
   have:=hc (ψ y) (Je y hy);rwa[Vg y hy]at this
  refine⟨fun y hy=>by rw[e y hy]; exact hlt _ (hp.lt _ (Je y hy)),fun y y' hy hy' h=>?_⟩
  rw[e y hy,e y' hy']at h;have h1:=hinv _ (hp.lt _ (Je y hy));rw[h,hinv _ (hp.lt _ (Je y' hy'))]at h1
  grind
 have o1:XY T S N N id id:=⟨hp,hpS,fun x hx=>hx,fun x hx=>hx,fun x _=>rfl,fun x _=>rfl,hST,fun x _=>Iff.rfl⟩
 have o2:XY S T' N N φ ψ:=⟨hpS,hpT,hlt,Je,hinv,Vg,fun x hx=>by grind,fun x hx=>⟨fun _=>hx,fun _=>hlt x hx⟩⟩
 have l1:=(vK o1).length_eq;have l2:=(vK o2).length_eq;rw[lM,lM]at l1 l2;unfold H3 at l1 l2;rw[Tj,Tj]at l1 l2;unfold H5;omega
end
structure Cj (x y:List Lt) (e:Bool) (ρ σ:Nat→Nat):Prop where
 wx:Wv x
 wy:Wv y
 len:y.length=x.length
 Qp:Z5 y=Z5 x
 lt:∀ v,v<x.length→ρ v<x.length
 Rw:∀ v,v<x.length→σ v<x.length
 inv:∀ v,v<x.length→σ (ρ v)=v
 inr:∀ v,v<x.length→ρ (σ v)=v
 pre:∀ v,v<x.length→ρ ((v+x.length - 1) % x.length)=if e then (ρ v+x.length - 1) % x.length else (ρ v+1) % x.length
 nxt:∀ v,v<x.length→ρ ((v+1) % x.length)=if e then (ρ v+1) % x.length else (ρ v+x.length - 1) % x.length
 PD:∀ v,v<x.length→(at' y (ρ v)).k=(at' x v).k
 CX:∀ v,v<x.length→(at' x v).k=2→Q9 y (ρ v) x.length 0=ρ (Q9 x v x.length 0)
 ov:∀ v,v<x.length→(at' x v).k=2→Qs y (ρ v)=Qs x v
 dn:∀ v,v<x.length→(at' x v).k=1→W4 y (ρ v)=(W4 x v == e)
 idx:∀ v,v<x.length→(at' x v).k=1→R9 (ρ v) (Z4 y)=R9 v (Z4 x)
def dl(n:Nat)(e:Bool)(ρ:Nat→Nat)(d:Nat):Nat:=if d<2*n then arr n (ρ (U7 n d)) ((d % 2 == 0) == e)else d
theorem Nk{n v:Nat}{e:Bool}{ρ:Nat→Nat}(hv:v<n)(b:Bool):dl n e ρ (arr n v b)=arr n (ρ v) (b == e):=by
 obtain⟨h1,h2,h3⟩:=OQ hv b;unfold dl;rw[iP h1,h2,h3]
theorem Xn{n d:Nat}{e:Bool}{ρ:Nat→Nat}(h:2*n≤d):dl n e ρ d=d:=by
 unfold dl;rw[iN (by omega)]
theorem Oi{n v:Nat}(hv:v<n):(v+1) % n=if v=n - 1 then 0 else v+1:=by
 split
 ·rename_i h; rw[h,show n - 1+1=n by omega,Nat.mod_self]
 ·exact Nat.mod_eq_of_lt (by omega)
theorem RI{n v:Nat}(hv:v<n):(v+n - 1) % n=if v=0 then n - 1 else v - 1:=Z7g hv
theorem wC{n v:Nat}(hv:v<n)(b:Bool):Q5 n v b=arr n (if b then (v+1) % n else (v+n - 1) % n) b:=by
 have h0:0<n:=by omega
 cases b with
 | true=>
  unfold Q5 arr;simp only[if_true];have hm:=Nat.mod_lt (v+1) h0;rw[RI hm,Oi hv]
  grind
 | false=>
  rfl
theorem Rm{n u u':Nat}{c c':Bool}(hu:u<n)(PA:u'<n)(h:Q5 n u c=Q5 n u' c'):u=u'∧c=c':=by
 have h1:=bT hu c;have h2:=bT PA c';rw[h,h2]at h1;obtain⟨e1,e2⟩:=Z4f PA hu h1
 grind
theorem mZ{m a b:Nat}(ha:a<m)(hb:b<m)(h:(a+1) % m=(b+1) % m):a=b:=by
 rw[Oi ha,Oi hb]at h
 grind
theorem rS{ls:List Lt}(hw:Wv ls):Cn (U2 ls (Z4 ls)) (2*ls.length+2*Z5 ls):=by
 obtain⟨r1,r2,r3,_⟩:=x6 hw.Qp hw.PD;have str:∀ d,d<2*ls.length→U2 ls (Z4 ls) d<2*ls.length → ∃ v b,v<ls.length∧(at' ls v).k=2∧d=arr ls.length v b∧U2 ls (Z4 ls) d=Q5 ls.length (XQ ls v) (b == Qs ls v):=fun d hd ht=>by
  obtain⟨v,b,hv,rfl⟩:=MP hd;rcases Decidable.em ((at' ls v).k=2)with hk|hk
  ·exact⟨v,b,hv,hk,rfl,Z4z hv hk b⟩
  ·rw[Sv hv,iN hk]at ht;split at ht<;>omega
 have axs:∀ d,2*ls.length≤d→d<2*ls.length+2*Z5 ls → ∃ v q,v<ls.length∧(at' ls v).k=1∧q<Z5 ls∧(Z4 ls).getD q 0=v∧R9 v (Z4 ls)=q ∧
  (d % 2=0∧q=((d - 2*ls.length) / 2+1) % Z5 ls∧U2 ls (Z4 ls) d=Q5 ls.length v (!W4 ls v)∨d % 2=1∧q=(d - 2*ls.length) / 2∧U2 ls (Z4 ls) d=Q5 ls.length v (W4 ls v)):=fun d hd hd2=>by
  obtain⟨p,hp⟩:∃ p,(d - 2*ls.length) / 2=p:=⟨_,rfl⟩
  have hpm:p<Z5 ls:=by omega
  rcases Nat.mod_two_eq_zero_or_one d with e0|e0
  ·have ex:d=2*ls.length+2*p:=by omega
   have hq:=Nat.mod_lt (p+1) hw.Qp;obtain⟨v,hv,hk,hg,hi⟩:=Wo hq;exact⟨v,_,hv,hk,hq,hg,hi,.inl ⟨e0,by rw[hp],by rw[ex,WL,hg]⟩⟩
  ·have ex:d=2*ls.length+2*p+1:=by omega
   obtain⟨v,hv,hk,hg,hi⟩:=Wo hpm;exact⟨v,p,hv,hk,hpm,hg,hi,.inr ⟨e0,hp.symm,by rw[ex,Vy,hg]⟩⟩
 refine⟨r2,fun y y' hy hy' e=>?_⟩
 by_cases hz:2*ls.length≤U2 ls (Z4 ls) y
 ·grind
 ·by_cases s1:y<2*ls.length
  ·obtain⟨v,b,hv,hk,rfl,ht⟩:=str y s1 (by omega)
   obtain⟨w1,w2,w3,_,_⟩:=hw.CX v hv hk;by_cases s2:y'<2*ls.length
   ·obtain⟨v',b',Hf,hk',rfl,ht'⟩:=str y' s2 (by omega)
    obtain⟨w1',w2',w3',_,_⟩:=hw.CX v' Hf hk';rw[ht,ht']at e;obtain⟨e1,e2⟩:=Rm w1 w1' e;have ev:v=v':=by
     rw[← w3,e1,w3']
    subst ev
    congr 1
    revert e2
    cases b<;>cases b'<;>cases Qs ls v<;>simp
   ·obtain⟨v',q,Hf,hk',_,_,_,ha⟩:=axs y' (by omega) hy'
    exfalso;rw[ht]at e;have:XQ ls v=v':=by
     rcases ha with⟨_,_,ha⟩|⟨_,_,ha⟩
     ·rw[ha]at e;exact(Rm w1 Hf e).1
     ·rw[ha]at e;exact(Rm w1 Hf e).1
    grind
  ·obtain⟨v,q,hv,hk,hq,hg,hi,ha⟩:=axs y (by omega) hy
   by_cases s2:y'<2*ls.length
   ·obtain⟨v',b',Hf,hk',rfl,ht'⟩:=str y' s2 (by omega)
    obtain⟨w1',w2',w3',_,_⟩:=hw.CX v' Hf hk';exfalso;rw[ht']at e;have:v=XQ ls v':=by
     rcases ha with⟨_,_,ha⟩|⟨_,_,ha⟩
     ·rw[ha]at e;exact(Rm hv w1' e).1
     ·rw[ha]at e;exact(Rm hv w1' e).1
    grind
   ·obtain⟨v',q',Hf,hk',EI,hg',hi',ha'⟩:=axs y' (by omega) hy'
    have p1:(y - 2*ls.length) / 2<Z5 ls:=by omega
    have p2:(y' - 2*ls.length) / 2<Z5 ls:=by omega
    rcases ha with⟨m1,q1,ha⟩|⟨m1,q1,ha⟩<;>rcases ha' with⟨m2,q2,ha'⟩|⟨m2,q2,ha'⟩<;>rw[ha,ha']at e<;>obtain ⟨e1,e2⟩:=Rm hv Hf e
    ·rw[e1,hi']at hi;rw[hi,q1]at q2;have:=mZ p1 p2 q2;omega
    ·rw[e1]at e2
     revert e2
     cases W4 ls v'<;>simp
    ·rw[e1]at e2
     revert e2
     cases W4 ls v'<;>simp
    grind
section
variable {x y:List Lt} {e:Bool} {ρ σ:Nat→Nat} (h:Cj x y e ρ σ)
include h
theorem YP{v:Nat}(hv:v<x.length)(b:Bool):dl x.length e ρ (Q5 x.length v b)=Q5 x.length (ρ v) (b == e):=by
 have h0:0<x.length:=by omega
 rw[wC hv,Nk (by split<;>exact Nat.mod_lt _ h0),wC (h.lt v hv)]
 congr 1
 have h1:=h.pre v hv;have h2:=h.nxt v hv
 grind
theorem yz{d:Nat}(hd:d<2*x.length):dl x.length e ρ d<2*x.length:=by
 obtain⟨v,b,hv,rfl⟩:=MP hd;rw[Nk hv];exact(OQ (h.lt v hv) _).1
theorem yR{d:Nat}(hd:d<2*x.length+2*Z5 x):U2 y (Z4 y) (dl x.length e ρ d)=dl x.length e ρ (U2 x (Z4 x) d):=by
 have hlen:=h.len;have hpas:=h.Qp;by_cases hs:d<2*x.length
 ·obtain⟨v,b,hv,rfl⟩:=MP hs;have ty:=Sv (ls:=y) (v:=ρ v) (by rw[hlen]; exact h.lt v hv) (b == e)
  rw[hlen,hpas,h.PD v hv]at ty;rw[Nk hv,ty,Sv hv];rcases Decidable.em ((at' x v).k=2)with hk|hk
  ·rw[iP hk,iP hk,h.CX v hv hk,YP h (h.wx.CX v hv hk).1];have:=h.ov v hv hk;unfold Qs at this;rw[this]
   congr 1
   cases b<;>cases e<;>cases ((at' x v).o == ((at' x v).s == 1))<;>rfl
  ·have hk1:=h.wx.PD v hv hk;rw[iN hk,iN hk,h.dn v hv hk1,h.idx v hv hk1];by_cases hb:W4 x v=b
   ·rw[iP hb,iP (by rw[hb]),Xn (by omega)]
   ·rw[iN hb,iN (by revert hb; cases W4 x v<;>cases b<;>cases e<;>simp),Xn (by omega)]
 ·rw[Xn (by omega)]
  obtain⟨p,hp⟩:∃ p,(d - 2*x.length) / 2=p:=⟨_,rfl⟩
  have hpm:p<Z5 x:=by omega
  have key:∀ q,q<Z5 x → ∃ v,v<x.length∧(Z4 x).getD q 0=v∧(Z4 y).getD q 0=ρ v∧W4 y (ρ v)=(W4 x v == e):=fun q hq=>by
   obtain⟨v,hv,hk,hg,hi⟩:=Wo hq;obtain⟨_,g2⟩:=Zzs (ls:=y) (v:=ρ v) (by rw[hlen]; exact h.lt v hv) (by rw[h.PD v hv]; exact hk)
   rw[h.idx v hv hk,hi]at g2;exact⟨v,hv,hg,g2,h.dn v hv hk⟩
  have tr:=WL (ls:=y) (p:=p);have tl:=Vy (ls:=y) (p:=p);rw[hlen]at tr tl;rw[hpas]at tr;rcases Nat.mod_two_eq_zero_or_one d with e0|e0
  ·have ex:d=2*x.length+2*p:=by omega
   subst ex;obtain⟨v,hv,k1,k2,k3⟩:=key _ (Nat.mod_lt (p+1) h.wx.Qp);rw[tr,WL,k1,k2,k3,YP h hv]
   congr 1
   cases W4 x v<;>cases e<;>rfl
  ·have ex:d=2*x.length+2*p+1:=by omega
   subst ex;obtain⟨v,hv,k1,k2,k3⟩:=key p hpm;rw[tl,Vy,k1,k2,k3,YP h hv]
theorem sv{d:Nat}(hd:d<2*x.length):dl x.length e σ (dl x.length e ρ d)=d:=by
 obtain⟨v,b,hv,rfl⟩:=MP hd;rw[Nk hv,Nk (h.lt v hv),h.inv v hv];simp
theorem Z48{d:Nat}(hd:d<2*x.length):dl x.length e ρ (dl x.length e σ d)=d:=by
 obtain⟨v,b,hv,rfl⟩:=MP hd;rw[Nk hv,Nk (h.Rw v hv),h.inr v hv];simp
theorem s8:H5 (U2 y (Z4 y)) (2*x.length+2*Z5 x)=H5 (U2 x (Z4 x)) (2*x.length+2*Z5 x):=by
 have ax:∀ (ρ:Nat→Nat) d,¬d<2*x.length→dl x.length e ρ d=d:=fun ρ d hd=>Xn (by omega)
 have hs:∀ d,d<2*x.length→dl x.length e σ d<2*x.length:=fun d hd=>by
  obtain⟨v,b,hv,rfl⟩:=MP hd;rw[Nk hv];exact(OQ (h.Rw v hv) _).1
 refine tK (φ:=dl x.length e ρ) (ψ:=dl x.length e σ) (rS h.wx) (fun d hd=>?_) (fun d hd=>?_) (fun d hd=>?_) (fun d hd=>?_) fun d hd=>yR h hd
 ·by_cases s:d<2*x.length
  ·have:=yz h s; omega
  grind
 ·grind
 ·by_cases s:d<2*x.length
  ·exact sv h s
  grind
 ·by_cases s:d<2*x.length
  ·exact Z48 h s
  grind
end
end Go.Ab
end
