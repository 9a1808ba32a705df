/- Part 33 of the proof: Sr, Sx, Pw, Px, Py, Zb. -/
import Derived.Test.YtilmpmlkndfbjaaGreatDoorR10
import Derived.Test.YtilmpmlkndfbjaaGreatDoorR25
import Derived.Test.YtilmpmlkndfbjaaGreatDoorR30
import Derived.Test.YtilmpmlkndfbjaaGreatDoorR31
import Derived.Test.YtilmpmlkndfbjaaGreatDoorR32
set_option linter.all false
section
namespace Go.AE
open Go.RowKit
variable {P:Program}
theorem PCall.arg{g:FuncId}{args args':List AVal}{v:AVal}(h:PCall P g args v)(f:WkL args' args):PCall P g args' v:=by
 obtain⟨d,e⟩:=Zqx f;intro m c;refine⟨(h m c).1,fun W Φ ρ vs w j a b=>(h m c).2 W Φ ρ vs w j ⟨by rw[a.1,d],fun i y u o k=>?_⟩ b⟩
 obtain⟨x,n,l⟩:=e i y o;exact l _ _ _ (a.2 i x u n k)
end Go.AE
namespace Go.Known
open Go Go.AE Go.Proofs
open Go.Plain
end Go.Known
end
section
namespace Go.Known
open Go Go.AE Go.Proofs
open Go.Plain
structure Fg where
 p:Int
 r:Bool
 d:Int
deriving DecidableEq,Inhabited
end Go.Known
end
section
namespace Go.Known
open Go.Plain
theorem Z70{met:List Int}{l:Lt}{x:Int}(h:x∈O7 met l):x∈met∨(l.k=2∧l.i=x):=by
 unfold O7 at h;split at h
 ·rename_i b;rcases List.mem_append.1 h with a|a
  ·exact .inl a
  ·exact .inr ⟨b.1,(List.mem_singleton.1 a).symm⟩
 ·exact .inl h
theorem Zjz{y:List Lt}{s p:Nat}(a:s<y.length)(d:p<y.length):at' (B4 s y) p=at' y (mvt y.length true s p):=by
 have c:=G4 (e:=true) a d;have f:rho y.length s (mvt y.length true s p)=p:=by
  rw[Zkz a c];unfold mvt;simp only[if_true];split<;>split<;>omega
 have b:=Z9j a c;rw[f]at b;exact b
def Bst(z:Option (List Lt))(n:Nat)(S:List Lt→Prop):Prop:=
 match z with
 | none=>∀ u,¬S u
 | some w=>S w ∧ ∀ u,S u→u.length=n∧ltLs u w=false
theorem Bst.congr{z:Option (List Lt)}{n:Nat}{S T:List Lt→Prop}(h:Bst z n S)(a:∀ u,S u↔T u):Bst z n T:=by
 cases z with
 | none=>exact fun u b=>h u ((a u).2 b)
 | some w=>exact ⟨(a w).1 h.1,fun u b=>h.2 u ((a u).2 b)⟩
end Go.Known
end
section
namespace Go.Known
open Go.Plain
theorem De.refl{y:List Lt}(a:y≠[]):De true y y:=by
 have:=Zsx (φ:=id) a (Z5c y);have e:y.map (ap id)=y:=by
  conv=>rhs; rw[← List.map_id y]
  exact List.map_congr_left fun l _=>Z9s l
 rwa[e]at this
theorem Zln{e:Bool}{y x:List Lt}{p:Lt→Bool}(k:∀ φ l,p (ap φ l)=p l)(h:De e y x):Z5 p x=Z5 p y:=by
 obtain⟨d,s,φ,n,hi,i⟩:=h;have hm:∀ l:List Lt,Z5 p (l.map (ap φ))=Z5 p l:=fun l=>by rw[Zkj]; exact F0 fun a _=>k φ a
 cases e with
 | true=>
  have g:x=(B4 s y).map (ap φ):=by
   refine Zi9 (by rw[List.length_map,Zfz,d]) fun q b=>?_
   rw[d]at b;rw[(i q b).1,atm (by rw[Zfz]; exact b),Zjz n b]
  rw[g,hm,Zl6]
 | false=>
  have g:x=(B4 (y.length - 1 - s) y.reverse).map (ap φ):=by
   refine Zi9 (by rw[List.length_map,Zfz,List.length_reverse,d]) fun q b=>?_
   rw[d]at b;have f:y.length - 1 - s<y.reverse.length:=by rw[List.length_reverse]; omega
   have c:q<y.reverse.length:=by rw[List.length_reverse]; exact b
   have j:y.length - 1 - mvt y.length true (y.length - 1 - s) q=mvt y.length false s q:=by
    unfold mvt;simp only[bF,if_false,if_true];split<;>split<;>omega
   rw[(i q b).1,atm (by rw[Zfz]; exact c),Zjz f c,List.length_reverse,Znu (G4 (by omega) b),j]
  have m:Z5 p y.reverse=Z5 p y:=by unfold Z5; rw[List.filter_reverse,List.length_reverse]
  rw[g,hm,Zl6,m]
theorem Z1e{e:Bool}{y x:List Lt}(h:De e y x)(g:Int):inG g x=inG g y:=
 Zln (p:=fun l=>isP l&&l.g == g) (fun φ l=>by
  by_cases a:l.k=2
  ·rw[I8 a];rfl
  ·rw[Zam a]) h
structure Tf (y:List Lt) (a:Nat):Prop where
 ev:Z3 y % 2=0
 lt:a<y.length
 dn:down y a=false
 tu:tuN y=B4 a (y.map tuL)
theorem Tf.at{y:List Lt}{a p:Nat}(h:Tf y a)(b:p<y.length):at' (tuN y) p=tuL (at' y (mvt y.length true a p)):=by
 have c:=G4 (e:=true) h.lt b;rw[h.tu,Zjz (by rw[List.length_map]; exact h.lt) (by rw[List.length_map]; exact b),List.length_map,atm c]
theorem Tf.down{y:List Lt}{a p:Nat}(h:Tf y a)(j:p<y.length):down (tuN y) p = !down y (mvt y.length true a p):=by
 have g:=G4 (e:=true) h.lt j;have k:rho y.length a (mvt y.length true a p)=p:=by
  rw[Zkz h.lt g];unfold mvt;simp only[if_true];split<;>split<;>omega
 have c:(y.map tuL).length=y.length:=List.length_map _;have d:=Z8z (ls:=y.map tuL) (a:=a) (v:=mvt y.length true a p) (by rw[c]; exact h.lt) (by rw[c]; exact g)
 rw[c,k,← h.tu,← List.map_take,← List.map_take,Zo0,Zo0,Zo0]at d;have f:=h.dn;have l:=h.ev;unfold Plain.down at f ⊢;have i:Z3 (y.take a) % 2=1:=by
  simp only[beq_eq_false_iff_ne,ne_eq]at f;omega
 have e:Z3 ((tuN y).take p) % 2=(Z3 (y.take (mvt y.length true a p))+1) % 2:=by split at d<;>omega
 rw[e];rcases Nat.mod_two_eq_zero_or_one (Z3 (y.take (mvt y.length true a p)))with b|b
 ·rw[b,show (Z3 (y.take (mvt y.length true a p))+1) % 2=1 by omega]; rfl
 ·rw[b,show (Z3 (y.take (mvt y.length true a p))+1) % 2=0 by omega]; rfl
end Go.Known
end
section
namespace Go.Known
open Go.Plain
def imp(x y z:Bool):Bool:=!(x&&y)||z
end Go.Known
end
section
namespace Go.Known
open Go.Plain
section
variable {T T':Nat→Nat} {N:Nat} {φ ψ:Nat→Nat}
theorem Zxh(j:Perm1 T N)(l:∀ x,x<N→φ x<N)(a:∀ x,x<N→ψ x<N)(i:∀ x,x<N→ψ (φ x)=x)(c:∀ x,x<N→φ (ψ x)=x)(u:∀ x,x<N→T' (φ x)=φ (T x)):K1 T' N=K1 T N:=by
 obtain⟨S,t⟩:∃ S:Nat→Nat,S=fun x=>it T (per T N x - 1) x:=⟨_,rfl⟩
 have g:∀ x,x<N→S x<N:=fun x b=>by rw[t]; exact H9 j b _
 have k:∀ x,x<N→T (S x)=x:=fun x b=>by
  obtain⟨A,o,_⟩:=Zhl j b;rw[t];show it T (per T N x - 1+1) x=x;rw[show per T N x - 1+1=per T N x by omega]
  exact o
 have p:∀ x,x<N→S (T x)=x:=fun x b=>j.inj _ _ (g _ (j.lt x b)) b (k _ (j.lt x b))
 have n:Perm1 S N:=⟨g,fun y m f d e=>by rw[← k y f,e,k m d]⟩
 have q:Perm1 T' N:=by
  have e:∀ y,y<N→T' y=φ (T (ψ y)):=fun y f=>by
   have:=u (ψ y) (a y f);rwa[c y f]at this
  refine⟨fun y f=>by rw[e y f]; exact l _ (j.lt _ (a y f)),fun y m f d h=>?_⟩
  rw[e y f,e m d]at h;have o:=i _ (j.lt _ (a y f));rw[h,i _ (j.lt _ (a m d))]at o;have v:=j.inj _ _ (a m d) (a y f) o;rw[← c y f,← v,c m d]
 have w:Opp T S N N id id:=⟨j,n,fun x b=>b,fun x b=>b,fun x _=>rfl,fun x _=>rfl,p,fun x _=>Iff.rfl⟩
 have z:Opp S T' N N φ ψ:=⟨n,q,l,a,i,c,fun x b=>by rw[u _ (g x b),k x b],fun x b=>⟨fun _=>b,fun _=>l x b⟩⟩
 have r:=(Zxc w).length_eq;have s:=(Zxc z).length_eq;rw[List.length_map,List.length_map]at r s;unfold Q8 at r s;rw[Zf9,Zf9]at r s;unfold K1;omega
end
structure Cj (x y:List Lt) (e:Bool) (ρ σ:Nat→Nat):Prop where
 wx:Wv x
 wy:Wv y
 len:y.length=x.length
 pas:Z3 y=Z3 x
 lt:∀ v,v<x.length→ρ v<x.length
 ltr:∀ v,v<x.length→σ v<x.length
 inv:∀ v,v<x.length→σ (ρ v)=v
 inr:∀ v,v<x.length→ρ (σ v)=v
 pre:∀ v,v<x.length→ρ ((v+x.length - 1) % x.length)=if e then (ρ v+x.length - 1) % x.length else (ρ v+1) % x.length
 nxt:∀ v,v<x.length→ρ ((v+1) % x.length)=if e then (ρ v+1) % x.length else (ρ v+x.length - 1) % x.length
 kin:∀ v,v<x.length→(at' y (ρ v)).k=(at' x v).k
 oth:∀ v,v<x.length→(at' x v).k=2→T2 y (ρ v) x.length 0=ρ (T2 x v x.length 0)
 ov:∀ v,v<x.length→(at' x v).k=2→smN y (ρ v)=smN x v
 dn:∀ v,v<x.length→(at' x v).k=1→down y (ρ v)=(down x v == e)
 idx:∀ v,v<x.length→(at' x v).k=1→T8 (ρ v) (Z4 y)=T8 v (Z4 x)
def dl(n:Nat)(e:Bool)(ρ:Nat→Nat)(d:Nat):Nat:=if d<2*n then arr n (ρ (U8 n d)) ((d % 2 == 0) == e)else d
theorem Zfo{n v:Nat}{e:Bool}{ρ:Nat→Nat}(f:v<n)(b:Bool):dl n e ρ (arr n v b)=arr n (ρ v) (b == e):=by
 obtain⟨a,c,d⟩:=Zgk f b;unfold dl;rw[if_pos a,c,d]
theorem Zmx{n d:Nat}{e:Bool}{ρ:Nat→Nat}(h:2*n≤d):dl n e ρ d=d:=by
 unfold dl;rw[if_neg (by omega)]
theorem Zgs{n v:Nat}(a:v<n):(v+1) % n=if v=n - 1 then 0 else v+1:=by
 split
 ·rename_i h; rw[h,show n - 1+1=n by omega,Nat.mod_self]
 ·exact Nat.mod_eq_of_lt (by omega)
theorem Ziu{n v:Nat}(a:v<n):(v+n - 1) % n=if v=0 then n - 1 else v - 1:=Z1u a
theorem Zrq{n v:Nat}(c:v<n)(b:Bool):T6 n v b=arr n (if b then (v+1) % n else (v+n - 1) % n) b:=by
 have a:0<n:=by omega
 cases b with
 | true=>
  unfold T6 arr;simp only[if_true];have hm:=Nat.mod_lt (v+1) a;rw[Ziu hm,Zgs c];split<;>split<;>omega
 | false=>
  unfold T6 arr;simp only[bF,if_false]
theorem Zhi{n u b:Nat}{c c':Bool}(e:u<n)(a:b<n)(h:T6 n u c=T6 n b c'):u=b∧c=c':=by
 have d:=Znx e c;have i:=Znx a c';rw[h,i]at d;obtain⟨f,g⟩:=Z8m a e d;exact⟨f.symm,by revert g; cases c<;>cases c'<;>simp⟩
theorem Zsm{m a b:Nat}(c:a<m)(d:b<m)(h:(a+1) % m=(b+1) % m):a=b:=by
 rw[Zgs c,Zgs d]at h;split at h<;>split at h<;>omega
theorem Zuv{ls:List Lt}(A:Wv ls):Perm1 (V1 ls (Z4 ls)) (2*ls.length+2*Z3 ls):=by
 obtain⟨O,Z,r3,_⟩:=Zq0 A.pas A.kin;have str:∀ d,d<2*ls.length→V1 ls (Z4 ls) d<2*ls.length → ∃ v b,v<ls.length∧(at' ls v).k=2∧d=arr ls.length v b∧V1 ls (Z4 ls) d=T6 ls.length (otN ls v) (b == smN ls v):=fun d K D=>by
  obtain⟨v,b,h,rfl⟩:=Zfy K;rcases Decidable.em ((at' ls v).k=2)with i|i
  ·exact⟨v,b,h,i,rfl,Yae h i b⟩
  ·rw[Ziz h,if_neg i]at D;split at D<;>omega
 have o:∀ d,2*ls.length≤d→d<2*ls.length+2*Z3 ls → ∃ v q,v<ls.length∧(at' ls v).k=1∧q<Z3 ls∧(Z4 ls).getD q 0=v∧T8 v (Z4 ls)=q ∧
  (d % 2=0∧q=((d - 2*ls.length) / 2+1) % Z3 ls∧V1 ls (Z4 ls) d=T6 ls.length v (!down ls v)∨d % 2=1∧q=(d - 2*ls.length) / 2∧V1 ls (Z4 ls) d=T6 ls.length v (down ls v)):=fun d K Q=>by
  obtain⟨p,L⟩:∃ p,(d - 2*ls.length) / 2=p:=⟨_,rfl⟩
  have C:p<Z3 ls:=by omega
  rcases Nat.mod_two_eq_zero_or_one d with G|G
  ·have ex:d=2*ls.length+2*p:=by omega
   have H:=Nat.mod_lt (p+1) A.pas;obtain⟨v,h,i,z,hi⟩:=Zmv H;exact⟨v,_,h,i,H,z,hi,.inl ⟨G,by rw[L],by rw[ex,Zkl,z]⟩⟩
  ·have ex:d=2*ls.length+2*p+1:=by omega
   obtain⟨v,h,i,z,hi⟩:=Zmv C;exact⟨v,p,h,i,C,z,hi,.inr ⟨G,L.symm,by rw[ex,Zms,z]⟩⟩
 refine⟨Z,fun y l M s e=>?_⟩
 by_cases V:2*ls.length≤V1 ls (Z4 ls) y
 ·have J:y<2*ls.length:=by
   apply Nat.lt_of_not_le;intro c;have:=O y c M;omega
  have E:l<2*ls.length:=by
   apply Nat.lt_of_not_le;intro c;have:=O l c s;omega
  exact r3 y l J E V e
 ·by_cases J:y<2*ls.length
  ·obtain⟨v,b,h,i,rfl,D⟩:=str y J (by omega)
   obtain⟨w1,P,w3,_,_⟩:=A.oth v h i;by_cases E:l<2*ls.length
   ·obtain⟨j,b',a,g,rfl,r⟩:=str l E (by omega)
    obtain⟨n,t,F,_,_⟩:=A.oth j a g;rw[D,r]at e;obtain⟨u,w⟩:=Zhi w1 n e;have ev:v=j:=by
     rw[← w3,u,F]
    subst ev
    congr 1
    revert w
    cases b<;>cases b'<;>cases smN ls v<;>simp
   ·obtain⟨j,q,a,g,_,_,_,f⟩:=o l (by omega) s
    exfalso;rw[D]at e;have:otN ls v=j:=by
     rcases f with⟨_,_,f⟩|⟨_,_,f⟩
     ·rw[f]at e;exact(Zhi w1 a e).1
     ·rw[f]at e;exact(Zhi w1 a e).1
    unfold otN at this;rw[this,g]at P;cases P
  ·obtain⟨v,q,h,i,H,z,hi,f⟩:=o y (by omega) M
   by_cases E:l<2*ls.length
   ·obtain⟨j,b',a,g,rfl,r⟩:=str l E (by omega)
    obtain⟨n,t,F,_,_⟩:=A.oth j a g;exfalso;rw[r]at e;have:v=otN ls j:=by
     rcases f with⟨_,_,f⟩|⟨_,_,f⟩
     ·rw[f]at e;exact(Zhi h n e).1
     ·rw[f]at e;exact(Zhi h n e).1
    unfold otN at this;rw[← this,i]at t;cases t
   ·obtain⟨j,q',a,g,U,S,B,m⟩:=o l (by omega) s
    have p1:(y - 2*ls.length) / 2<Z3 ls:=by omega
    have Y:(l - 2*ls.length) / 2<Z3 ls:=by omega
    rcases f with⟨X,N,f⟩|⟨X,N,f⟩<;>rcases m with⟨m2,I,m⟩|⟨m2,I,m⟩<;>rw[f,m]at e<;>obtain ⟨u,w⟩:=Zhi h a e
    ·rw[u,B]at hi;rw[hi,N]at I;have:=Zsm p1 Y I;omega
    ·rw[u]at w
     revert w
     cases down ls j<;>simp
    ·rw[u]at w
     revert w
     cases down ls j<;>simp
    ·rw[u,B]at hi;omega
section
variable {x y:List Lt} {e:Bool} {ρ σ:Nat→Nat} (h:Cj x y e ρ σ)
include h
theorem Zqm{v:Nat}(a:v<x.length)(b:Bool):dl x.length e ρ (T6 x.length v b)=T6 x.length (ρ v) (b == e):=by
 have c:0<x.length:=by omega
 rw[Zrq a,Zfo (by split<;>exact Nat.mod_lt _ c),Zrq (h.lt v a)]
 congr 1
 have d:=h.pre v a;have f:=h.nxt v a;cases b<;>cases e<;>simp_all
theorem Z9e{d:Nat}(c:d<2*x.length):dl x.length e ρ d<2*x.length:=by
 obtain⟨v,b,a,rfl⟩:=Zfy c;rw[Zfo a];exact(Zgk (h.lt v a) _).1
theorem Z3w{d:Nat}(C:d<2*x.length+2*Z3 x):V1 y (Z4 y) (dl x.length e ρ d)=dl x.length e ρ (V1 x (Z4 x) d):=by
 have c:=h.len;have g:=h.pas;by_cases B:d<2*x.length
 ·obtain⟨v,b,a,rfl⟩:=Zfy B;have ty:=Ziz (ls:=y) (v:=ρ v) (by rw[c]; exact h.lt v a) (b == e)
  rw[c,g,h.kin v a]at ty;rw[Zfo a,ty,Ziz a];rcases Decidable.em ((at' x v).k=2)with f|f
  ·rw[if_pos f,if_pos f,h.oth v a f,Zqm h (h.wx.oth v a f).1];have:=h.ov v a f;unfold smN at this;rw[this]
   congr 1
   cases b<;>cases e<;>cases ((at' x v).o == ((at' x v).s == 1))<;>rfl
  ·have i:=h.wx.kin v a f;rw[if_neg f,if_neg f,h.dn v a i,h.idx v a i];by_cases j:down x v=b
   ·rw[if_pos j,if_pos (by rw[j]),Zmx (by omega)]
   ·rw[if_neg j,if_neg (by revert j; cases down x v<;>cases b<;>cases e<;>simp),Zmx (by omega)]
 ·rw[Zmx (by omega)]
  obtain⟨p,D⟩:∃ p,(d - 2*x.length) / 2=p:=⟨_,rfl⟩
  have l:p<Z3 x:=by omega
  have key:∀ q,q<Z3 x → ∃ v,v<x.length∧(Z4 x).getD q 0=v∧(Z4 y).getD q 0=ρ v∧down y (ρ v)=(down x v == e):=fun q A=>by
   obtain⟨v,a,f,z,hi⟩:=Zmv A;obtain⟨_,t⟩:=Ycz (ls:=y) (v:=ρ v) (by rw[c]; exact h.lt v a) (by rw[h.kin v a]; exact f)
   rw[h.idx v a f,hi]at t;exact⟨v,a,z,t,h.dn v a f⟩
  have tr:=Zkl (ls:=y) (p:=p);have u:=Zms (ls:=y) (p:=p);rw[c]at tr u;rw[g]at tr;rcases Nat.mod_two_eq_zero_or_one d with w|w
  ·have ex:d=2*x.length+2*p:=by omega
   subst ex;obtain⟨v,a,m,n,r⟩:=key _ (Nat.mod_lt (p+1) h.wx.pas);rw[tr,Zkl,m,n,r,Zqm h a]
   congr 1
   cases down x v<;>cases e<;>rfl
  ·have ex:d=2*x.length+2*p+1:=by omega
   subst ex;obtain⟨v,a,m,n,r⟩:=key p l;rw[u,Zms,m,n,r,Zqm h a]
theorem Z6i{d:Nat}(c:d<2*x.length):dl x.length e σ (dl x.length e ρ d)=d:=by
 obtain⟨v,b,a,rfl⟩:=Zfy c;rw[Zfo a,Zfo (h.lt v a),h.inv v a]
 congr 1
 cases b<;>cases e<;>rfl
theorem Z13{d:Nat}(c:d<2*x.length):dl x.length e ρ (dl x.length e σ d)=d:=by
 obtain⟨v,b,a,rfl⟩:=Zfy c;rw[Zfo a,Zfo (h.ltr v a),h.inr v a]
 congr 1
 cases b<;>cases e<;>rfl
theorem Ycu:K1 (V1 y (Z4 y)) (2*x.length+2*Z3 x)=K1 (V1 x (Z4 x)) (2*x.length+2*Z3 x):=by
 have c:∀ (ρ:Nat→Nat) d,¬d<2*x.length→dl x.length e ρ d=d:=fun ρ d a=>Zmx (by omega)
 have g:∀ d,d<2*x.length→dl x.length e σ d<2*x.length:=fun d a=>by
  obtain⟨v,b,f,rfl⟩:=Zfy a;rw[Zfo f];exact(Zgk (h.ltr v f) _).1
 refine Zxh (φ:=dl x.length e ρ) (ψ:=dl x.length e σ) (Zuv h.wx) (fun d a=>?_) (fun d a=>?_) (fun d a=>?_) (fun d a=>?_) fun d a=>Z3w h a
 ·by_cases s:d<2*x.length
  ·have:=Z9e h s; omega
  ·rw[c _ d s]; exact a
 ·by_cases s:d<2*x.length
  ·have:=g d s; omega
  ·rw[c _ d s]; exact a
 ·by_cases s:d<2*x.length
  ·exact Z6i h s
  ·rw[c ρ d s,c σ d s]
 ·by_cases s:d<2*x.length
  ·exact Z13 h s
  ·rw[c σ d s,c ρ d s]
end
end Go.Known
end
