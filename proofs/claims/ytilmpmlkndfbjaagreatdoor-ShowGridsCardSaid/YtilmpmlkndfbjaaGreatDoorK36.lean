/- Part 36 of the proof: Ee, Ef, Eg, AeWg. -/
import Derived.Test.YtilmpmlkndfbjaaGreatDoorK24
import Derived.Test.YtilmpmlkndfbjaaGreatDoorK25
import Derived.Test.YtilmpmlkndfbjaaGreatDoorK26
import Derived.Test.YtilmpmlkndfbjaaGreatDoorK30
import Derived.Test.YtilmpmlkndfbjaaGreatDoorK35
import Derived.Shelf.SlSortCmp.NoneTotal
import Derived.Test.YtilmpmlkndfbjaaGreatDoorProg
import Derived.Deep.QuietTactic
import Derived.BigQuiet
import Derived.RegionTactic
import Derived.ChangeAlike
import Derived.BigRegion
import Derived.Sort.Grow
import Derived.WalkKit
set_option linter.all false
section
namespace Go.Ab
open Go.Plain
def Ij(s:Nat→Int)(o:Nat→Bool):Nat→List Lt
 | 0=>[]
 | n+1=>Ij s o n++[⟨2,0,0,((n+1:Nat):Int),s n,o n⟩,⟨2,0,0,((n+1:Nat):Int),s n,!o n⟩]
section
variable {s:Nat→Int} {o:Nat→Bool}
theorem rO:∀ {n:Nat} {l:Lt},l∈Ij s o n → ∃ j b,j<n∧l=⟨2,0,0,((j+1:Nat):Int),s j,b⟩∧(b=o j∨b = !o j)
 | 0,l,h=>by cases h
 | n+1,l,h=>by
  rcases List.mem_append.1 h with h|h
  ·obtain⟨j,b,h1,h2,h3⟩:=rO h;exact⟨j,b,by omega,h2,h3⟩
  ·simp only[mC,List.not_mem_nil,or_false]at h;rcases h with h|h
   ·exact⟨n,o n,by omega,h,.inl rfl⟩
   ·exact⟨n,!o n,by omega,h,.inr rfl⟩
theorem WX(p:Lt→Bool)(n:Nat):Z7 p (Ij s o (n+1))=Z7 p (Ij s o n)+((if p ⟨2,0,0,((n+1:Nat):Int),s n,o n⟩ then 1 else 0)+if p ⟨2,0,0,((n+1:Nat):Int),s n,!o n⟩ then 1 else 0):=by
 show Z7 p (Ij s o n++_)=_;rw[Ni,LX,LX];rfl
theorem lZ:∀ n,U0 (Ij s o n)=2*n
 | 0=>rfl
 | n+1=>by
  have:=lZ n;unfold U0 at *;rw[WX,this];simp[Bv];omega
theorem TA{p:Lt→Bool}(hp:∀ l:Lt,l.k=2→p l=false):∀ n,Z7 p (Ij s o n)=0
 | 0=>rfl
 | n+1=>by rw[WX,TA hp n,hp _ rfl,hp _ rfl]; rfl
theorem pW(j:Nat):∀ n,Ir ((j+1:Nat):Int) (Ij s o n)=if j<n then 2 else 0
 | 0=>rfl
 | n+1=>by
  have:=pW j n;unfold Ir at *;rw[WX,this];by_cases e:n=j
  ·subst e;simp[Bv]
  grind
theorem tT(j:Nat)(b:Bool)(hb:b=o j∨b = !o j):∀ n,MU ⟨2,0,0,((j+1:Nat):Int),s j,b⟩ (Ij s o n)=if j<n then 1 else 0
 | 0=>rfl
 | n+1=>by
  have:=tT j b hb n;unfold MU at *;rw[WX,this]
  grind
end
theorem vS(m:Nat)(PL:List (Nat×Nat))(X:List Nd)(AL:List Nat):∀ n,((List.range n).flatMap fun j=>[2*m+4*j,2*m+4*j+1]).map (Ez m PL X AL) =
 Ij (fun j=>FA (Gf m AL j) (Gg m AL j) (X.getD j (false,false)).1) (fun j=>(X.getD j (false,false)).1 != (X.getD j (false,false)).2) n
 | 0=>rfl
 | n+1=>by
  rw[List.range_succ,List.flatMap_append,List.map_append,vS m PL X AL n];show _++[Ez m PL X AL (2*m+4*n),Ez m PL X AL (2*m+4*n+1)]=_;have a1:Ez m PL X AL (2*m+4*n)=⟨2,0,0,((n+1:Nat):Int),FA (Gf m AL n) (Gg m AL n) (X.getD n (false,false)).1,(X.getD n (false,false)).1 != (X.getD n (false,false)).2⟩:=by
   unfold Ez;rw[iN (by omega),show (2*m+4*n - 2*m) / 4=n by omega,show (2*m+4*n - 2*m) % 4 % 2=0 by omega]
   simp
  have a2:Ez m PL X AL (2*m+4*n+1)=⟨2,0,0,((n+1:Nat):Int),FA (Gf m AL n) (Gg m AL n) (X.getD n (false,false)).1,!((X.getD n (false,false)).1 != (X.getD n (false,false)).2)⟩:=by
   unfold Ez;rw[iN (by omega),show (2*m+4*n+1 - 2*m) / 4=n by omega,show (2*m+4*n+1 - 2*m) % 4 % 2=1 by omega]
   simp
  rw[a1,a2];rfl
theorem Z9a{m:Nat}{X:List Nd}{a:Nat}(ha:a<2*m+4*X.length):Eu m X (CH m a)=if a<2*m then !Eu m X a else Eu m X a:=by
 by_cases h:a<2*m
 ·rw[iP h,OA h];unfold Eu;rw[iP (YW h),iP h];unfold Dc
  grind
 ·rw[iN h];obtain⟨j,q,hj,hq,rfl⟩:=Tx h ha;rw[Oh hq];have:=Nat.mod_lt (q+2) (show 0<4 by omega)
  unfold Eu
  grind
section
variable {m:Nat} {X:List Nd} {L:List (Nat×Nat)} (h:Gt m X L) (hw:EF m X L) {gs:List Nat} {F:Nat} (Bd:(Ar 0 gs).length=m) (Dd:gs.length=F+1)
include h hw Bd
theorem HA:(Y3 m (Ar 0 gs) X L).length=m+2*X.length:=by unfold Y3 CR; simp
theorem QU{t:Nat}(ht:t<m+2*X.length):at' (Y3 m (Ar 0 gs) X L) t=Ez m (Ar 0 gs) X (CR m X L) (Al m L t):=by
 have hl:=HA h hw Bd;unfold at';rw[List.getD,gE (by rw[hl]; exact ht)]
 show(Y3 m (Ar 0 gs) X L)[t]=_;unfold Y3;rw[List.getElem_map]
 congr 1
 unfold CR;simp
theorem pQ:(Y3 m (Ar 0 gs) X L).Perm ((Ar 0 gs).map AG++Ij (fun j=>FA (Gf m (CR m X L) j) (Gg m (CR m X L) j) (X.getD j (false,false)).1) (fun j=>(X.getD j (false,false)).1 != (X.getD j (false,false)).2) X.length):=by
 have e1:Y3 m (Ar 0 gs) X L=((CR m X L).map (EK m)).map (Ez m (Ar 0 gs) X (CR m X L)):=by
  unfold Y3;rw[List.map_map];exact List.map_congr_left fun a _=>(Z9k m _ X _ a).symm
 have e2:(W7 m).map (Ez m (Ar 0 gs) X (CR m X L))=(Ar 0 gs).map AG:=by
  apply List.ext_getElem?;intro i;rw[gM,gM];unfold W7;rw[gM];by_cases hi:i<m
  ·rw[List.getElem?_range hi,gE (by omega)]
   show some (Ez m (Ar 0 gs) X (CR m X L) (2*i))=some (AG (Ar 0 gs)[i]);unfold Ez;rw[iP (by omega),show 2*i / 2=i by omega,List.getD,gE (by omega)]
   rfl
  grind
 rw[e1];refine((vQ h hw).map _).trans ?_;unfold Na;rw[List.map_append,e2,vS]
theorem Ov(p:Lt→Bool):Z7 p (Y3 m (Ar 0 gs) X L)=Z7 p ((Ar 0 gs).map AG)+Z7 p (Ij (fun j=>FA (Gf m (CR m X L) j) (Gg m (CR m X L) j) (X.getD j (false,false)).1) (fun j=>(X.getD j (false,false)).1 != (X.getD j (false,false)).2) X.length):=by
 rw[← Ni];unfold Z7;exact((pQ h hw Bd).filter p).length_eq
theorem nR:Z5 (Y3 m (Ar 0 gs) X L)=m:=by
 unfold Z5;rw[Ov h hw Bd,TA (fun l hl=>by simp[AT,hl])]
 unfold Z7;rw[List.filter_eq_self.2 fun l hl=>?_]
 ·simp[Bd]
 ·obtain⟨q,_,rfl⟩:=mM.1 hl;rfl
theorem lW:U0 (Y3 m (Ar 0 gs) X L)=2*X.length:=by
 unfold U0;rw[Ov h hw Bd];have h1:=lZ (s:=fun j=>FA (Gf m (CR m X L) j) (Gg m (CR m X L) j) (X.getD j (false,false)).1) (o:=fun j=>(X.getD j (false,false)).1 != (X.getD j (false,false)).2) X.length
 unfold U0 at h1;rw[h1];unfold Z7;rw[List.filter_eq_nil_iff.2 fun l hl=>?_]
 ·simp
 ·obtain⟨q,_,rfl⟩:=mM.1 hl;simp[Bv,AG]
include Dd in
theorem Yb:∀ l,l∈Y3 m (Ar 0 gs) X L→Gq F (Y3 m (Ar 0 gs) X L) l=true:=by
 intro l hl;rcases List.mem_append.1 ((pQ h hw Bd).mem_iff.1 hl)with hl|hl
 ·have hl0:=hl;obtain⟨q,hq,rfl⟩:=mM.1 hl;obtain⟨i,c,h1,h2,h3,h4⟩:=aT gs 0 q hq;have hi:i<gs.length:=by
   grind
  have hc:CS ((AG q).g) (Y3 m (Ar 0 gs) X L)=c:=by
   have h5:=qG gs 0 i c h1;have e:(AG q).g=((0+i:Nat):Int):=by show((q.1:Nat):Int)=_; rw[h2]
   rw[e];unfold CS at h5 ⊢;rw[Ov h hw Bd,h5,TA (fun l hl=>by simp[AT,hl])]
   rfl
  refine(bY (show (AG q).k=1 from rfl)).2 ⟨rfl,rfl,rfl,?_,?_,?_,?_,?_⟩
  ·show(0:Int)≤(q.1:Int); omega
  ·show(q.1:Int)≤(F:Int); omega
  ·show(1:Int)≤(q.2:Int); omega
  ·rw[hc]; show(q.2:Int)≤(c:Int); omega
  ·have h6:=oM (ZC gs 0) _ hl0;unfold same at h6 ⊢;rw[Ov h hw Bd,h6,TA (fun l hl=>by rw[hl]; rfl)]
 ·obtain⟨j,b,hj,rfl,hb⟩:=rO hl;refine(VX rfl).2 ⟨rfl,rfl,?_,?_,?_,?_,?_⟩
  ·show FA _ _ _=1∨FA _ _ _ = -1;unfold FA;omega
  ·grind
  ·rw[lW h hw Bd,Nat.mul_div_cancel_left _ (by omega)]
   grind
  ·have h1:=tT (s:=fun j=>FA (Gf m (CR m X L) j) (Gg m (CR m X L) j) (X.getD j (false,false)).1) (o:=fun j=>(X.getD j (false,false)).1 != (X.getD j (false,false)).2) j b hb X.length
   unfold MU at h1 ⊢;rw[Ov h hw Bd,h1,iP hj];unfold Z7;rw[List.filter_eq_nil_iff.2 fun l hl=>?_]
   ·rfl
   ·obtain⟨q,_,rfl⟩:=mM.1 hl;simp[AG]
  ·have h1:=pW (s:=fun j=>FA (Gf m (CR m X L) j) (Gg m (CR m X L) j) (X.getD j (false,false)).1) (o:=fun j=>(X.getD j (false,false)).1 != (X.getD j (false,false)).2) j X.length
   unfold Ir at h1 ⊢;rw[Ov h hw Bd,h1,iP hj];unfold Z7;rw[List.filter_eq_nil_iff.2 fun l hl=>?_]
   ·rfl
   ·obtain⟨q,_,rfl⟩:=mM.1 hl;simp[AG,Bv]
theorem Ri{t:Nat}(ht:t<m+2*X.length):(at' (Y3 m (Ar 0 gs) X L) t).k=if Al m L t<2*m then 1 else 2:=by
 rw[QU h hw Bd ht];unfold Ez;split<;>rfl
theorem lS:∀ t,t<m+2*X.length→Eu m X (Al m L t) = !W4 (Y3 m (Ar 0 gs) X L) t:=by
 intro t
 induction t with
 | zero=>
  intro _;have:Al m L 0=0:=rfl;rw[this];unfold Eu W4;rw[iP (by have:=h.hm; omega)]
  rfl
 | succ t ih=>
  intro ht;have ih:=ih (by omega)
  have hk:=Ri h hw Bd (gs:=gs) (t:=t) (by omega)
  have hp:=Z82 (ls:=Y3 m (Ar 0 gs) X L) (i:=t) (by rw[HA h hw Bd]; omega)
  have e1:Al m L (t+1)=Bk L (CH m (Al m L t)):=rfl;rw[e1,h.sd _ (G9 (P8 h t)).1,Z9a (P8 h t),ih];unfold W4 at *;rw[hp];by_cases hc:Al m L t<2*m
  ·rw[iP hc]at hk;rw[iP hc,iP (by simp[AT,hk])]
   grind
  ·rw[iN hc]at hk;rw[iN hc,iN (by simp[AT,hk])]
   rfl
theorem Z9p{t j q:Nat}(ht:t<m+2*X.length)(hj:j<X.length)(hq:q<4)(e:Al m L t=2*m+4*j+q) :
 ∃ u q',u<m+2*X.length∧q'<4∧q' % 2≠q % 2∧Al m L u=2*m+4*j+q'∧Q9 (Y3 m (Ar 0 gs) X L) t (m+2*X.length) 0=u:=by
 have hlen:=HA h hw Bd;obtain⟨u,hu,hru⟩:=VK h hw (e:=2*m+4*j+(1 - q % 2)) (Dt.2 (.inr ⟨j,hj,by omega⟩))
 have hau:=P8 h u;have hge:¬Al m L u<2*m:=fun c=>by
  unfold EK at hru
  grind
 obtain⟨j',q',hj',EI,e'⟩:=Tx hge hau;have hj2:j'=j∧q' % 2=1 - q % 2:=by
  rw[e']at hru;unfold EK at hru
  grind
 obtain⟨rfl,hpar⟩:=hj2;refine⟨u,q',hu,EI,by omega,e',?_⟩
 have hid:∀ v j q,v<m+2*X.length→q<4→Al m L v=2*m+4*j+q→(at' (Y3 m (Ar 0 gs) X L) v).k=2∧(at' (Y3 m (Ar 0 gs) X L) v).i=((j+1:Nat):Int):=fun v j q hv hq ev=>by
  rw[QU h hw Bd hv,ev];unfold Ez
  grind
 obtain⟨kt,it'⟩:=hid t j' q ht hq e;obtain⟨ku,iu⟩:=hid u j' q' hu EI e';have hne:u≠t:=fun c=>by
  grind
 refine Yw ?_ ?_ (m+2*X.length) 0 (Nat.zero_le _) (by omega) (by rw[hlen]; omega)
 ·rw[it',iu];simp[hne,Bv,ku]
 ·intro x hc hx;rw[hlen]at hx;simp only[bA,bne_iff_ne,ne_eq,beq_iff_eq,Bv]at hc;obtain⟨⟨c1,c2⟩,c3⟩:=hc;have hkx:=Ri h hw Bd (gs:=gs) hx;have hgx:¬Al m L x<2*m:=fun c=>by omega
  obtain⟨jx,qx,hjx,hqx,ex⟩:=Tx hgx (P8 h x);obtain⟨_,ix⟩:=hid x jx qx hx hqx ex;rw[ix,it']at c3;have:jx=j':=by omega
  subst this;have hrp:EK m (Al m L x)=EK m (Al m L u)∨EK m (Al m L x)=EK m (Al m L t):=by
   rw[ex,e',e];unfold EK;rw[iN (by omega),iN (by omega),iN (by omega)]
   omega
  rcases hrp with c|c
  ·rcases Vw c with c|c
   ·exact Ra h hw hx hu c
   ·exact absurd c (OO h)
  ·rcases Vw c with c|c
   ·exact absurd (Ra h hw hx ht c) c1
   ·exact absurd c (OO h)
end
end Go.Ab
end
section
namespace Go.Ab
open Go.Plain
theorem xb(q q':Nat)(hq:q<4)(EI:q'<4)(hp:q' % 2≠q % 2)(drawn low b:Bool) :
 (if low then ((if b then q else (q+2) % 4)+3) % 4 else ((if b then q else (q+2) % 4)+1) % 4) =
   (if (b == (((drawn == (q % 2 == 0)) != low) == (FA (if q % 2=0 then q else q') (if q % 2=0 then q' else q) drawn == 1)))then (q'+2) % 4 else q'):=by
 have h1:q=0∨q=1∨q=2∨q=3:=by omega
 have h2:q'=0∨q'=1∨q'=2∨q'=3:=by omega
 rcases h1 with rfl|rfl|rfl|rfl<;>rcases h2 with rfl|rfl|rfl|rfl<;>first|(exfalso; omega)|(cases drawn<;>cases low<;>cases b<;>rfl)
section
variable {m:Nat} {X:List Nd} {L:List (Nat×Nat)} (h:Gt m X L) (hw:EF m X L) {gs:List Nat} {F:Nat} (Bd:(Ar 0 gs).length=m) (Dd:gs.length=F+1)
include h hw Bd Dd
theorem uK:(at' (Y3 m (Ar 0 gs) X L) 0).k=1:=by
 have hm:=h.hm;rw[Ri h hw Bd (t:=0) (by omega)]
 have:Al m L 0=0:=rfl;omega
theorem aW:Y3 m (Ar 0 gs) X L≠[]:=fun e=>by
 have:=HA h hw Bd (gs:=gs);rw[e]at this;have:=h.hm;simp at *;omega
theorem qq:Wv (Y3 m (Ar 0 gs) X L):=wL (f:=F) (by omega) (Yb h hw Bd Dd) (uK h hw Bd Dd) (aW h hw Bd Dd)
theorem rA{t:Nat}(ht:t<m+2*X.length)(ha:Al m L t<2*m):R9 t (Z4 (Y3 m (Ar 0 gs) X L))=Al m L t / 2:=by
 have hok:=Yb h hw Bd Dd (F:=F);obtain⟨r1,r2,_⟩:=Co.Fa (f:=F) (by omega) hok
 have hlen:=HA h hw Bd (gs:=gs);have hk:(at' (Y3 m (Ar 0 gs) X L) t).k=1:=by rw[Ri h hw Bd ht,iP ha]
 have hp:AT (at' (Y3 m (Ar 0 gs) X L) t)=true:=by simp[AT,hk]
 have hm:=F7 (ls:=Y3 m (Ar 0 gs) X L) (i:=t) (by rw[hlen]; exact ht)
 rw[cS r2 r1 (by rw[hlen]; exact ht) hk,← pJ r2 r1 hm hp,Ov h hw Bd,TA (fun l hl=>by simp[AT,hl])]
 have hi:Al m L t / 2<(Ar 0 gs).length:=by omega
 have hat:((Ar 0 gs).map AG)[Al m L t / 2]? = some (at' (Y3 m (Ar 0 gs) X L) t):=by
  rw[QU h hw Bd ht];unfold Ez
  grind
 rw[uH (ZC gs 0) (fun a ha=>by obtain⟨q,_,rfl⟩:=mM.1 ha; rfl) hat]
 rfl
theorem yF{t:Nat}(ht:t<m+2*X.length)(b:Bool):DA m (m+2*X.length) L (arr (m+2*X.length) t b)<2*m+4*X.length∧Bk L (DA m (m+2*X.length) L (arr (m+2*X.length) t b))=if b then Al m L t else CH m (Al m L t):=by
 have e1:=bT ht (!b);rw[Bool.not_not]at e1;have hlt:Q5 (m+2*X.length) t (!b)<2*(m+2*X.length):=OD ht;have e2:=yP h hw hlt;rw[e1,Xe ht]at e2;have hlt2:(if (!b)=true then CH m (Al m L t)else Al m L t)<2*m+4*X.length:=by
  split
  ·exact(G9 (P8 h t)).1
  ·exact P8 h t
 obtain⟨q1,q2,_⟩:=h.pt hlt2
 grind
theorem pS{d:Nat}(hd:d<2*(m+2*X.length)+2*m):Eb m X L (DA m (m+2*X.length) L d)=DA m (m+2*X.length) L (U2 (Y3 m (Ar 0 gs) X L) (Z4 (Y3 m (Ar 0 gs) X L)) d):=by
 have hlen:=HA h hw Bd (gs:=gs);have hpas:=nR h hw Bd;have hm:=h.hm;have GZ:∀ z,2*(m+2*X.length)≤z→DA m (m+2*X.length) L z=z:=fun z hz=>by unfold DA; rw[iN (by omega)]
 have hpx:∀ p,p<m → ∃ v,v<m+2*X.length∧(Z4 (Y3 m (Ar 0 gs) X L)).getD p 0=v∧Al m L v / 2=p∧Al m L v<2*m∧W4 (Y3 m (Ar 0 gs) X L) v=(Al m L v % 2 == 0):=fun p hp=>by
  obtain⟨v,v1,v2,v3,v4⟩:=Wo (ls:=Y3 m (Ar 0 gs) X L) (p:=p) (by rw[hpas]; exact hp)
  rw[hlen]at v1;have ha:Al m L v<2*m:=by
   have:=Ri h hw Bd (gs:=gs) v1;rw[v2]at this;split at this
   ·assumption
   ·cases this
  rw[rA h hw Bd Dd v1 ha]at v4;have hdn:=lS h hw Bd (gs:=gs) v v1;unfold Eu at hdn
  grind
 by_cases hs:d<2*(m+2*X.length)
 ·obtain⟨t,b,ht,rfl⟩:=MP hs;obtain⟨p1,p2⟩:=yF h hw Bd Dd ht b;have ta:=Sv (ls:=Y3 m (Ar 0 gs) X L) (v:=t) (by rw[hlen]; exact ht) b
  rw[hlen,hpas,Ri h hw Bd ht]at ta;rw[ta];by_cases hc:Al m L t<2*m
  ·rw[iP hc,iN (by decide),rA h hw Bd Dd ht hc]
   have hdn:=lS h hw Bd (gs:=gs) t ht;unfold Eu at hdn;rw[iP hc]at hdn;have hi:Al m L t / 2<m:=by omega
   have hmod:=Nat.mod_lt (Al m L t / 2+m - 1) hm;rw[OA hc]at p2;rcases Nat.mod_two_eq_zero_or_one (Al m L t)with e|e
   ·have hd1:W4 (Y3 m (Ar 0 gs) X L) t=true:=by
     grind
    rw[hd1];cases b with
    | true=>
     simp only[if_true]at p2 ⊢;rw[Wb (i:=Al m L t / 2) p1 (by rw[p2]; omega) hi,GZ _ (by omega)]
     omega
    | false=>
     simp only[bF,if_false]at p2 ⊢;rw[iN (by decide),Ww (i:=Al m L t / 2) p1 (by rw[p2]; unfold Dc; rw[iP e]; omega) hi,GZ _ (by omega)]
     omega
   ·have hd1:W4 (Y3 m (Ar 0 gs) X L) t=false:=by
     grind
    rw[hd1];cases b with
    | true=>
     simp only[if_true]at p2 ⊢;rw[iN (by decide),Ww (i:=Al m L t / 2) p1 (by rw[p2]; omega) hi,GZ _ (by omega)]
     omega
    | false=>
     simp only[bF,if_false]at p2 ⊢;rw[iP trivial,Wb (i:=Al m L t / 2) p1 (by rw[p2]; unfold Dc; grind) hi,GZ _ (by omega)]
     omega
  ·rw[iN hc,iP rfl];obtain⟨j,q,hj,hq,e⟩:=Tx hc (P8 h t);obtain⟨u,q',hu,EI,hpar,e',ho⟩:=Z9p h hw Bd (gs:=gs) ht hj hq e;rw[ho,Xe hu,e'];have en:=MX h hw ht hq e;have en':=MX h hw hu EI e';have hq2:=Nat.mod_lt (q+2) (show 0<4 by omega)
   have hz:(if b then q else (q+2) % 4)<4:=by split<;>assumption
   have p3:Bk L (DA m (m+2*X.length) L (arr (m+2*X.length) t b))=2*m+4*j+(if b then q else (q+2) % 4):=by
    rw[p2,e,Oh hq];cases b<;>rfl
   rw[sR p1 hz p3,Oh EI];have hat:=QU h hw Bd (gs:=gs) ht;rw[e]at hat;unfold Ez at hat;rw[iN (by omega),show (2*m+4*j+q - 2*m) / 4=j by omega,show (2*m+4*j+q - 2*m) % 4=q by omega]at hat
   rw[hat];simp only;have hsg:FA (Gf m (CR m X L) j) (Gg m (CR m X L) j) (X.getD j (false,false)).1=FA (if q % 2=0 then q else q') (if q % 2=0 then q' else q) (X.getD j (false,false)).1:=by
    rcases Nat.mod_two_eq_zero_or_one q with c|c
    ·rw[iP c,iP c,en.1 c,en'.2 (by omega)]
    ·rw[iN (by omega),iN (by omega),en.2 c,en'.1 (by omega)]
   rw[hsg];have key:=xb q q' hq EI hpar (X.getD j (false,false)).1 (X.getD j (false,false)).2 b
   grind
 ·rw[GZ d (by omega)]
  obtain⟨p,hp⟩:∃ p,(d - 2*(m+2*X.length)) / 2=p:=⟨_,rfl⟩
  have hpm:p<m:=by omega
  have tr:=WL (ls:=Y3 m (Ar 0 gs) X L) (p:=p);have tl:=Vy (ls:=Y3 m (Ar 0 gs) X L) (p:=p);rw[hlen,hpas]at tr;rw[hlen]at tl;rcases Nat.mod_two_eq_zero_or_one d with e0|e0
  ·have ex:d=2*(m+2*X.length)+2*p:=by omega
   subst ex;obtain⟨v,v1,v2,v3,v4,v5⟩:=hpx _ (Nat.mod_lt (p+1) hm);rw[tr,v2,v5,Xe v1,show 2*(m+2*X.length)+2*p=2*m+4*X.length+2*p by omega,dA,OA v4]
   rcases Nat.mod_two_eq_zero_or_one (Al m L v)with e|e
   ·grind
   ·rw[e];simp;unfold Dc
    grind
  ·have ex:d=2*(m+2*X.length)+2*p+1:=by omega
   subst ex;obtain⟨v,v1,v2,v3,v4,v5⟩:=hpx p hpm;rw[tl,v2,v5,Xe v1,show 2*(m+2*X.length)+2*p+1=2*m+4*X.length+2*p+1 by omega,Zp,OA v4]
   rcases Nat.mod_two_eq_zero_or_one (Al m L v)with e|e
   ·rw[e];simp;unfold Dc;rw[iP e];omega
   grind
theorem wg(iZ:Cn (Eb m X L) (2*m+4*X.length+2*m)→H5 (Eb m X L) (2*m+4*X.length+2*m)=m+X.length+2)(hF:F≤40)(hK:m+2*X.length≤400)(hn:X.length≤100):Co F (Y3 m (Ar 0 gs) X L):=by
 have hlen:=HA h hw Bd (gs:=gs);have hpas:=nR h hw Bd;have hvis:=lW h hw Bd;have hm:=h.hm;refine⟨by rw[hlen]; exact hK,by rw[hvis]; omega,by omega,by omega,uK h hw Bd Dd,by rw[hpas]; exact h.ev,Yb h hw Bd Dd,?_⟩
 have hP:=rS (qq h hw Bd Dd);rw[hlen,hpas]at hP ⊢;rw[hvis,Nat.mul_div_cancel_left _ (by omega)]
 have hlt:∀ d,d<2*(m+2*X.length)+2*m→DA m (m+2*X.length) L d<2*(m+2*X.length)+2*m:=fun d hd=>by
  by_cases hs:d<2*(m+2*X.length)
  ·have:=bE h hs;omega
  ·unfold DA
   grind
 have hinj:∀ d d',d<2*(m+2*X.length)+2*m→d'<2*(m+2*X.length)+2*m→DA m (m+2*X.length) L d=DA m (m+2*X.length) L d'→d=d':=fun d d' hd hd' e=>by
  have ax:∀ z,¬z<2*(m+2*X.length)→DA m (m+2*X.length) L z=z:=fun z hz=>by unfold DA; rw[iN hz]
  by_cases hs:d<2*(m+2*X.length)
  ·by_cases hs':d'<2*(m+2*X.length)
   ·exact Z9g h hw hs hs' e
   ·have:=bE h hs
    grind
  ·by_cases hs':d'<2*(m+2*X.length)
   ·have:=bE h hs';rw[ax d hs]at e;omega
   grind
 have hsur:∀ e,e<2*(m+2*X.length)+2*m → ∃ d,d<2*(m+2*X.length)+2*m∧DA m (m+2*X.length) L d=e:=fun e he=>by
  have hp:((List.range (2*(m+2*X.length)+2*m)).map (DA m (m+2*X.length) L)).Perm (List.range (2*(m+2*X.length)+2*m)):=by
   refine vR (OT (fun a b ha hb=>hinj a b (mR.1 ha) (mR.1 hb)) List.nodup_range) List.nodup_range (fun x hx=>?_) (by simp)
   obtain⟨d,hd,rfl⟩:=mM.1 hx;exact mR.2 (hlt d (mR.1 hd))
  obtain⟨d,hd,e2⟩:=mM.1 (hp.mem_iff.2 (mR.2 he))
  grind
 obtain⟨ψ,hψ⟩:∃ ψ:Nat→Nat,∀ e,e<2*(m+2*X.length)+2*m→ψ e<2*(m+2*X.length)+2*m∧DA m (m+2*X.length) L (ψ e)=e:=by
  refine⟨fun e=>if he:e<2*(m+2*X.length)+2*m then Classical.choose (hsur e he)else 0,fun e he=>?_⟩
  grind
 have hcj:=tK (T':=Eb m X L) (φ:=DA m (m+2*X.length) L) (ψ:=ψ) hP hlt (fun e he=>(hψ e he).1) (fun d hd=>hinj _ _ ((hψ _ (hlt d hd)).1) hd (hψ _ (hlt d hd)).2) (fun e he=>(hψ e he).2) fun d hd=>pS h hw Bd Dd hd
 rw[← hcj];have hPE:Cn (Eb m X L) (2*(m+2*X.length)+2*m):=by
  have e:∀ y,y<2*(m+2*X.length)+2*m→Eb m X L y=DA m (m+2*X.length) L (U2 (Y3 m (Ar 0 gs) X L) (Z4 (Y3 m (Ar 0 gs) X L)) (ψ y)):=fun y hy=>by
   have:=pS h hw Bd Dd (hψ y hy).1;rwa[(hψ y hy).2]at this
  refine⟨fun y hy=>by rw[e y hy]; exact hlt _ (hP.lt _ (hψ y hy).1),fun y y' hy hy' he=>?_⟩
  rw[e y hy,e y' hy']at he;have h1:=hinj _ _ (hP.lt _ (hψ y hy).1) (hP.lt _ (hψ y' hy').1) he;have h2:=hP.inj _ _ (hψ y hy).1 (hψ y' hy').1 h1
  grind
 have e0:2*(m+2*X.length)+2*m=2*m+4*X.length+2*m:=by omega
 rw[e0]at hPE ⊢;exact iZ hPE
end
end Go.Ab
end
section
namespace Go.Ab
open Go Go.AE Go.Proofs
open Go.Plain
def N1(J:List Int)(a b:Nat):List Int:=(J.set a (b:Int)).set b (a:Int)
def Es(P:Aa)(J:Aa)(X:Aa):Ag:=.cells 3 [[P,J,X]]
def Cb(x:Int×Nd):List Aa:=[.int .i64 x.1,.int .i64 (x.1+1),.int .i64 (x.1+2),.int .i64 (x.1+3),.bool x.2.1,.bool x.2.2]
theorem OJ:∀ (l:List (Int×Nd)),V3 (l.map Cb)=true
 | []=>rfl
 | r :: l=>by
  have:=OJ l;simp only[List.map_cons,V3,Cb,W9,Aa.closed,Bool.and_true,Bool.true_and]at this ⊢;exact this
theorem Kn{l:List Int}{i:Nat}(h:i<l.length):(Z1 l)[i]? = some [.int .i64 (l.getD i 0)]:=by
 unfold Z1;rw[gM,gE h,List.getD,gE h];rfl
theorem A8(l:List Int):(Z1 l).length=l.length:=by unfold Z1; rw[lM]
set_option maxRecDepth 100000 in
set_option maxHeartbeats 4000000 in
theorem Z6o(P:List (List Aa))(hP:V3 P=true)(J:List Int)(XR:List (Int×Nd))(a b:Nat)(ha:a<J.length)(hb:b<J.length) :
 Cc Tryz.prog 53 [.ptr 1 0 0,.int .i64 a,.int .i64 b] ⟨(1,Es (Bx P) (.sl 2 0 J.length) (AH 3 (XR.map Cb))) :: (2,.cells 1 (Z1 J)) :: AF 3 6 (XR.map Cb) [],4⟩ fun r m=>
  r=.tuple []∧m=⟨(1,Es (Bx P) (.sl 2 0 J.length) (AH 3 (XR.map Cb))) :: (2,.cells 1 (Z1 (N1 J a b))) :: AF 3 6 (XR.map Cb) [],4⟩:=by
 refine It hm Tryz.func53 Va rfl rfl fun K hK=>?_
 have hcI:=RO P;have hoI:=SF P;have hrI:∀ q,(Bx P).AA q=Bx P:=fun q=>Aa.Bn q _ (LO hP)
 have ET:∀ q,Z3 q (XR.map Cb)=XR.map Cb:=fun q=>X7 q _ (OJ _)
 have hJl:=A8 J;have hga:=Kn ha;obtain⟨_,hga2⟩:=Y6 hga;have hJ1:(J.set a (b:Int)).length=J.length:=List.length_set;have Oa:=Kn (l:=J.set a (b:Int)) (i:=b) (by rw[hJ1]; exact hb)
 obtain⟨_,hgb2⟩:=Y6 Oa;have hs1:=XC J a (b:Int);have hs2:=XC (J.set a (b:Int)) b (a:Int);have hJ1l:=A8 (J.set a (b:Int));have hrJ:∀ q,Z3 q (Z1 (N1 J a b))=Z1 (N1 J a b):=fun q=>X7 q _ (N9 _)
 unfold N1 at *;generalize Bx P=PV at *;generalize (J.set a (b:Int)).getD b 0=y at *;generalize J.getD a 0=x at *;generalize XR.map Cb=XX at *;generalize hR3:Z1 ((J.set a (b:Int)).set b (a:Int))=R3 at *;generalize hR2:Z1 (J.set a (b:Int))=R2 at *;generalize Z1 J=R1 at *;unfold Es at *;simp[hcI,hoI,ha,hb,hJl,hga,hga2,hs1,hJ1l,hJ1,Oa,hgb2,hs2];exact Z6 hK [(1,1),(2,2),(3,3)] (by simp +contextual [hrI,ET,hrJ])
end Go.Ab
end
section
namespace Go.AE
open Go.RowKit
section
variable {k base n x:Nat} {rest:List (Nat×Ag)}
def H4(base n x N:Nat)(l:List (Nat×Nat))(nx b:Nat):Nat:=if b=base+x∧x<n then N else if b<base then W5 l 0 b else if b<base+n then b else b - (base+n)+nx
def GN(n0 base lo nx N:Nat):List (Nat×Nat)→Prop
 | []=>True
 | (c,o) :: r=>(n0≤c∧c<base∧lo≤o∧o<nx∧o≠N ∧ ∀ p,p∈r→p.2≠o)∧GN n0 base lo nx N r
theorem SK{n0 base lo nx N:Nat}:∀ {l:List (Nat×Nat)},GN n0 base lo nx N l → ∀ b,W5 l 0 b=b∨(n0≤b∧lo≤W5 l 0 b∧W5 l 0 b<nx∧W5 l 0 b≠N∧(b,W5 l 0 b)∈l)
 | [],_,b=>.inl rfl
 | (c,o) :: r,h,b=>by
  simp only[W5];split
  ·rename_i e;subst e;obtain⟨⟨h1,h2,h3,h4,h5,_⟩,_⟩:=h;exact .inr ⟨h1,h3,h4,h5,List.mem_cons_self ..⟩
  ·rcases SK h.2 b with e|⟨h1,h2,h3,h4,h5⟩
   ·exact .inl e
   ·exact .inr ⟨h1,h2,h3,h4,List.mem_cons_of_mem _ h5⟩
theorem uJ{n0 base lo nx N:Nat}:∀ {l:List (Nat×Nat)},GN n0 base lo nx N l → ∀ b d,b<lo→d<lo→W5 l 0 b=W5 l 0 d→b=d
 | [],_,b,d,_,_,e=>e
 | (c,o) :: r,h,b,d,hb,hd,e=>by
  obtain⟨⟨h1,h2,h3,h4,h5,h6⟩,h7⟩:=h;have key:∀ z,z<lo→W5 r 0 z≠o:=fun z hz e=>by
   rcases SK h7 z with h8|⟨_,_,_,_,h8⟩
   ·omega
   ·exact h6 _ h8 e
  simp only[W5]at e;split at e
  ·split at e
   ·rename_i e1 e2; rw[e1,e2]
   ·exact absurd e.symm (key d hd)
  ·split at e
   ·exact absurd e (key b hb)
   ·exact uJ h7 b d hb hd e
theorem Dk.Dq{nt n0 N:Nat}{l:List (Nat×Nat)}{e0 e:Env}{m:Ac}{F':Nat→List (List Aa)}(hn0:n0≤base)(BZ:∀ c y,Y2 rest c=some y→c<base)(hl:GN n0 base (base+n) m.next N l)(xM:x<n→base+n≤N∧N<m.next)
 (he:BY (H4 base n x N l m.next) e0 e) (hg1:BB (H4 base n x N l m.next) rest m) (hg2:∀ y,y<n→y≠x→F' y≠[]→m.get (base+y)=some (.cells k (F' y)))
 (hg3:x<n→m.get N=some (.cells k (F' x))) (Cm:∀ y,y<n→V3 (F' y)=true):Dk nt n0 e0 ⟨M6 k base F' n rest,base+n⟩ e m:=by
 have hren:∀ y,y<n→(Ag.cells k (F' y)).AA (H4 base n x N l m.next)=.cells k (F' y):=fun y hy=>by
  rw[Ag.AA,X7 _ _ (Cm y hy)]
 refine Dk.kH (q:=H4 base n x N l m.next) (by show n0≤base+n; omega) (fun b hb=>?_) (fun b hb=>?_) he (fun b y hy=>?_) (fun b d y z hy hz hq=>?_)
 ·unfold H4;rw[iN (by omega),iP (by omega)]
  rcases SK hl b with e|⟨e,_⟩
  ·exact e
  ·omega
 ·show b<base+n;unfold H4 at hb;split at hb
  ·omega
  ·split at hb
   ·omega
   ·split at hb<;>omega
 ·rcases aB n BZ hy with⟨hb,hy⟩|⟨i,hi,rfl,hne,rfl⟩
  ·exact hg1.get b y hy
  ·rw[hren i hi];by_cases hix:i=x
   ·subst hix;refine⟨_,?_,.inl rfl⟩;show m.get (H4 base n i N l m.next (base+i))=_;unfold H4;rw[iP ⟨rfl,hi⟩];exact hg3 hi
   ·refine⟨_,?_,.inl rfl⟩;show m.get (H4 base n x N l m.next (base+i))=_;unfold H4;rw[iN (by omega),iN (by omega),iP (by omega)]
    exact hg2 i hi hix hne
 ·have hb:b<base+n:=by
   rcases aB n BZ hy with⟨hb,_⟩|⟨i,hi,rfl,_,_⟩<;>omega
  have hd:d<base+n:=by
   rcases aB n BZ hz with⟨hb,_⟩|⟨i,hi,rfl,_,_⟩<;>omega
  have hLb:=SK hl b;have hLd:=SK hl d;have hin:=uJ hl b d (by omega) (by omega)
  unfold H4 at hq;generalize W5 l 0 b=ub at *;generalize W5 l 0 d=ud at *;have hLb:ub=b∨(base+n≤ub∧ub≠N):=hLb.imp id fun h=>⟨h.2.1,h.2.2.2.1⟩
  have hLd:ud=d∨(base+n≤ud∧ud≠N):=hLd.imp id fun h=>⟨h.2.1,h.2.2.2.1⟩
  by_cases c1:b=base+x∧x<n
  ·rw[iP c1]at hq;by_cases c2:d=base+x∧x<n
   ·omega
   ·rw[iN c2]at hq;have:=xM c1.2;split at hq
    ·omega
    ·first|omega|(split at hq<;>omega)
  ·rw[iN c1]at hq;by_cases c2:d=base+x∧x<n
   ·rw[iP c2]at hq;have:=xM c2.2;split at hq
    ·omega
    ·first|omega|(split at hq<;>omega)
   ·rw[iN c2]at hq;by_cases c3:b<base
    ·rw[iP c3]at hq;by_cases c4:d<base
     ·rw[iP c4]at hq;exact hin hq
     ·rw[iN c4,iP hd]at hq;omega
    ·rw[iN c3,iP hb]at hq;by_cases c4:d<base
     ·rw[iP c4]at hq;omega
     ·rw[iN c4,iP hd]at hq;exact hq
theorem S5{N:Nat}{l:List (Nat×Nat)}{nx b:Nat}(h:b<base):H4 base n x N l nx b=W5 l 0 b:=by unfold H4; rw[iN (by omega),iP h]
theorem Z42{N:Nat}{l:List (Nat×Nat)}{nx:Nat}(h:x<n):H4 base n x N l nx (base+x)=N:=by unfold H4; rw[iP ⟨rfl,h⟩]
theorem ME{N:Nat}{l:List (Nat×Nat)}{nx y:Nat}(h:y<n)(hy:y≠x):H4 base n x N l nx (base+y)=base+y:=by unfold H4; rw[iN (by omega),iN (by omega),iP (by omega)]
theorem tV{F:Nat→List (List Aa)}(q:Nat→Nat):Z3 q (M1 base n F)=(List.range n).map fun x=>[AH (q (base+x)) (F x)]:=by
 unfold M1;rw[HE,List.map_map];refine List.map_congr_left fun x _=>?_
 show U3 q [AH (base+x) (F x)]=_;simp only[U3,List.map_cons,List.map_nil,WT]
theorem Hv{N:Nat}{l:List (Nat×Nat)}{nx:Nat}{F:Nat→List (List Aa)}:Z3 (H4 base n n N l nx) (M1 base n F)=M1 base n F:=by
 rw[tV];unfold M1;refine List.map_congr_left fun x hx=>?_
 have:=mR.1 hx;rw[ME (by omega) (by omega)]
theorem VY{N:Nat}{l:List (Nat×Nat)}{nx:Nat}{F:Nat→List (List Aa)}{R:List (List Aa)}(hx:x<n):Z3 (H4 base n x N l nx) (M1 base n (Fe F x R))=(M1 base n F).set x [AH N R]:=by
 rw[tV];unfold M1;refine List.ext_getElem (by simp) fun i h1 h2=>?_
 simp only[lM,List.length_range]at h1;rw[List.getElem_set];simp only[List.getElem_map,List.getElem_range];by_cases hi:i=x
 ·subst hi;rw[iP rfl,Tt,Z42 hx]
 ·rw[iN (fun e=>hi e.symm),SL hi,ME h1 hi]
theorem aN{c:Nat}{F:Nat→List (List Aa)}(h:c<base):Y2 (M6 k base F n rest) c=Y2 rest c:=Tv n (.inl h)
theorem YA{c:Nat}{F:Nat→List (List Aa)}(h:c<base):P0 (M6 k base F n rest) c=M6 k base F n (P0 rest c):=qY n (.inl h)
theorem RP{B c:Nat}{y:Ag}:∀ {l:List (Nat×Ag)},(∀ p,p∈l→p.1<B)→Y2 l c=some y→c<B
 | [],_,h=>by simp[Y2]at h
 | (d,x) :: r,hl,h=>by
  simp only[Y2]at h;split at h
  ·rename_i e;have:=hl (d,x) (List.mem_cons_self ..);rw[e]; exact this
  ·exact RP (fun p hp=>hl p (List.mem_cons_of_mem _ hp)) h
theorem RY{b k:Nat}{rows:List (List Aa)}{rest:List (Nat×Ag)}{p:Nat×Ag}(h:p∈AF b k rows rest):p.1=b∨p∈rest:=by
 unfold AF at h;split at h
 ·exact .inr h
 ·rcases mC.1 h with rfl|h
  ·exact .inl rfl
  ·exact .inr h
end
end Go.AE
end
