/- Part 30 of the proof: Ro, Rp, Rq, Pk. -/
import Derived.Test.YtggclbeocekgkaaGreatDoorP26
import Derived.Test.YtggclbeocekgkaaGreatDoorP28
import Derived.Test.YtggclbeocekgkaaGreatDoorP29
set_option linter.all false
section
namespace Go.Ac
open Go Go.AE Go.Proofs
open Go.Plain
theorem xq(l:List (Int×Int))(i:Nat)(a b:Int):(V2 l).set i [.int .i64 a,.int .i64 b]=V2 (l.set i (a,b)):=by rw[V2,V2,List.map_set]
theorem ug(l:List Int)(i:Nat)(a:Int):(Z1 l).set i [.int .i64 a]=Z1 (l.set i a):=by rw[Z1,Z1,List.map_set]
theorem cM(P:List (Int×Int))(hl:P.length≤1000)(h0:P≠[]) :
 AV Tryz.prog 219 [.sl 1 0 P.length] ⟨[(1,.cells 2 (V2 P))],2⟩ fun v m=>∃ Q:List (Int×Int),Q.length=P.length∧v=.tuple []∧m=⟨[(1,.cells 2 (V2 Q))],2⟩:=by
 refine W9 hm Tryz.func219 nP rfl rfl fun K hK=>?_
 have hw1:=Y7 ((P.length:Int) - 1);obtain⟨n,hn⟩:∃ n,P.length=n:=⟨_,rfl⟩
 rw[hn]at hw1 hK hl ⊢;simp[hw1];refine W5 (α:=Nat×List (Int×Int)) (fun a=>[(3,.int .i64 ((n:Int) - 1 - (a.1:Nat))),(2,.int .i64 a.1),(0,.sl 1 0 n)]) (fun a=>⟨[(1,.cells 2 (V2 a.2))],2⟩) (fun a=>n - a.1) (fun a=>a.1≤n∧a.2.length=n) (0,P) [] (by simp +contextual) ⟨by simp,hn⟩ ?_
 rintro⟨i,Q⟩ ⟨hi,hQ⟩ N hN;simp only at hi hQ hN ⊢;by_cases hlt:(i:Int)<(n:Int) - 1 - i
 ·have hj:((n:Int) - 1 - i).toNat=n - 1 - i:=by omega
  have hj0:(i:Int)≤(n:Int) - 1:=by omega
  obtain⟨j,hj2⟩:∃ j,n - 1 - i=j:=⟨_,rfl⟩
  rw[hj2]at hj;obtain⟨p,hp⟩:∃ p,Q[i]? = some p:=⟨_,gE (by omega)⟩
  obtain⟨q,hq⟩:∃ q,Q[j]? = some q:=⟨_,gE (by omega)⟩
  have hpg:=bE hp;have hqg:=bE hq;obtain⟨hpl,hpg2⟩:=Y8 hpg;obtain⟨hql,hqg2⟩:=Y8 hqg;have hil:i<n:=by omega
  have hjl:j<n:=by omega
  have hij:¬i=j:=by omega
  have hw2:=Y7 ((i:Int)+1);have hw3:=M2 ((n:Int) - 1 - i - 1) ((n:Int) - 1 - (i+1));obtain⟨p1,p2⟩:=p;obtain⟨q1,q2⟩:=q;have hs:(V2 (Q.set i (q1,q2)))[j]? = some [.int .i64 q1,.int .i64 q2]:=bE (p:=(q1,q2)) (by rw[List.getElem?_set_ne hij]; exact hq)
  simp[hlt,hj,hj0,hil,hjl,hpg,hpg2,hqg,hqg2,hw2,hw3,xq,hs];exact hN (i+1,(Q.set i (q1,q2)).set j (p1,p2)) [] _ _ (by simp; omega) ⟨by simp; omega,by simp[hQ]⟩ (by simp)
 ·simp[hlt];exact Z4 (hK _ _ ⟨Q,hQ,rfl,rfl⟩) [] (by simp)
theorem cO(P:List Int)(hl:P.length≤1000) :
 AV Tryz.prog 145 [AQ 1 (Z1 P)] ⟨AM 1 1 (Z1 P) [],2⟩ fun v m=>∃ Q:List Int,Q.length=P.length∧v=.tuple []∧m=⟨AM 1 1 (Z1 Q) [],2⟩:=by
 refine W9 hm Tryz.func145 xR rfl rfl fun K hK=>?_
 have hw1:=Y7 ((P.length:Int) - 1);by_cases h0:P=[]
 ·subst h0;have hw2:IntKind.i64.wrap (-1) = -1:=by decide
  simp;refine W5 (α:=Unit) (fun _=>[(3,.int .i64 (-1)),(2,.int .i64 0)]) (fun _=>⟨[],2⟩) (fun _=>0) (fun _=>True) () [] (by simp[hw2]) trivial ?_
  intro _ _ N hN;simp;exact Z4 (hK _ _ ⟨[],rfl,rfl,rfl⟩) [] (by simp)
 rw[N6 (by simpa using h0),O4]
 obtain⟨n,hn⟩:∃ n,P.length=n:=⟨_,rfl⟩
 rw[hn]at hw1 hK hl ⊢;simp[hw1];refine W5 (α:=Nat×List Int) (fun a=>[(3,.int .i64 ((n:Int) - 1 - (a.1:Nat))),(2,.int .i64 a.1),(0,.sl 1 0 n)]) (fun a=>⟨AM 1 1 (Z1 a.2) [],2⟩) (fun a=>n - a.1) (fun a=>a.1≤n∧a.2.length=n) (0,P) [] (by simp +contextual) ⟨by simp,hn⟩ ?_
 rintro⟨i,Q⟩ ⟨hi,hQ⟩ N hN;simp only at hi hQ hN ⊢;by_cases hlt:(i:Int)<(n:Int) - 1 - i
 ·have hj:((n:Int) - 1 - i).toNat=n - 1 - i:=by omega
  have hj0:(i:Int)≤(n:Int) - 1:=by omega
  obtain⟨j,hj2⟩:∃ j,n - 1 - i=j:=⟨_,rfl⟩
  rw[hj2]at hj;obtain⟨p,hp⟩:∃ p,Q[i]? = some p:=⟨_,gE (by omega)⟩
  obtain⟨q,hq⟩:∃ q,Q[j]? = some q:=⟨_,gE (by omega)⟩
  have hpg:=Yv hp;have hqg:=Yv hq;obtain⟨hpl,hpg2⟩:=Y8 hpg;obtain⟨hql,hqg2⟩:=Y8 hqg;have hil:i<n:=by omega
  have hjl:j<n:=by omega
  have hij:¬i=j:=by omega
  have hw2:=Y7 ((i:Int)+1);have hw3:=M2 ((n:Int) - 1 - i - 1) ((n:Int) - 1 - (i+1));have hs:(Z1 (Q.set i q))[j]? = some [.int .i64 q]:=Yv (by rw[List.getElem?_set_ne hij]; exact hq)
  have hQn:Q≠[]:=by intro e; subst e; simp at hQ; omega
  simp[hlt,hj,hj0,hil,hjl,hpg,hqg,hw2,hw3,ug,hs,M4,hQn];exact hN (i+1,(Q.set i q).set j p) [] _ _ (by simp; omega) ⟨by simp; omega,by simp[hQ]⟩ (by simp[M4,hQn])
 ·simp[hlt];exact Z4 (hK _ _ ⟨Q,hQ,rfl,rfl⟩) [] (by simp +contextual)
set_option maxHeartbeats 2000000 in
theorem IM(g l g2 l2:Int)(P:List (Int×Int))(G:List Int)(hg:0≤g)(hg2:g2≤45)(hP:P.length≤1000)(hG:G.length≤1000) :
 AV Tryz.prog 277 [.agg [.int .i64 g,.int .i64 l],.agg [.int .i64 g2,.int .i64 l2],AQ 1 (V2 P),AQ 2 (Z1 G)] ⟨AM 1 2 (V2 P) (AM 2 1 (Z1 G) []),3⟩ fun v m=>∃ (P':List (Int×Int)) (G':List Int),P'≠[]∧P'.length≤P.length+47∧G'.length≤G.length+46 ∧
  v=.tuple [AQ 3 (V2 P'),AQ 4 (Z1 G')]∧m=⟨AM 3 2 (V2 P') (AM 4 1 (Z1 G') []),5⟩:=by
 refine W9 hm Tryz.func277 wE rfl rfl fun K hK=>?_
 simp;refine W5 (α:=Int×Int×List (Int×Int)×List Int) (fun a=>[(5,.ptr 4 0 0),(4,.ptr 3 0 0),(3,AQ 6 (Z1 a.2.2.2)),(2,AQ 5 (V2 a.2.2.1))])
  (fun a=>⟨(3,.cells 2 [[.int .i64 a.1,.int .i64 a.2.1]]) :: (4,.cells 2 [[.int .i64 g2,.int .i64 l2]]) :: AM 5 2 (V2 a.2.2.1) (AM 6 1 (Z1 a.2.2.2) []),7⟩) (fun a=>(46 - a.1).toNat)
  (fun a=>0≤a.1∧a.2.2.1.length≤P.length+(min a.1 46)∧a.2.2.2.length≤G.length+(min a.1 46)) (g,l,P,G) [(5,1),(6,2)] (by simp +contextual) (by simp; omega) ?_
 rintro⟨x,y,P1,G1⟩ ⟨hx,hP1,hG1⟩ N hN;simp only at hx hP1 hG1 hN ⊢;have DN:P1.length≤1048575:=by omega
 have Ci:G1.length≤1048575:=by omega
 by_cases hlt:x<g2
 ·have hw:=Y7 (x+1);simp[hlt,DN,Ci,hw];exact hN (x+1,0,P1++[(x,y)],G1++[x+1]) [(5,15),(6,26)] _ _ (by simp; omega) ⟨by simp; omega,by simp; omega,by simp; omega⟩ (by simp +contextual [qA,yD])
 ·simp[hlt,DN];exact Z4 (hK _ _ ⟨P1++[(g2,l2)],G1,by simp,by simp; omega,by omega,rfl,rfl⟩) [(3,15),(4,6)] (by simp +contextual [qA,yD])
set_option maxRecDepth 100000 in
set_option maxHeartbeats 4000000 in
theorem cK(F:Nat)(ls:List Lt)(E:List Db)(j:Nat)(h:ls.length≤1000)(hF:F≤40)(Gi:∀ v,v∈Z2 ls→v<ls.length∧0≤(at' ls v).g∧(at' ls v).g≤40)(hj:j<(Z2 ls).length) :
 AV Tryz.prog 218 [.ptr 1 0 0,.int .i64 j] (dF F ls (ls.map Ab) E) fun v m=>∃ P G,P≠[]∧P.length≤100∧G.length≤100∧v=.tuple [AQ 7 (V2 P),AQ 8 (Z1 G)]∧m=⟨(dF F ls (ls.map Ab) E).bl++AM 7 2 (V2 P) (AM 8 1 (Z1 G) []),9⟩:=by
 refine W9 hm Tryz.func218 rO rfl rfl fun K hK=>?_
 have hR:=E3 ls;unfold dF dM GR at *;have Ak:∀ q,Z3 q (ls.map Ab)=ls.map Ab:=fun q=>Y1 q _ (X5 ls)
 have hml:(Z2 ls).length≤ls.length:=by rw[O5]; exact B3
 have hA:∀ i,i<(Z2 ls).length → ∃ v:Nat,(Y3 (Z2 ls))[i]? = some [.int .i64 (v:Int)]∧v<ls.length∧0≤(at' ls v).g∧(at' ls v).g≤40:=fun i hi=>⟨(Z2 ls)[i],Jm (gE hi),Gi _ (List.getElem_mem hi)⟩
 have hAl:(Y3 (Z2 ls)).length=(Z2 ls).length:=C9 _;generalize ls.map Ab=rows at *;generalize hBe:Bf (W4 ls.length ls.length (U2 ls) false)=B at *;generalize hCe:Y3 (W4 ls.length ls.length (R6 ls) 0)=C at *;generalize hAe:Y3 (Z2 ls)=A at *;have hrA:∀ q,Z3 q A=A:=fun q=>by rw[← hAe]; exact Z7 q _
 have hrB:∀ q,Z3 q B=B:=fun q=>by rw[← hBe]; exact X4 q _
 have hrC:∀ q,Z3 q C=C:=fun q=>by rw[← hCe]; exact Z7 q _
 have hlen:=hR.len;clear hBe hCe hAe;generalize (Z2 ls).length=m at *;obtain⟨y,hy⟩:∃ y,(j+1) % m=y:=⟨_,rfl⟩
 have hym:y<m:=by rw[← hy]; exact Nat.mod_lt _ (by omega)
 have hy3:((j:Int)+1).tmod (m:Int)=(y:Int):=by rw[← hy]; rfl
 have hw1:=Y7 ((j:Int)+1);have hw2:=Y7 ((m:Int) - 1);have hm0:¬m=0:=by omega
 obtain⟨v,hAv,hv,hv1,hv2⟩:=hA j hj;obtain⟨u,hAu,hu,hu1,hu2⟩:=hA y hym;obtain⟨_,hAv2⟩:=Y8 hAv;obtain⟨_,hAu2⟩:=Y8 hAu;have hrv:=hR.row v hv;have hru:=hR.row u hu;obtain⟨_,hrv2⟩:=Y8 hrv;obtain⟨_,hru2⟩:=Y8 hru;clear hA;generalize at' ls v=a at *;generalize at' ls u=b at *;generalize FQ:IntKind.i64.wrap (b.r - 1)=br;by_cases hlt:(j:Int)<(m:Int) - 1
 ·simp[hlen,hAl,hw1,hw2,hm0,hy3,hj,hym,hAv,hAv2,hAu,hAu2,hv,hu,hrv,hrv2,hru,hru2,Ab,hlt,FQ];refine Z6 (IM a.g a.r b.g br [] [] hv1 (by omega) (by simp) (by simp)) [] (by simp) (by simp) (by simp) ?_
  rintro r sm ⟨P,G,hP,hPl,hGl,rfl,rfl⟩;simp;exact Z4 (hK _ _ ⟨P,G,hP,by simp at hPl; omega,by simp at hGl; omega,rfl,rfl⟩) [(7,76),(8,77)] (by simp +contextual [Ak,hrA,hrB,hrC,Y0,Z7])
 ·simp[hlen,hAl,hw1,hw2,hm0,hy3,hj,hym,hAv,hAv2,hAu,hAu2,hv,hu,hrv,hrv2,hru,hru2,Ab,hlt,FQ];by_cases hgF:a.g=(F:Int)
  ·simp[hgF];refine Z6 (IM (F:Int) a.r (F:Int) a.r [] [] (by omega) (by omega) (by simp) (by simp)) [] (by simp) (by simp) (by simp) ?_
   rintro r sm ⟨P,G,hP,hPl,hGl,rfl,rfl⟩;simp at hPl hGl;simp;refine Z6 (IM 0 0 b.g br P G (by omega) (by omega) (by omega) (by omega)) [(1,95),(2,96)] (by simp) (by simp +contextual) (by simp) ?_
   rintro r sm ⟨P2,G2,hP2,hPl2,hGl2,rfl,rfl⟩;by_cases hG:G=[]
   ·subst hG;simp[hP,M4];exact Z4 (hK _ _ ⟨P2,G2,hP2,by omega,by simp at hGl2; omega,rfl,rfl⟩) [(7,106),(8,107)] (by simp +contextual [Ak,hrA,hrB,hrC,Y0,Z7])
   ·simp[hP,hG,M4];exact Z4 (hK _ _ ⟨P2,G2,hP2,by omega,by omega,rfl,rfl⟩) [(7,106),(8,107)] (by simp +contextual [Ak,hrA,hrB,hrC,Y0,Z7])
  ·simp[hgF];refine Z6 (IM a.g a.r (F:Int) 0 [] [] hv1 (by omega) (by simp) (by simp)) [] (by simp) (by simp) (by simp) ?_
   rintro r sm ⟨P,G,hP,hPl,hGl,rfl,rfl⟩;simp at hPl hGl;simp;refine Z6 (IM 0 0 b.g br P G (by omega) (by omega) (by omega) (by omega)) [(1,93),(2,94)] (by simp) (by simp +contextual) (by simp) ?_
   rintro r sm ⟨P2,G2,hP2,hPl2,hGl2,rfl,rfl⟩;by_cases hG:G=[]
   ·subst hG;simp[hP,M4];exact Z4 (hK _ _ ⟨P2,G2,hP2,by omega,by simp at hGl2; omega,rfl,rfl⟩) [(7,104),(8,105)] (by simp +contextual [Ak,hrA,hrB,hrC,Y0,Z7])
   ·simp[hP,hG,M4];exact Z4 (hK _ _ ⟨P2,G2,hP2,by omega,by omega,rfl,rfl⟩) [(7,104),(8,105)] (by simp +contextual [Ak,hrA,hrB,hrC,Y0,Z7])
end Go.Ac
end
section
namespace Go.Ac
open Go Go.AE Go.Proofs
open Go.Plain
set_option maxHeartbeats 4000000 in
theorem c85(F:Nat)(ls:List Lt)(E:List Db)(h:ls.length≤1000) :
 AV Tryz.prog 147 [.ptr 1 0 0] (dF F ls (ls.map Ab) E) fun v m=>∃ Bl:List Bool,Bl.length=ls.length∧v=.sl 7 0 ls.length∧m=⟨(dF F ls (ls.map Ab) E).bl++[(7,.cells 1 (Bf Bl))],8⟩:=by
 refine W9 hm Tryz.func147 Uj rfl rfl fun K hK=>?_
 have hR:=E3 ls;unfold dF dM GR at *;have Ak:∀ q,Z3 q (ls.map Ab)=ls.map Ab:=fun q=>Y1 q _ (X5 ls)
 generalize ls.map Ab=rows at *;have hBl:(Bf (W4 ls.length ls.length (U2 ls) false)).length=ls.length:=by rw[Bf,lM,Hp]
 have hBg:∀ v,v<ls.length→(Bf (W4 ls.length ls.length (U2 ls) false))[v]? = some [.bool (U2 ls v)]:=fun v hv=>JE (by rw[Ki hv,iP hv])
 generalize hBe:Bf (W4 ls.length ls.length (U2 ls) false)=B at *;generalize hCe:Y3 (W4 ls.length ls.length (R6 ls) 0)=C at *;generalize hAe:Y3 (Z2 ls)=A at *;have hrA:∀ q,Z3 q A=A:=fun q=>by rw[← hAe]; exact Z7 q _
 have hrB:∀ q,Z3 q B=B:=fun q=>by rw[← hBe]; exact X4 q _
 have hrC:∀ q,Z3 q C=C:=fun q=>by rw[← hCe]; exact Z7 q _
 have hlen:=hR.len;clear hBe hCe hAe;generalize (Z2 ls).length=m at *;obtain⟨S0,hS0⟩:∃ S0,List.replicate ls.length false=S0:=⟨_,rfl⟩
 have e1:List.replicate ls.length [Aa.bool false]=Bf S0:=by rw[← hS0,Ss]
 have hS0l:S0.length=ls.length:=by rw[← hS0]; simp
 have hr:ls.length≤1048576:=by omega
 simp[hlen,e1,hr];refine W5 (α:=Nat×Bool×List Bool) (fun a=>[(20,.int .i64 a.1),(19,.int .i64 ls.length),(18,.Aj rows),(4,.bool a.2.1),(3,.sl 7 0 ls.length),(0,.ptr 1 0 0)])
  (fun a=>⟨[(1,.cells 7 [[.int .i64 (F:Int),.Aj rows,.sl 3 0 ls.length,.sl 5 0 m,.sl 4 0 ls.length,.map 6,.sl 2 0 (F+1)]]),(2,.cells 1 (Y3 (U5 F ls))),(3,.cells 1 B),(4,.cells 1 C),(5,.cells 1 A),(6,.map (Eg 0 E) E.length),(7,.cells 1 (Bf a.2.2))],8⟩)
  (fun a=>ls.length - a.1) (fun a=>a.1≤ls.length∧a.2.2.length=ls.length) (0,false,S0) [(7,14)] (by simp[Ak,hrA,hrB,hrC,Y0,Z7,X4]) ⟨by simp,hS0l⟩ ?_
 rintro⟨i,u,S⟩ ⟨hi,hS⟩ N hN;simp only at hi hS hN ⊢;by_cases hlt:i<ls.length
 ·have hrow:=hR.row i hlt;obtain⟨_,hrow2⟩:=Y8 hrow;have hw:=Y7 ((i:Int)+1);have hb:=hBg i hlt;obtain⟨_,Ci⟩:=Y8 hb;obtain⟨y,hy⟩:∃ y,S[i]? = some y:=⟨_,gE (by omega)⟩
  have hyg:=JE hy;obtain⟨hyl,hyg2⟩:=Y8 hyg;by_cases hk:(at' ls i).k=1
  ·have hset:=RF S i (U2 ls i);have hS1:(S.set i (U2 ls i)).length=ls.length:=by simpa using hS
   generalize S.set i (U2 ls i)=S1 at *;simp[hlen,hlt,hrow,hrow2,Ab,hk,hb,Ci,hw,hyg,hyg2,hset];exact hN (i+1,U2 ls i,S1) [] _ _ (by simp; omega) ⟨by simp; omega,hS1⟩ (by simp[Ak,hrA,hrB,hrC,Y0,Z7,X4])
  ·have hset:=RF S i u;have hS1:(S.set i u).length=ls.length:=by simpa using hS
   generalize S.set i u=S1 at *;simp[hlen,hlt,hrow,hrow2,Ab,hk,hw,hyg,hyg2,hset];exact hN (i+1,u,S1) [] _ _ (by simp; omega) ⟨by simp; omega,hS1⟩ (by simp[Ak,hrA,hrB,hrC,Y0,Z7,X4])
 ·simp[hlt];exact Z4 (hK _ _ ⟨S,hS,rfl,rfl⟩) [] (by simp[Ak,hrA,hrB,hrC,Y0,Z7,X4])
set_option maxRecDepth 100000 in
set_option maxHeartbeats 16000000 in
theorem c86(F:Nat)(ls:List Lt)(E:List Db)(hF:F≤40)(hg:Di ls E)(hT:∀ d,d<2*ls.length+2*(Z2 ls).length→X7 ls (Z2 ls) d<2*ls.length+2*(Z2 ls).length)
 (Sb:∀ d,2*ls.length≤d→d<2*ls.length+2*(Z2 ls).length→X7 ls (Z2 ls) d<2*ls.length)
 (Gi:∀ v,v∈Z2 ls→v<ls.length∧0≤(at' ls v).g∧(at' ls v).g≤40) (d:Nat) (hd:d<2*ls.length) (Fm Bl:List Bool) (hs0:Fm.length=2*ls.length) (qg:Bl.length=ls.length) :
 AV Tryz.prog 148 [.ptr 1 0 0,.int .i64 d,.sl 7 0 (2*ls.length),.sl 8 0 ls.length] ⟨(dF F ls (ls.map Ab) E).bl++[(7,.cells 1 (Bf Fm)),(8,.cells 1 (Bf Bl))],9⟩ fun v m=>
  ∃(ab o:Bool) (P:List (Int×Int)) (G:List Int),((Fj (X7 ls (Z2 ls)) (2*ls.length) (2*(2*ls.length)+2) Fm d).2=true↔P≠[]) ∧
   v=.agg [.bool ab,AQ 9 (Y3 (Fj (X7 ls (Z2 ls)) (2*ls.length) (2*(2*ls.length)+2) Fm d).1),AQ 10 (V2 P),AQ 11 (Z1 G),.bool o] ∧
   m=⟨(dF F ls (ls.map Ab) E).bl++(7,.cells 1 (Bf (Fy (X7 ls (Z2 ls)) (2*ls.length) (2*(2*ls.length)+2) Fm d))) :: (8,.cells 1 (Bf Bl)) :: AM 9 1 (Y3 (Fj (X7 ls (Z2 ls)) (2*ls.length) (2*(2*ls.length)+2) Fm d).1) (AM 10 2 (V2 P) (AM 11 1 (Z1 G) [])),12⟩:=by
 refine W9 hm Tryz.func148 Uk rfl rfl fun K hK=>?_
 have hR:=E3 ls;have h:=hg.small;have h105:=fun d hd=>Ub F ls E hg d hd
 have h143:=fun j hj=>cK F ls E j h hF Gi hj
 unfold dF dM GR at *;have Ak:∀ q,Z3 q (ls.map Ab)=ls.map Ab:=fun q=>Y1 q _ (X5 ls)
 have hml:(Z2 ls).length≤ls.length:=by rw[O5]; exact B3
 generalize ls.map Ab=rows at *;have hAl:(Y3 (Z2 ls)).length=(Z2 ls).length:=C9 _;generalize hBe:Bf (W4 ls.length ls.length (U2 ls) false)=B at *;generalize hCe:Y3 (W4 ls.length ls.length (R6 ls) 0)=C at *;generalize hAe:Y3 (Z2 ls)=A at *;have hrA:∀ q,Z3 q A=A:=fun q=>by rw[← hAe]; exact Z7 q _
 have hrB:∀ q,Z3 q B=B:=fun q=>by rw[← hBe]; exact X4 q _
 have hrC:∀ q,Z3 q C=C:=fun q=>by rw[← hCe]; exact Z7 q _
 have hlen:=hR.len;clear hBe hCe hAe;generalize X7 ls (Z2 ls)=T at *;generalize (Z2 ls).length=m at *;obtain⟨n2,hn2⟩:∃ n2,2*ls.length=n2:=⟨_,rfl⟩
 have hw1:=M2 (2*(ls.length:Int)) (n2:Int);rw[hn2]at hT Sb hd hs0 h105 ⊢;simp only[hn2]at hK;obtain⟨e,he⟩:∃ e,d / 2=e:=⟨_,rfl⟩
 have hwd:=M2 ((d:Int) / 2) (e:Int);have hel:e<ls.length:=by omega
 obtain⟨ab,hab⟩:∃ ab,Bl[e]? = some ab:=⟨_,gE (by omega)⟩
 have habg:=JE hab;obtain⟨_,habg2⟩:=Y8 habg;have hrl:∀ q,Z3 q (Bf Bl)=Bf Bl:=fun q=>X4 q Bl
 generalize Bf Bl=BR at *;simp[hlen,hAl,hwd,hel,habg,habg2];obtain⟨W0,hW0⟩:∃ W0,Fj T n2 (2*n2+2) Fm d=W0:=⟨_,rfl⟩
 obtain⟨M0,Pg⟩:∃ M0,Fy T n2 (2*n2+2) Fm d=M0:=⟨_,rfl⟩
 simp only[hW0,Pg]at hK;generalize (!ab)=nb at *;have hul:=OG (l:=Fm);refine W5 (α:=Nat×List Bool×List Nat×List (Int×Int)×List Int×Bool×Nat) (fun a=>[(12,.int .i64 a.1),(11,.ptr 10 0 0),(10,.int .i64 m),(9,.int .i64 ls.length),(8,.ptr 9 0 0),(2,.sl 7 0 n2),(0,.ptr 1 0 0)])
  (fun a=>⟨(1,.cells 7 [[.int .i64 (F:Int),.Aj rows,.sl 3 0 ls.length,.sl 5 0 m,.sl 4 0 ls.length,.map 6,.sl 2 0 (F+1)]]) :: (2,.cells 1 (Y3 (U5 F ls))) :: (3,.cells 1 B) :: (4,.cells 1 C) :: (5,.cells 1 A) :: (6,.map (Eg 0 E) E.length) :: (7,.cells 1 (Bf a.2.1)) :: (8,.cells 1 BR) ::
    (9,.cells 5 [[.bool false,.Ae,.Ae,.Ae,.bool false]]) :: (10,.cells 5 [[.bool nb,AQ 11 (Y3 a.2.2.1),AQ 12 (V2 a.2.2.2.1),AQ 13 (Z1 a.2.2.2.2.1),.bool a.2.2.2.2.2.1]]) :: AM 11 1 (Y3 a.2.2.1) (AM 12 2 (V2 a.2.2.2.1) (AM 13 1 (Z1 a.2.2.2.2.1) [])),14⟩)
  (fun a=>a.2.2.2.2.2.2) (fun a=>a.1<n2+2*m∧a.2.1.length=n2∧a.2.2.2.2.2.2≤2*n2+2∧2*E9 a.2.1+(if n2≤a.1 then 1 else 0)<a.2.2.2.2.2.2∧a.2.2.1.length≤2*n2+2 - a.2.2.2.2.2.2∧a.2.2.2.1.length≤100*(2*n2+2 - a.2.2.2.2.2.2)∧a.2.2.2.2.1.length≤100*(2*n2+2 - a.2.2.2.2.2.2) ∧
    W0.1=a.2.2.1++(Fj T n2 a.2.2.2.2.2.2 a.2.1 a.1).1∧(W0.2=true↔(a.2.2.2.1≠[]∨(Fj T n2 a.2.2.2.2.2.2 a.2.1 a.1).2=true))∧M0=Fy T n2 a.2.2.2.2.2.2 a.2.1 a.1)
  (d,Fm,[],[],[],false,2*n2+2) [(10,30)] (by simp[Ak,hrA,hrB,hrC,hrl,Y0,Z7,X4]) ⟨by simp; omega,hs0,by simp,by simp only; rw[iN (by omega)]; omega,by simp,by simp,by simp,by simp[hW0],by simp[hW0],Pg.symm⟩ ?_
 rintro⟨x,sn,D,P,G,o,fu⟩ ⟨hx,hsn,hfu,hun,hD,hP,hG,htr,hme,hmk⟩ N hN;simp only at hx hsn hfu hun hD hP hG htr hme hmk hN ⊢;obtain⟨fu',rfl⟩:∃ fu',fu=fu'+1:=⟨fu - 1,by omega⟩
 have hwx:IntKind.i64.wrap (2*(ls.length:Int))=(n2:Int):=hw1;have h105':=h105 x hx;by_cases hxs:x<n2
 ·have hxs':(x:Int)<(n2:Int):=by omega
  obtain⟨b2,Ci⟩:∃ b2,sn[x]? = some b2:=⟨_,gE (by omega)⟩
  have hb2g:=JE Ci;have hb2l:(Bf sn).length=n2:=by rw[Bf,lM,hsn]
  obtain⟨_,hb2g2⟩:=Y8 hb2g;simp only[Fj,Fy,iP hxs,Oo Ci]at htr hme hmk;cases b2 with
  | true=>
   simp only[if_true,List.append_nil,bF,or_false]at htr hme hmk;generalize hSe:Bf sn=S at *;simp[hw1,hxs,hb2g,hb2g2,hb2l];rw[htr,hmk]at hK;exact Z4 (hK _ _ ⟨nb,o,P,G,hme,rfl,rfl⟩) [(9,11),(10,12),(11,13)] (by simp +contextual [Ak,hrA,hrB,hrC,hrl,Y0,Z7,X4,← hSe])
  | false=>
   simp only[bF,if_false]at htr hme hmk;have hset:=RF sn x true;have hun2:=YB Ci;have hsn1:(sn.set x true).length=n2:=by simpa using hsn
   have hDb:D.length≤1048575:=by omega
   generalize sn.set x true=sn1 at *;generalize hSe:Bf sn=S at *;simp[hw1,hxs,hb2g,hb2g2,hb2l,hset,hDb];refine Z6 h105' [] (by simp) (by simp[Ak,hrA,hrB,hrC,Y0,Z7]) (by simp) ?_
   rintro r sm ⟨rfl,rfl⟩;simp[Ak,hrA,hrB,hrC,Y0,Z7];have hif:(if n2≤x then 1 else 0)=0:=iN (by omega)
   refine hN (T x,sn1,D++[x],P,G,o,fu') [(11,30)] _ _ (by simp) ⟨hT x hx,hsn1,by simp; omega,by simp only; split<;>omega,by simp; omega,by simp; omega,by simp; omega,by simp[htr],hme,hmk⟩ (by simp +contextual [Ak,hrA,hrB,hrC,hrl,Y0,Z7,X4])
 ·have hxs':¬(x:Int)<(n2:Int):=by omega
  simp only[Fj,Fy,iN hxs]at htr hme hmk;obtain⟨z,hz⟩:∃ z,x - n2=z:=⟨_,rfl⟩
  obtain⟨j,hj⟩:∃ j,z / 2=j:=⟨_,rfl⟩
  have hwz:=M2 ((x:Int) - (n2:Int)) (z:Int);have hwj:=M2 ((z:Int) / 2) (j:Int);simp[hw1,hxs,hwz,hwj];refine Z6 (h143 j (by omega)) [] (by simp) (by simp[Ak,hrA,hrB,hrC,Y0,Z7]) (by simp) ?_
  rintro r sm ⟨P2,G2,hP2,hPl2,hGl2,rfl,rfl⟩;simp[Ak,hrA,hrB,hrC,Y0,Z7,N6,M4,hP2];have htm:(x:Int).tmod 2=((x % 2:Nat):Int):=rfl;have DN:P.length+P2.length≤1048576:=by omega
  have Ci:G.length+G2.length≤1048576:=by omega
  have hTx:=Sb x (by omega) hx
  have fin:∀ (Q:List (Int×Int)) (H:List Int) (b:Bool) (l:List (Nat×Nat)) (e:Env) (mm:Ad),Q≠[]→Q.length≤100→H.length≤100 →
   Bs 9 l [(12,.int .i64 (T x)),(11,.ptr 10 0 0),(10,.int .i64 m),(9,.int .i64 ls.length),(8,.ptr 9 0 0),(2,.sl 7 0 n2),(0,.ptr 1 0 0)]
    ⟨(1,.cells 7 [[.int .i64 (F:Int),.Aj rows,.sl 3 0 ls.length,.sl 5 0 m,.sl 4 0 ls.length,.map 6,.sl 2 0 (F+1)]]) :: (2,.cells 1 (Y3 (U5 F ls))) :: (3,.cells 1 B) :: (4,.cells 1 C) :: (5,.cells 1 A) :: (6,.map (Eg 0 E) E.length) :: (7,.cells 1 (Bf sn)) :: (8,.cells 1 BR) ::
     (9,.cells 5 [[.bool false,.Ae,.Ae,.Ae,.bool false]]) :: (10,.cells 5 [[.bool nb,AQ 11 (Y3 D),AQ 12 (V2 P++V2 Q),AQ 13 (Z1 G++Z1 H),.bool b]]) :: AM 11 1 (Y3 D) (AM 12 2 (V2 P++V2 Q) (AM 13 1 (Z1 G++Z1 H) [])),14⟩ e mm→N e mm:=by
   intro Q H b l e mm q1 q2 q3 hs;refine hN (T x,sn,D,P++Q,G++H,b,fu') l _ _ (by simp) ⟨by simp only; omega,hsn,by simp; omega,by simp only; rw[iN (by omega)]; rw[iP (by omega)]at hun; omega,by simp; omega,by simp; omega,by simp; omega,htr,?_,hmk⟩ ?_
   ·simp only[or_true,iff_true]at hme;simp[hme,q1]
   ·simp only[Z7b,Z8z]at hs;exact hs
  clear hN;obtain⟨lb,hlb⟩:∃ lb,decide ((j:Int)=IntKind.i64.wrap ((m:Int) - 1))=lb:=⟨_,rfl⟩
  have h144:=cM P2 (by omega) hP2
  have h145:=cO G2 (by omega)
  by_cases hpar:x % 2=1
  ·simp[htm,hpar];refine Z6 h144 [(1,32)] (by simp) (by simp) (by simp) ?_
   rintro r sm ⟨Q,hQ,rfl,rfl⟩;have hQn:Q≠[]:=by intro e; subst e; exact hP2 (List.length_eq_zero_iff.1 hQ.symm)
   have hb1':P.length+Q.length≤1048576:=by omega
   simp;refine Z6 h145 [(1,33)] (by simp) (by simp +contextual) (by simp) ?_
   rintro r sm ⟨H,hH,rfl,rfl⟩;have hb2':G.length+H.length≤1048576:=by omega
   by_cases hG2:G2=[]
   ·subst hG2;have hHn:H=[]:=List.length_eq_zero_iff.1 (by simpa using hH)
    subst hHn;cases o<;>simp[hb1',hlb,← hQ,hQn]
    ·refine Z6 h105' [] (by simp) (by simp[Ak,hrA,hrB,hrC,Y0,Z7]) (by simp) ?_
     rintro r sm ⟨rfl,rfl⟩;simp[Ak,hrA,hrB,hrC,Y0,Z7];exact fin Q [] lb [(12,44)] _ _ hQn (by omega) (by simp) (by simp +contextual [Ak,hrA,hrB,hrC,hrl,Y0,Z7,X4,N6,M4,hQn])
    ·refine Z6 h105' [] (by simp) (by simp[Ak,hrA,hrB,hrC,Y0,Z7]) (by simp) ?_
     rintro r sm ⟨rfl,rfl⟩;simp[Ak,hrA,hrB,hrC,Y0,Z7];exact fin Q [] true [(12,44)] _ _ hQn (by omega) (by simp) (by simp +contextual [Ak,hrA,hrB,hrC,hrl,Y0,Z7,X4,N6,M4,hQn])
   ·have hHn:H≠[]:=by intro e; subst e; exact hG2 (List.length_eq_zero_iff.1 (by simpa using hH.symm))
    cases o<;>simp[hb1',hb2',hlb,hG2,hHn,← hQ,hQn,N6,M4,← hH]
    ·refine Z6 h105' [] (by simp) (by simp[Ak,hrA,hrB,hrC,Y0,Z7]) (by simp) ?_
     rintro r sm ⟨rfl,rfl⟩;simp[Ak,hrA,hrB,hrC,Y0,Z7];exact fin Q H lb [(12,44),(13,48)] _ _ hQn (by omega) (by omega) (by simp +contextual [Ak,hrA,hrB,hrC,hrl,Y0,Z7,X4,N6,M4,hQn,hHn])
    ·refine Z6 h105' [] (by simp) (by simp[Ak,hrA,hrB,hrC,Y0,Z7]) (by simp) ?_
     rintro r sm ⟨rfl,rfl⟩;simp[Ak,hrA,hrB,hrC,Y0,Z7];exact fin Q H true [(12,44),(13,48)] _ _ hQn (by omega) (by omega) (by simp +contextual [Ak,hrA,hrB,hrC,hrl,Y0,Z7,X4,N6,M4,hQn,hHn])
  ·have hpar':¬(((x % 2:Nat):Int)=1):=by omega
   generalize x % 2=y at *;simp[htm,hpar'];by_cases hG2:G2=[]
   ·subst hG2;cases o<;>simp[DN,hlb,hP2]
    ·refine Z6 h105' [] (by simp) (by simp[Ak,hrA,hrB,hrC,Y0,Z7]) (by simp) ?_
     rintro r sm ⟨rfl,rfl⟩;simp[Ak,hrA,hrB,hrC,Y0,Z7];exact fin P2 [] lb [(12,40)] _ _ hP2 hPl2 (by simp) (by simp +contextual [Ak,hrA,hrB,hrC,hrl,Y0,Z7,X4,N6,M4,hP2])
    ·refine Z6 h105' [] (by simp) (by simp[Ak,hrA,hrB,hrC,Y0,Z7]) (by simp) ?_
     rintro r sm ⟨rfl,rfl⟩;simp[Ak,hrA,hrB,hrC,Y0,Z7];exact fin P2 [] true [(12,40)] _ _ hP2 hPl2 (by simp) (by simp +contextual [Ak,hrA,hrB,hrC,hrl,Y0,Z7,X4,N6,M4,hP2])
   ·cases o<;>simp[DN,Ci,hlb,hP2,hG2]
    ·refine Z6 h105' [] (by simp) (by simp[Ak,hrA,hrB,hrC,Y0,Z7]) (by simp) ?_
     rintro r sm ⟨rfl,rfl⟩;simp[Ak,hrA,hrB,hrC,Y0,Z7];exact fin P2 G2 lb [(12,40),(13,44)] _ _ hP2 hPl2 hGl2 (by simp +contextual [Ak,hrA,hrB,hrC,hrl,Y0,Z7,X4,N6,M4,hP2,hG2])
    ·refine Z6 h105' [] (by simp) (by simp[Ak,hrA,hrB,hrC,Y0,Z7]) (by simp) ?_
     rintro r sm ⟨rfl,rfl⟩;simp[Ak,hrA,hrB,hrC,Y0,Z7];exact fin P2 G2 true [(12,40),(13,44)] _ _ hP2 hPl2 hGl2 (by simp +contextual [Ak,hrA,hrB,hrC,hrl,Y0,Z7,X4,N6,M4,hP2,hG2])
end Go.Ac
end
section
namespace Go.Ac
open Go Go.AE Go.Proofs
open Go.Plain
theorem Zzv{get:Nat→Option Ai}{S:List Nat}{cs ds:List Aa}(h:U1 (X9 (A7 get S) 4) cs=some ds):IP get S (.agg cs)=.agg ds:=by
 unfold IP;rw[X9];simp only[h]
theorem dD(F:Nat)(ls:List Lt)(E:List Db)(hF:F≤40)(hg:Di ls E)(hT:∀ d,d<2*ls.length+2*(Z2 ls).length→X7 ls (Z2 ls) d<2*ls.length+2*(Z2 ls).length)
 (Sb:∀ d,2*ls.length≤d→d<2*ls.length+2*(Z2 ls).length→X7 ls (Z2 ls) d<2*ls.length)
 (Gi:∀ v,v∈Z2 ls→v<ls.length∧0≤(at' ls v).g∧(at' ls v).g≤40) (d:Nat) (hd:d<2*ls.length) (Fm Bl:List Bool) (hs0:Fm.length=2*ls.length) (qg:Bl.length=ls.length) :
 AV Tryz.prog 148 [.ptr 1 0 0,.int .i64 d,.sl 7 0 (2*ls.length),.sl 8 0 ls.length] ⟨(dF F ls (ls.map Ab) E).bl++[(7,.cells 1 (Bf Fm)),(8,.cells 1 (Bf Bl))],9⟩ fun v m=>
  ∃ row,EB (Fj (X7 ls (Z2 ls)) (2*ls.length) (2*(2*ls.length)+2) Fm d) row∧row.length=5∧v=.agg row ∧
   m=⟨(dF F ls (ls.map Ab) E).bl++[(7,.cells 1 (Bf (Fy (X7 ls (Z2 ls)) (2*ls.length) (2*(2*ls.length)+2) Fm d))),(8,.cells 1 (Bf Bl))],12⟩:=by
 refine(c86 F ls E hF hg hT Sb Gi d hd Fm Bl hs0 qg).freeze fun r sm=>?_
 rintro⟨ab,o,P,G,h1,rfl,rfl⟩;generalize Fj (X7 ls (Z2 ls)) (2*ls.length) (2*(2*ls.length)+2) Fm d=W at *;generalize Fy (X7 ls (Z2 ls)) (2*ls.length) (2*(2*ls.length)+2) Fm d=M at *;refine⟨[9,10,11],[.bool ab,BQ (Y3 W.1),BQ (V2 P),BQ (Z1 G),.bool o],⟨ab,o,P,G,rfl,h1⟩,rfl,?_,by simp[dF,dM,GR]⟩
 apply Zzv;rw[U1,U1,U1,U1,U1,U1];rw[RY (k:=1) (by simp[A7,dF,dM,GR]) (mT W.1),RY (k:=2) (by simp[A7,dF,dM,GR]) (uY P),RY (k:=1) (by simp[A7,dF,dM,GR]) (LQ G)]
 rfl
theorem EB.one{w:List Nat×Bool}{row:List Aa}(h:EB w row):∀ x,x∈row→x.one=true:=by
 obtain⟨ab,o,P,G,rfl,_⟩:=h;have hi:∀ rows:List (List Aa),(BQ rows).one=true:=fun rows=>by unfold BQ; split<;>rfl
 intro x hx;simp only[mC,List.not_mem_nil,or_false]at hx;rcases hx with rfl|rfl|rfl|rfl|rfl<;>first|rfl|exact hi _
theorem Z7s{T:Nat→Nat}{N d:Nat}{seen:List Bool}(hd:d<N)(h:seen[d]? = some true):Gg T N (N - d) seen=Gg T N (N - (d+1)) seen:=by
 obtain⟨k,hk⟩:∃ k,N - d=k+1:=⟨N - d - 1,by omega⟩
 rw[hk,Gg,show N - (k+1)=d by omega,Oo h,iP rfl]
 congr 1; omega
theorem Zy9{T:Nat→Nat}{N d:Nat}{seen:List Bool}(hd:d<N)(h:seen[d]? = some false):Gg T N (N - d) seen=Fj T N (2*N+2) seen d :: Gg T N (N - (d+1)) (Fy T N (2*N+2) seen d):=by
 obtain⟨k,hk⟩:∃ k,N - d=k+1:=⟨N - d - 1,by omega⟩
 rw[hk,Gg,show N - (k+1)=d by omega,Oo h,iN (by simp)]
 congr 2; omega
theorem Yl(T:Nat→Nat)(n:Nat):∀ (k:Nat) (seen:List Bool) (x:Nat),(Fy T n k seen x).length=seen.length
 | 0,_,_=>rfl
 | k+1,seen,x=>by
  simp only[Fy];split
  ·split
   ·rfl
   ·rw[Yl T n k]; simp
  ·exact Yl T n k seen _
theorem Zz8{T:Nat→Nat}{n:Nat}(h:0<n):B6 T n≠[]:=by
 obtain⟨k,rfl⟩:∃ k,n=k+1:=⟨n - 1,by omega⟩
 unfold B6;rw[Gg,iN]
 ·simp
 ·rw[List.getD_eq_getElem?_getD,List.getElem?_replicate,iP (by omega)]; simp
set_option maxRecDepth 100000 in
set_option maxHeartbeats 16000000 in
theorem c29(f:Int)(ls:List Lt)(h:ls.length≤1000)(he:U0 f ls=0)(h0:ls≠[])(hT:∀ d,d<2*ls.length+2*(Z2 ls).length→X7 ls (Z2 ls) d<2*ls.length+2*(Z2 ls).length)
 (Sb:∀ d,2*ls.length≤d→d<2*ls.length+2*(Z2 ls).length→X7 ls (Z2 ls) d<2*ls.length)
 (Gi:∀ v,v∈Z2 ls→v<ls.length∧0≤(at' ls v).g∧(at' ls v).g≤40) (hg:Di ls (Ba ls ls.length)) :
 AV Tryz.prog 96 [cV f ls] ⟨[],1⟩ fun v m=>∃ rows,BK (B6 (X7 ls (Z2 ls)) (2*ls.length)) rows∧v=.tuple [.sl 1 0 rows.length,.int .i64 0]∧m=⟨[(1,.cells 5 rows)],2⟩:=by
 refine W9 hm Tryz.func96 Uf rfl rfl fun K hK=>?_
 have hR:=E3 ls;have h59:=Xq f ls h;have h85:=fun F=>c85 F ls (Ba ls ls.length) h
 have h86:=fun F hF=>dD F ls (Ba ls ls.length) hF hg hT Sb Gi
 unfold cV dF dM GR at *;have Ak:∀ q,Z3 q (ls.map Ab)=ls.map Ab:=fun q=>Y1 q _ (X5 ls)
 generalize ls.map Ab=rows at *;generalize hBe:Bf (W4 ls.length ls.length (U2 ls) false)=B at *;generalize hCe:Y3 (W4 ls.length ls.length (R6 ls) 0)=C at *;generalize hAe:Y3 (Z2 ls)=A at *;have hrA:∀ q,Z3 q A=A:=fun q=>by rw[← hAe]; exact Z7 q _
 have hrB:∀ q,Z3 q B=B:=fun q=>by rw[← hBe]; exact X4 q _
 have hrC:∀ q,Z3 q C=C:=fun q=>by rw[← hCe]; exact Z7 q _
 have hlen:=hR.len;have hlp:0<ls.length:=List.length_pos_iff.2 h0;clear hBe hCe hAe;generalize X7 ls (Z2 ls)=T at *;generalize (Z2 ls).length=m at *;generalize Ba ls ls.length=E at *;obtain⟨n2,hn2⟩:∃ n2,2*ls.length=n2:=⟨_,rfl⟩
 have hw1:=M2 (2*(ls.length:Int)) (n2:Int);simp only[hn2]at hK h86;simp;refine Z6 h59 [] (by simp[Ak]) (by simp) (by simp) ?_
 rintro r sm (⟨h1,_⟩|⟨_,h1,_⟩|⟨_,_,hf0,EK,_,rfl,rfl⟩)
 ·exact absurd he h1
 ·exact absurd h1 h0
 obtain⟨F,hF⟩:∃ F:Nat,f=(F:Int):=⟨f.toNat,by omega⟩
 subst hF;obtain⟨S0,hS0⟩:∃ S0,List.replicate n2 false=S0:=⟨_,rfl⟩
 have e1:List.replicate n2 [Aa.bool false]=Bf S0:=by rw[← hS0,Ss]
 have hS0l:S0.length=n2:=by rw[← hS0]; simp
 have hn2r:n2≤1048576:=by omega
 have h86':=h86 F (by omega)
 simp[Ak,hrA,hrB,hrC,Y0,Z7,hlen,hw1,e1,hn2r];refine Z6 (h85 F) [(1,11),(2,12),(3,13),(4,14),(5,15),(6,16)] (by simp) (by simp[Ak,hrA,hrB,hrC,Y0,Z7]) (by simp) ?_
 rintro r sm ⟨Bl,hBl,rfl,rfl⟩;simp[Ak,hrA,hrB,hrC,Y0,Z7,X4];have hfn:=Zz8 (T:=T) (n:=n2) (by omega)
 refine W5 (α:=Nat×List Bool×List (List Nat×Bool)×List (List Aa)) (fun a=>[(30,.int .i64 a.1),(29,.int .i64 n2),(8,.sl 8 0 ls.length),(7,.sl 7 0 n2),(6,AQ 9 a.2.2.2),(4,.ptr 1 0 0)])
  (fun a=>⟨(1,.cells 7 [[.int .i64 (F:Int),.Aj rows,.sl 3 0 ls.length,.sl 5 0 m,.sl 4 0 ls.length,.map 6,.sl 2 0 (F+1)]]) :: (2,.cells 1 (Y3 (U5 F ls))) :: (3,.cells 1 B) :: (4,.cells 1 C) :: (5,.cells 1 A) :: (6,.map (Eg 0 E) E.length) :: (7,.cells 1 (Bf a.2.1)) :: (8,.cells 1 (Bf Bl)) :: AM 9 5 a.2.2.2 [],10⟩)
  (fun a=>n2 - a.1) (fun a=>a.1≤n2∧a.2.1.length=n2∧BK a.2.2.1 a.2.2.2∧a.2.2.1.length≤a.1∧a.2.2.1++Gg T n2 (n2 - a.1) a.2.1=B6 T n2) (0,S0,[],[]) [(1,11),(2,12),(3,13),(4,14),(5,15),(6,16),(7,27),(8,32)]
  (by simp[Ak,hrA,hrB,hrC,Y0,Z7,X4]) ⟨by simp,hS0l,BK.nil,by simp,by simp[B6,hS0]⟩ ?_
 rintro⟨x,sn,L0,O⟩ ⟨hx,hsn,hO,hLl,hfc⟩ N hN;simp only at hx hsn hO hLl hfc hN ⊢;have hOc:∀ q,Z3 q O=O:=fun q=>Y1 q _ hO.closed
 have hOl:O.length≤1048575:=by rw[hO.1]; omega
 by_cases hlt:x<n2
 ·have hwx:=Y7 ((x:Int)+1);obtain⟨b,hb⟩:∃ b,sn[x]? = some b:=⟨_,gE (by omega)⟩
  have hbg:=JE hb;have Dd:(Bf sn).length=n2:=by rw[Bf,lM,hsn]
  obtain⟨_,hbg2⟩:=Y8 hbg;cases b with
  | true=>
   rw[Z7s hlt hb]at hfc;generalize hSe:Bf sn=S at *;simp[hlt,hbg,hbg2,Dd,hwx];exact hN (x+1,sn,L0,O) [] _ _ (by simp; omega) ⟨by simp; omega,hsn,hO,by simp; omega,hfc⟩ (by simp +contextual [Ak,hrA,hrB,hrC,Y0,Z7,X4,← hSe,hOc])
  | false=>
   rw[Zy9 hlt hb]at hfc;have h86x:=h86' x hlt sn Bl hsn hBl;have hml2:=Yl T n2 (2*n2+2) sn x;generalize Fj T n2 (2*n2+2) sn x=W at *;generalize Fy T n2 (2*n2+2) sn x=M at *;have CB:∀ q,Z3 q (Bf sn)=Bf sn:=fun q=>X4 q sn
   generalize hSe:Bf sn=S at *;simp[hlt,hbg,hbg2,Dd];refine Z6 h86x [] (by simp) (by simp[Ak,hrA,hrB,hrC,Y0,Z7,X4,CB]) (by simp) ?_
   rintro r sm ⟨row,hrow,hr5,rfl,rfl⟩;have hrc:∀ q,Q5 q row=row:=fun q=>MF q _ hrow.closed
   have hone:=hrow.one;simp +contextual [Ak,hrA,hrB,hrC,Y0,Z7,X4,hrc,hr5,hone,hOl,hwx];exact hN (x+1,M,L0++[W],O++[row]) [(9,25)] _ _ (by simp; omega) ⟨by simp; omega,by simp only; omega,hO.snoc hrow,by simp; omega,by simpa using hfc⟩ (by simp +contextual [Ak,hrA,hrB,hrC,Y0,Z7,X4,hOc,hrc])
 ·have hxe:x=n2:=by omega
  subst hxe;rw[Nat.sub_self]at hfc;simp only[Gg,List.append_nil]at hfc;subst hfc;have hOn:O≠[]:=by
   intro e;have:=hO.1;rw[e]at this;exact hfn (List.length_eq_zero_iff.1 this.symm)
  simp;exact Z4 (hK _ _ ⟨O,hO,rfl,rfl⟩) [(1,9)] (by simp[N6,M4,hOn,hOc])
theorem cZ(f:Int)(ls:List Lt)(L:List (List Nat×Bool))(hF:AV Tryz.prog 96 [cV f ls] ⟨[],1⟩ fun v m=>∃ rows,BK L rows∧v=.tuple [.sl 1 0 rows.length,.int .i64 0]∧m=⟨[(1,.cells 5 rows)],2⟩) :
 AV Tryz.prog 96 [cV f ls] ⟨[],1⟩ fun v m=>∃ rows,BK L rows∧v=.tuple [.Aj rows,.int .i64 0]∧m=⟨[],2⟩:=by
 refine hF.freeze fun r sm=>?_
 rintro⟨rows,h1,rfl,rfl⟩;refine⟨[1],rows,h1,?_,by simp⟩
 exact ze (SL (k:=5) (by simp[A7]) h1.QX) rfl
end Go.Ac
end
section
namespace Go.Ac
open Go.Plain
def it(T:Nat→Nat):Nat→Nat→Nat
 | 0,x=>x
 | j+1,x=>T (it T j x)
theorem uH(T:Nat→Nat):∀ (j x:Nat),it T j (T x)=T (it T j x)
 | 0,_=>rfl
 | j+1,x=>by simp only[it]; rw[uH T j x]
theorem Vq(T:Nat→Nat)(x:Nat):∀ (i j:Nat),it T (i+j) x=it T i (it T j x)
 | 0,j=>by rw[Nat.zero_add]; rfl
 | i+1,j=>by rw[Nat.succ_add]; simp only[it]; rw[Vq T x i j]
structure BJ (T:Nat→Nat) (N:Nat):Prop where
 lt:∀ d,d<N→T d<N
 inj:∀ y y',y<N→y'<N→T y=T y'→y=y'
structure Lq (T:Nat→Nat) (N:Nat) (seen:List Bool):Prop where
 len:seen.length=N
 same:∀ y,y<N→seen.getD (T y) true=seen.getD y true
section
variable {T:Nat→Nat} {N n:Nat} (hP:BJ T N)
include hP
theorem Ho{x:Nat}(hx:x<N):∀ j,it T j x<N
 | 0=>hx
 | j+1=>hP.lt _ (Ho hx j)
theorem wW{S:List Bool}(hc:Lq T N S){x:Nat}(hx:x<N):∀ j,S.getD (it T j x) true=S.getD x true
 | 0=>rfl
 | j+1=>by simp only[it]; rw[hc.same _ (Ho hP hx j),wW hc hx j]
theorem u9{S:List Bool}(hc:Lq T N S){x:Nat}(hx:x<N)(NQ:S.getD x true=false) :
 ∀(k i:Nat) (seen:List Bool),seen.length=N→E9 seen<k→0<i→(∀ y,y<N→(seen.getD y true=true↔S.getD y true=true ∨ ∃ j,j<i∧it T j x=y))→(∀ a b,a<b→b<i→it T a x≠it T b x) →
  ∃ L,i≤L∧it T L x=x∧(∀ j,0<j→j<L→it T j x≠x)∧tr T k seen (it T i x)=(List.range' i (L - i)).map (fun j=>it T j x) ∧
   ∀ y,y<N→((Plain.mark T k seen (it T i x)).getD y true=true↔S.getD y true=true ∨ ∃ j,j<L∧it T j x=y):=by
 intro k
 induction k with
 | zero=>intro i seen _ h; omega
 | succ k ih=>
  intro i seen hs hu hi hseen hd;have hyN:=Ho hP hx i;cases hy:seen.getD (it T i x) true with
  | true=>
   rcases (hseen _ hyN).1 hy with h1|⟨j,hj,h1⟩
   ·rw[wW hP hc hx,NQ]at h1; cases h1
   ·have hj0:j=0:=by
     rcases Nat.eq_zero_or_pos j with h|h
     ·exact h
     ·exfalso;obtain⟨j',rfl⟩:∃ j',j=j'+1:=⟨j - 1,by omega⟩
      obtain⟨i',rfl⟩:∃ i',i=i'+1:=⟨i - 1,by omega⟩
      have:=hP.inj _ _ (Ho hP hx j') (Ho hP hx i') h1
      grind
    subst hj0;refine⟨i,lR _,h1.symm,fun j h0 hj e=>hd 0 j h0 hj e.symm,?_,?_⟩
    ·simp only[tr,hy,if_true,Nat.sub_self,List.range'_zero,List.map_nil]
    ·simp only[Plain.mark,hy,if_true];exact hseen
  | false=>
   have hun:=Sz (by omega) hy
   obtain⟨L,hL,g1,g2,g3,g4⟩:=ih (i+1) (seen.set (it T i x) true) (by simpa using hs) (by omega) (by omega) (fun y hyN'=>by
    rw[H1 (by omega)]
    simp only[Bool.or_eq_true,decide_eq_true_eq];rw[hseen y hyN'];constructor
    ·rintro((h|⟨j,hj,h⟩)|h)
     ·exact .inl h
     ·exact .inr ⟨j,by omega,h⟩
     ·exact .inr ⟨i,by omega,h.symm⟩
    grind) (fun a b hab hb e=>by
    grind)
   refine⟨L,by omega,g1,g2,?_,?_⟩
   ·rw[show L - i=(L - (i+1))+1 by omega,List.range'_succ]
    simp only[tr,hy,bF,if_false,List.map_cons]
    congr 1
   ·simp only[Plain.mark,hy,bF,if_false];exact g4
theorem WB{S:List Bool}(hc:Lq T N S){x:Nat}(hx:x<N)(NQ:S.getD x true=false) :
 ∃ L,0<L∧L≤N+1∧it T L x=x∧(∀ j,0<j→j<L→it T j x≠x)∧tr T (N+1) S x=(List.range' 0 L).map (fun j=>it T j x) ∧
  ∀ y,y<N→((Plain.mark T (N+1) S x).getD y true=true↔S.getD y true=true ∨ ∃ j,j<L∧it T j x=y):=by
 have hl:=hc.len;have hun:=Sz (l:=S) (by omega) NQ
 have hul:=OG (l:=S);obtain⟨L,hL,g1,g2,g3,g4⟩:=u9 hP hc hx NQ N 1 (S.set x true) (by simpa using hl) (by omega) (by omega) (fun y hy=>by
  rw[H1 (by omega)]
  simp only[Bool.or_eq_true,decide_eq_true_eq];constructor
  ·rintro(h|h)
   ·exact .inl h
   ·exact .inr ⟨0,by omega,h.symm⟩
  ·rintro(h|⟨j,hj,h⟩)
   ·exact .inl h
   ·have:j=0:=by omega
    subst this;exact .inr h.symm) (fun a b hab hb=>by omega)
 have e:tr T (N+1) S x=(List.range' 0 L).map (fun j=>it T j x):=by
  rw[show L=(L - 1)+1 by omega,List.range'_succ]
  simp only[tr,NQ,bF,if_false,List.map_cons]
  congr 1
 refine⟨L,by omega,?_,g1,g2,e,?_⟩
 ·have:=Yp T (N+1) S x
  grind
 ·intro y hy;have:=g4 y hy;simp only[Plain.mark,NQ,bF,if_false];exact this
end
def DY(P:Nat→Bool):Nat→List Bool→Nat
 | _,[]=>0
 | i,b :: r=>(if !b&&P i then 1 else 0)+DY P (i+1) r
theorem yU{P:Nat→Bool}:∀ (l:List Bool) (i j:Nat),l[j]? = some false→DY P i (l.set j true)+(if P (i+j)then 1 else 0)=DY P i l
 | [],_,_,h=>by simp at h
 | b :: r,i,0,h=>by
  simp only[List.getElem?_cons_zero,oI]at h;subst h;simp only[List.set_cons_zero,DY,Bool.not_true,Bool.false_and,Bool.not_false,Bool.true_and,Nat.add_zero,bF,if_false];omega
 | b :: r,i,j+1,h=>by
  have:=yU (P:=P) r (i+1) j (by simpa using h)
  rw[show i+1+j=i+(j+1) by omega]at this
  simp only[List.set_cons_succ,DY];omega
theorem zU{P:Nat→Bool}:∀ (l:List Bool) (i:Nat),(∀ y,l.getD y true=true)→DY P i l=0
 | [],_,_=>rfl
 | b :: r,i,h=>by
  have h0:b=true:=by simpa using h 0
  subst h0;have:=zU (P:=P) r (i+1) fun y=>by simpa using h (y+1)
  simp only[DY,this];simp
theorem qR{P:Nat→Bool}:∀ (k i:Nat),DY P i (List.replicate k false)=((List.range' i k).filter P).length
 | 0,_=>rfl
 | k+1,i=>by
  rw[List.replicate_succ,DY,qR k (i+1),List.range'_succ,List.filter_cons]
  grind
section
variable {T:Nat→Nat} {N n:Nat} (hP:BJ T N)
include hP
theorem Za{S:List Bool}(hc:Lq T N S){x:Nat}(hx:x<N)(NQ:S.getD x true=false):Lq T N (Plain.mark T (N+1) S x):=by
 obtain⟨L,h0,h1,h2,h3,h4,h5⟩:=WB hP hc hx NQ;refine⟨by rw[SV]; exact hc.len,fun y hy=>?_⟩
 have e:((Plain.mark T (N+1) S x).getD (T y) true=true↔(Plain.mark T (N+1) S x).getD y true=true):=by
  rw[h5 _ (hP.lt y hy),h5 y hy,hc.same y hy];constructor
  ·rintro(h|⟨j,hj,h⟩)
   ·exact .inl h
   ·refine .inr ?_;cases j with
    | zero=>
     refine⟨L - 1,by omega,hP.inj _ _ (Ho hP hx _) hy ?_⟩
     have e:T (it T (L - 1) x)=it T (L - 1+1) x:=rfl;rw[e,show L - 1+1=L by omega,h2]
     exact h
    | succ j=>exact ⟨j,by omega,hP.inj _ _ (Ho hP hx _) hy h⟩
  ·rintro(h|⟨j,hj,rfl⟩)
   ·exact .inl h
   ·refine .inr ?_;rcases lG (j+1) L with h'|h'
    ·exact⟨j+1,h',rfl⟩
    ·have:L=j+1:=by omega
     subst this;exact⟨0,by omega,h2.symm⟩
 grind
omit hP in
end
theorem Z2l{T:Nat→Nat}{N n:Nat}:∀ w,w∈J8 T N→0<w.length:=by
 have:∀ (k:Nat) (seen:List Bool),∀ w,w∈Dw T N k seen→0<w.length:=by
  intro k
  induction k with
  | zero=>intro seen w hw; simp[Dw]at hw
  | succ k ih=>
   intro seen w hw;simp only[Dw]at hw;cases h:seen.getD (N - (k+1)) true with
   | true=>grind
   | false=>
    rw[h,iN (by simp)]at hw
    rcases mC.1 hw with rfl|hw
    ·simp only[tr,h,bF,if_false,lC]; omega
    ·exact ih _ w hw
 exact this N _
structure sy (T T':Nat→Nat) (N n:Nat) (φ ψ:Nat→Nat):Prop where
 p:BJ T N
 q:BJ T' N
 lt:∀ x,x<N→φ x<N
 qj:∀ x,x<N→ψ x<N
 inv:∀ x,x<N→ψ (φ x)=x
 inr:∀ x,x<N→φ (ψ x)=x
 opp:∀ x,x<N→T' (φ (T x))=φ x
 str:∀ x,x<N→(φ x<n↔x<n)
section
variable {T T':Nat→Nat} {N n:Nat} {φ ψ:Nat→Nat} (h:sy T T' N n φ ψ)
include h
omit h in
theorem qY{T:Nat→Nat}(hp:BJ T N):∀ (j:Nat) {x y:Nat},x<N→y<N→it T j x=it T j y→x=y
 | 0,_,_,_,_,e=>e
 | j+1,_,_,hx,hy,e=>qY hp j hx hy (hp.inj _ _ (Ho hp hx j) (Ho hp hy j) e)
omit h in
theorem VX{f:Nat→Nat}:∀ {l:List Nat},(∀ x y,x∈l→y∈l→f x=f y→x=y)→l.Nodup→(l.map f).Nodup
 | [],_,_=>by simp
 | a :: r,hf,hn=>by
  obtain⟨h1,h2⟩:=List.nodup_cons.1 hn;rw[List.map_cons,List.nodup_cons];refine⟨fun hm=>?_,VX (fun x y hx hy=>hf x y (List.mem_cons_of_mem _ hx) (List.mem_cons_of_mem _ hy)) h2⟩
  grind
end
end Go.Ac
end
