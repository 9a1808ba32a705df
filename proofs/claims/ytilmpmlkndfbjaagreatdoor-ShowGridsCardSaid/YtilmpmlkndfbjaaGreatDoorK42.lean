/- Part 42 of the proof: Es. -/
import Derived.Test.YtilmpmlkndfbjaaGreatDoorK30
import Derived.Test.YtilmpmlkndfbjaaGreatDoorK40
import Derived.Test.YtilmpmlkndfbjaaGreatDoorK41
set_option linter.all false
namespace Go.Ab
open Go Go.AE Go.Proofs
open Go.Plain
set_option maxHeartbeats 2000000 in
theorem pK(V:Aa)(rs:List Ro)(hV:AY V rs)(hl:rs.length≤1000):AS Tryz.prog 29 [V] (.int .i64 (V0 rs:Nat)):=by
 obtain⟨hVc,hVo,hVcl⟩:=hV.cells;refine Lx hm Tryz.func29 Z59 rfl rfl (by simp[W9,hVcl]) trivial fun K hK=>?_
 have hVlen:=hV.len;have hVrn:=hV.AA;have hVi:=fun {get:Nat→Option Ag} {i:Nat} (hi:i<rs.length)=>hV.idx (get:=get) hi
 have hRg:∀ i (h:i<rs.length),(rs.map BN)[i]? = some (BN rs[i]):=fun i h=>by rw[gM,gE h]; rfl
 simp;refine C5 (α:=Nat) (fun i=>[(0,V),(3,.int .i64 (V0 (rs.take i):Nat)),(4,.int .i64 i)]) (fun _=>⟨[],1⟩) (fun i=>rs.length - i) (fun i=>i≤rs.length) 0 [] (by simp[hVrn,V0]) (by omega) ?_
 intro i hi N hN;have Dx:=Oj (rs.take i);rw[lK]at Dx;by_cases hend:¬i=rs.length
 ·have hil:i<rs.length:=by omega
  have hili:(i:Int)<rs.length:=by omega
  have hN1:=hN (i+1);rw[lX hil]at hN1;have hix:=fun (get:Nat→Option Ag)=>hVi (get:=get) hil
  have hg:=hRg i hil;obtain⟨_,hg2⟩:=Y6 hg;generalize rs.map BN=RR at *;have hwi:=Y1 ((i:Int)+1) ((i+1:Nat):Int);obtain⟨⟨kd,at0,nn,ov⟩,hr⟩:∃ r,r=rs[i]:=⟨_,rfl⟩
  rw[← hr]at hg hg2 hN1;simp only[BN]at hg hg2 hN1;generalize hc0:V0 (rs.take i)=c0 at *;have hwn:=Y1 ((c0:Int)+1) ((c0+1:Nat):Int);by_cases hk2:kd=2
  ·rw[iP hk2]at hN1;simp[hil,hili,hVlen,hix,hg,hg2,hk2,hwi,hwn];exact hN1 [] _ _ (by omega) (by omega) (by simp[hVrn])
  ·rw[iN hk2,Nat.add_zero]at hN1;simp[hil,hili,hVlen,hix,hg,hg2,hk2,hwi];exact hN1 [] _ _ (by omega) (by omega) (by simp[hVrn])
 ·replace hend:i=rs.length:=Classical.not_not.1 hend
  subst hend;rw[List.take_length]at *;generalize V0 rs=c0 at *;simp[hVlen];exact Z6 hK [] (by simp)
def Cr(n:Nat)(L:List (Nat×Nat)):List Int:=L.foldl (fun J p=>N1 J p.1 p.2) (List.replicate n 0)
theorem OL(n:Nat)(L:List (Nat×Nat)):(Cr n L).length=n:=by rw[Cr,Yc,List.length_replicate]
theorem rD(n:Nat)(L:List (Nat×Nat))(a b:Nat):Cr n (L++[(a,b)])=N1 (Cr n L) a b:=by rw[Cr,List.foldl_append]; rfl
set_option maxHeartbeats 4000000 in
theorem vV(m:Nat)(J:List Int)(OR LR:List (List Aa))(a b:Nat)(ha:a<J.length)(hb:b<J.length) :
 Cc Tryz.prog 55 [.agg [.int .i64 m,.sl 1 0 J.length,AH 2 OR,AH 3 LR],.int .i64 a,.int .i64 b] ⟨[(1,.cells 1 (Z1 J))],4⟩ fun r mm=>
  r=.tuple []∧mm=⟨[(1,.cells 1 (Z1 (N1 J a b)))],4⟩:=by
 refine It hm Tryz.func55 zN rfl rfl fun K hK=>?_
 have hJl:=A8 J;have hga:=Kn ha;obtain⟨_,hga2⟩:=Y6 hga;have hJ1:(J.set a (b:Int)).length=J.length:=List.length_set;have Oa:=Kn (l:=J.set a (b:Int)) (i:=b) (by rw[hJ1]; exact hb)
 obtain⟨_,hgb2⟩:=Y6 Oa;have hs1:=XC J a (b:Int);have hs2:=XC (J.set a (b:Int)) b (a:Int);have hJ1l:=A8 (J.set a (b:Int));have hrJ:∀ q,Z3 q (Z1 (N1 J a b))=Z1 (N1 J a b):=fun q=>X7 q _ (N9 _)
 unfold N1 at *;generalize (J.set a (b:Int)).getD b 0=y at *;generalize J.getD a 0=x at *;generalize hR3:Z1 ((J.set a (b:Int)).set b (a:Int))=R3 at *;generalize hR2:Z1 (J.set a (b:Int))=R2 at *;generalize Z1 J=R1 at *;simp[ha,hb,hJl,hga,hga2,hs1,hJ1l,hJ1,Oa,hgb2,hs2, D2];exact Z6 hK [(1,1)] (by simp +contextual [hrJ])
set_option maxHeartbeats 2000000 in
theorem Z8d(m e:Nat)(EH:m≤1000)(he:e≤5000):AS Tryz.prog 56 [.int .i64 m,.int .i64 e] (.int .i64 (CH m e:Nat)):=by
 refine Lx hm Tryz.func56 Z5a rfl rfl (by simp[W9,Aa.closed]) trivial fun K hK=>?_
 have hrv:=Z5l e (by omega)
 have hw1:IntKind.i64.wrap (2*(m:Int))=2*m:=S8 (by omega) (by omega)
 by_cases h:e<2*m
 ·have hi:(e:Int)<2*m:=by omega
  have e1:CH m e=Dc e:=by unfold CH; rw[iP h]
  rw[e1]at hK;simp[hw1,hi];refine L3 hrv ?_;simp;exact Z6 hK [] (by simp)
 ·have hi:¬(e:Int)<2*m:=by omega
  have hw2:=Y1 ((e:Int) - 2*m) ((e - 2*m:Nat):Int);have htm:((e - 2*m:Nat):Int).tmod 4=(((e - 2*m) % 4:Nat):Int):=rfl;have e1:CH m e=e - (e - 2*m) % 4+((e - 2*m) % 4+2) % 4:=by unfold CH; rw[iN h]
  have hq:=Nat.mod_lt (e - 2*m) (show 0<4 by omega)
  have hql:(e - 2*m) % 4≤e:=by have:=Nat.mod_le (e - 2*m) 4; omega
  rw[e1]at hK;generalize (e - 2*m) % 4=q at *;generalize e - 2*m=d at *;have hw3:=Y1 ((q:Int)+2) ((q+2:Nat):Int);have htq:((q+2:Nat):Int).tmod 4=(((q+2) % 4:Nat):Int):=rfl;have hq2:=Nat.mod_lt (q+2) (show 0<4 by omega)
  generalize (q+2) % 4=q2 at *;generalize q+2=dq at *;have hw4:=Y1 ((e:Int) - q) ((e - q:Nat):Int);have hw5:=Y1 (((e - q:Nat):Int)+q2) ((e - q+q2:Nat):Int);generalize e - q+q2=w at *;generalize e - q=w0 at *;simp[hw1,hi,hw2,htm,hw3,htq,hw4,hw5];exact Z6 hK [] (by simp)
theorem vn(a b:Nat)(o:Bool):AS Tryz.prog 57 [.int .i64 a,.int .i64 b,.bool o] (.int .i64 (FA a b o)):=by
 refine Lx hm Tryz.func57 Z9w rfl rfl (by simp[W9,Aa.closed]) trivial fun K hK=>?_
 unfold FA at hK;have e1:((b:Int)=3)=(b=3):=propext (by omega)
 have e2:((a:Int)=0)=(a=0):=propext (by omega)
 simp[e1,e2];cases h1:decide (a=0)<;>cases h2:decide (b=3)<;>cases o<;>rw[h1,h2]at hK<;>simp at hK ⊢ <;> exact Z6 hK [] (by simp)
end Go.Ab
