/- Part 46 of the proof: Gc. -/
import Derived.Test.YtilmpmlkndfbjaaGreatDoorK45
set_option linter.all false
namespace Go.Ab
open Go Go.AE Go.Proofs
open Go.Plain
attribute [local simp] C8 D6 D3 B4 B0 C6 D7 C7 D9 B7 C3 Gk E5 B6 D8 C2 C1
def Z2(l:List (List UInt8)):List (List Aa):=l.map fun s=>[.str s]
theorem I9(l:List (List UInt8)):(Z2 l).length=l.length:=by simp[Z2]
theorem QE:∀ l,V3 (Z2 l)=true
 | []=>rfl
 | s :: l=>by show(W9 [Aa.str s]&&V3 (Z2 l))=true; rw[QE l]; rfl
theorem HH(q:Nat→Nat)(l:List (List UInt8)):Z3 q (Z2 l)=Z2 l:=X7 q _ (QE l)
theorem IC(l:List (List UInt8))(s:List UInt8):Z2 (l++[s])=Z2 l++[[.str s]]:=by simp[Z2]
theorem HD(m a j:Nat)(mk:List UInt8):(W1 m a j mk).length=m:=by simp[W1]
theorem cU(m a:Nat)(mk:List UInt8):Z2 (W1 m a 0 mk)=List.replicate m [.str [124]]:=by
 unfold Z2 W1;rw[List.map_map];apply List.ext_getElem?;intro i;rw[gM,List.getElem?_replicate];by_cases hi:i<m
 ·rw[List.getElem?_range hi,iP hi];show some [Aa.str (if a≤i∧i<a+0 then mk else [124])]=_
  rw[iN (by omega)]
 ·rw[List.getElem?_eq_none (by simpa using hi),iN hi]
  rfl
theorem bI{m a j:Nat}{mk:List UInt8}:(Z2 (W1 m a j mk)).set (a+j) [.str mk]=Z2 (W1 m a (j+1) mk):=by
 unfold Z2 W1;rw[List.map_map,List.map_map];apply List.ext_getElem?;intro i;rw[List.getElem?_set,gM,gM,lM,List.length_range];by_cases hi:i<m
 ·rw[List.getElem?_range hi];by_cases hij:a+j=i
  ·subst hij;rw[iP rfl,iP hi];show _=some [Aa.str (if a≤a+j∧a+j<a+(j+1)then mk else [124])]
   rw[iP (by omega)]
  ·rw[iN hij];show some [Aa.str (if a≤i∧i<a+j then mk else [124])]=some [Aa.str (if a≤i∧i<a+(j+1)then mk else [124])]
   congr 4
   exact propext (by omega)
 ·rw[List.getElem?_eq_none (by simpa using hi)]
  split
  ·rw[iN (by omega)]; rfl
  ·rfl
theorem Zt:∀ (l:List (List UInt8)) (b:Nat),(∀ s,s∈l→s.length≤b)→(Lib.join l [32]).length≤l.length*(b+1)
 | [],b,_=>Nat.zero_le _
 | x :: r,b,h=>by
  rw[Lib.join_cons,lA];have hx:=h x (List.mem_cons_self ..);have hr:(Lib.joinTail [32] r).length≤r.length*(b+1):=by
   have hr:=fun s hs=>h s (List.mem_cons_of_mem _ hs)
   clear h hx
   induction r with
   | nil=>exact Nat.zero_le _
   | cons y r ih=>
    have h1:=hr y (List.mem_cons_self ..);have h2:=ih fun s hs=>hr s (List.mem_cons_of_mem _ hs)
    unfold Lib.joinTail at h2 ⊢;rw[List.map_cons,List.flatten_cons,lA,lA,List.length_singleton,lC,Nat.add_mul];omega
  rw[lC,Nat.add_mul];omega
theorem ZO{m a j:Nat}{mk:List UInt8}(hm:m≤1000)(hk:mk.length≤1):(Lib.join (W1 m a j mk) [32]).length≤1000000:=by
 have:=Zt (W1 m a j mk) 1 fun s hs=>by
  unfold W1 at hs;obtain⟨k,_,rfl⟩:=mM.1 hs;split
  ·exact hk
  ·exact lR _
 rw[HD]at this;omega
set_option maxRecDepth 100000 in
set_option maxHeartbeats 16000000 in
theorem uS(cap:List UInt8)(hcap:cap.length≤1)(m0:Nat)(V:Aa)(rs:List Ro)(hV:AY V rs)(hok:FJ m0 rs)(hm0:m0≤400)(hrl:rs.length≤200) :
 Cc Tryz.prog 41 [V,.int .i64 m0,.str cap] ⟨[],1⟩ fun r mm=>r=AH 1 (Z2 (Ek cap m0 rs))∧mm=⟨AF 1 1 (Z2 (Ek cap m0 rs)) [],2⟩:=by
 refine GV hm [] Tryz.func41 UT rfl rfl fun K hK=>?_
 have hKb:=hK _ _ ⟨rfl,rfl⟩;clear hK;obtain⟨res,hres⟩:∃ res,res=Ek cap m0 rs:=⟨_,rfl⟩
 rw[← hres]at hKb;have hVlen:=hV.len;have hVrn:=hV.AA;obtain⟨hVc,hVo,hVcl⟩:=hV.cells;have hVi:=fun {get:Nat→Option Ag} {i:Nat} (hi:i<rs.length)=>hV.idx (get:=get) hi
 have hRg:∀ i (h:i<rs.length),(rs.map BN)[i]? = some (BN rs[i]):=fun i h=>by rw[gM,gE h]; rfl
 have hs1:∀ (c:Nat) (x:List Aa),AH c [x]=.sl c 0 1:=fun _ _=>rfl
 have Bg:∀ (c k:Nat) (x:List Aa) (r:List (Nat×Ag)),AF c k [x] r=(c,.cells k [x]) :: r:=fun _ _ _ _=>rfl
 have hSr:∀ q l,Z3 q (Z2 l)=Z2 l:=HH
 simp[hVlen];refine T6 (α:=Nat×Nat×List (List UInt8)) (fun a=>[(1,.int .i64 a.2.1),(2,.str cap),(7,AH 4 (Z2 a.2.2)),(14,V),(15,.int .i64 rs.length),(16,.int .i64 a.1)])
  (fun a=>⟨AF 4 1 (Z2 a.2.2) [],5⟩) (fun a=>rs.length - a.1) (fun a=>a.1≤rs.length∧a.2.2.length=a.1∧a.2.1≤m0+2*a.1∧FJ a.2.1 (rs.drop a.1)∧a.2.2++Ek cap a.2.1 (rs.drop a.1)=res) (0,m0,[]) []
  (by have e:Z2 []=[]:=rfl;simp[hVrn,e]) ⟨by simp,rfl,by simp,by simpa using hok,by simpa using hres.symm⟩ ?_
 rintro⟨i,m,D⟩ ⟨hi,hDl,hmb,hok,hs⟩ N hN;simp only at hi hDl hmb hok hs;have hD:=fun q=>hSr q D
 have hSl:=I9 D;by_cases hend:i=rs.length
 ·subst hend;rw[List.drop_length]at hs;have e:D=res:=by rw[← hs]; simp[Ek]
  subst e;simp;exact Z6 hKb [(1,4)] (by simp +contextual [hD])
 have hil:i<rs.length:=by omega
 have hili:(i:Int)<rs.length:=by omega
 have hix:=fun (get:Nat→Option Ag)=>hVi (get:=get) hil
 have hg:=hRg i hil;obtain⟨_,hg2⟩:=Y6 hg;rw[List.drop_eq_getElem_cons hil]at hs hok;generalize rs.map BN=RR at *;obtain⟨⟨kd,at0,nn,ov⟩,hr⟩:∃ r,r=rs[i]:=⟨_,rfl⟩
 rw[← hr]at hs hg hg2 hok;simp only[FJ,Ek,BN]at hs hg hg2 hok;obtain⟨hcs,hok⟩:=hok;have hw1:=Y1 ((i:Int)+1) ((i+1:Nat):Int);rcases hcs with hc|hc
 ·obtain⟨k1,c2,c3,c4,c5⟩:=hc;simp only at k1 c2 c3 c4 c5;subst k1;subst c4;subst c5;obtain⟨a,rfl⟩:∃ a:Nat,at0=(a:Int):=⟨at0.toNat,by omega⟩
  have hm0':0<m:=by omega
  have hmb':m≤1000:=by omega
  have hrp:=cQ m hm0' hmb';have hNx:=hN (i+1,m - 2,D++[Lib.join (W1 m a 2 cap) [32]]);simp only[IC]at hNx;have hjl:=ZO (m:=m) (a:=a) (j:=2) (mk:=cap) hmb' hcap;have hCl:∀ j,(Z2 (W1 m a j cap)).length=m:=fun j=>by rw[I9,HD]
  have hCr:∀ q j,Z3 q (Z2 (W1 m a j cap))=Z2 (W1 m a j cap):=fun q j=>hSr q _
  have hCs:∀ j,(Z2 (W1 m a j cap)).set (a+j) [.str cap]=Z2 (W1 m a (j+1) cap):=fun j=>bI
  have hC0:=cU m a cap;rw[← hC0]at hrp;have hDlen:(Z2 D).length=i:=by rw[hSl,hDl]
  have hCg:∀ j k,k<m → ∃ s,(Z2 (W1 m a j cap))[k]? = some [.str s]:=fun j k hk=>by
   unfold Z2;rw[gM,gE (by rw[HD]; exact hk)]
   exact⟨_,rfl⟩
  simp[hil,hix,hg,hg2 ];refine V4 hrp [(1,16)] (by simp) (by simp) (by simp) ?_
  rintro _ _ ⟨rfl,rfl⟩;simp[hCr ];have hss:(D++[Lib.join (W1 m a 2 cap) [32]])++Ek cap (m - 2) (List.drop (i+1) rs)=res:=by simpa[List.append_assoc,Qt,PF,Gp]using hs
  have hokk:FJ (m - 2) (List.drop (i+1) rs):=by simpa[Gp]using hok
  clear hs hok;generalize hDD:Z2 D=DD at *;have hCnn:¬ ∃ q:Nat,q<0:=by simp
  refine T6 (α:=Nat) (fun j=>[(1,.int .i64 m),(2,.str cap),(7,AH 4 DD),(9,.ptr 5 0 0),(10,.str cap),(12,.sl 6 0 m),(14,V),(15,.int .i64 rs.length),(16,.int .i64 i),(31,.int .i64 (2:Nat)),(32,.int .i64 j)])
   (fun j=>⟨[(5,.cells 4 [[.int .i64 1,.int .i64 a,.int .i64 0,.bool false]]),(6,.cells 1 (Z2 (W1 m a j cap)))]++AF 4 1 DD [],7⟩) (fun j=>2 - j) (fun j=>j≤2) 0 [(5,8),(6,20)] (by simp +contextual [hVrn,hCr,hD]) (by omega) ?_
  intro j hj N2 hN2;by_cases he2:¬j=2
  ·have hjs:j<2:=by omega
   have hjsi:(j:Int)<2:=by omega
   have hN3:=hN2 (j+1);rw[← hCs j]at hN3;have hwa:=Y1 ((a:Int)+j) ((a+j:Nat):Int);have hwj:=Y1 ((j:Int)+1) ((j+1:Nat):Int);have hajm:a+j<m:=by omega
   obtain⟨s0,hcg⟩:=hCg j (a+j) hajm;obtain⟨_,hcg2⟩:=Y6 hcg;have hCl1:=hCl j;have hCr1:=fun q=>hCr q (j+1)
   rw[← hCs j]at hCr1;have hCr2:=fun q=>hCr q j
   generalize Z2 (W1 m a j cap)=CC at *;generalize hajd:a+j=aj at *;simp[hjs,hjsi,hwa,hwj,hajm,hcg,hcg2,hCl1 ];exact hN3 [] _ _ (by omega) (by omega) (by simp +contextual [hVrn,hCr1,hD,hCr2])
  ·replace he2:2=j:=(Classical.not_not.1 he2).symm
   subst he2;have hCrz:=fun q=>hCr q 2
   simp;refine Sq (l:=W1 m a 2 cap) rfl (HD _ _ _ _) hm0' (by omega) hjl ?_
   generalize Lib.join (W1 m a 2 cap) [32]=JS at *;generalize Z2 (W1 m a 2 cap)=CC at *;have hne:¬i+1≤i:=by omega
   have hib:i≤1048575:=by omega
   have hwm:=Y1 ((m:Int) - 2) ((m - 2:Nat):Int);by_cases hi0:i=0
   ·have hDn:DD=[]:=List.length_eq_zero_iff.1 (by rw[hDlen,hi0])
    subst hDn;simp[Z8,T3,T0,hw1,hwm ];exact hNx [(4,12)] _ _ (by omega) ⟨by omega,by simp[hDl],by omega,hokk,hss⟩ (by simp +contextual [hVrn,hs1,Bg])
   ·have hDn:¬DD=[]:=fun e=>hi0 (by rw[← hDlen,e]; rfl)
    have hDt:List.take i DD=DD:=tL (by omega)
    simp[Z8,Y4 hDn,Z9 hDn,hDn,hDlen,hne,hib,hDt,hw1,hwm ];exact hNx [(4,12)] _ _ (by omega) ⟨by omega,by simp[hDl],by omega,hokk,hss⟩ (by simp +contextual [hVrn,hD,hDlen])
 ·obtain⟨k1,c1,c2,c3,c4⟩:=hc;simp only at k1 c1 c2 c3 c4;subst k1;obtain⟨a,rfl⟩:∃ a:Nat,at0=(a:Int):=⟨at0.toNat,by omega⟩
  obtain⟨k,rfl⟩:∃ k:Nat,nn=(k:Int):=⟨nn.toNat,by omega⟩
  have hw2k:IntKind.i64.wrap (2*(k:Int))=2*k:=S8 (by omega) (by omega)
  have hw4k:IntKind.i64.wrap (4 - 2*(k:Int))=4 - 2*k:=S8 (by omega) (by omega)
  cases ov with
  | false=>
   have hm0':0<m:=by omega
   have hmb':m≤1000:=by omega
   have hrp:=cQ m hm0' hmb';have hNx:=hN (i+1,m - k+(4 - k),D++[Lib.join (W1 m a k [45]) [32]]);simp only[IC]at hNx;have hjl:=ZO (m:=m) (a:=a) (j:=k) (mk:=[45]) hmb' (by simp)
   have hCl:∀ j,(Z2 (W1 m a j [45])).length=m:=fun j=>by rw[I9,HD]
   have hCr:∀ q j,Z3 q (Z2 (W1 m a j [45]))=Z2 (W1 m a j [45]):=fun q j=>hSr q _
   have hCs:∀ j,(Z2 (W1 m a j [45])).set (a+j) [.str [45]]=Z2 (W1 m a (j+1) [45]):=fun j=>bI
   have hC0:=cU m a [45];rw[← hC0]at hrp;have hDlen:(Z2 D).length=i:=by rw[hSl,hDl]
   have hCg:∀ j k,k<m → ∃ s,(Z2 (W1 m a j [45]))[k]? = some [.str s]:=fun j k hk=>by
    unfold Z2;rw[gM,gE (by rw[HD]; exact hk)]
    exact⟨_,rfl⟩
   simp[hil,hix,hg,hg2 ];refine V4 hrp [(1,22)] (by simp) (by simp) (by simp) ?_
   rintro _ _ ⟨rfl,rfl⟩;simp[hCr ];have hss:(D++[Lib.join (W1 m a k [45]) [32]])++Ek cap (m - k+(4 - k)) (List.drop (i+1) rs)=res:=by simpa[List.append_assoc,Qt,PF,Gp]using hs
   have hokk:FJ (m - k+(4 - k)) (List.drop (i+1) rs):=by simpa[Gp]using hok
   clear hs hok;generalize hDD:Z2 D=DD at *;have hCnn:¬ ∃ q:Nat,q<0:=by simp
   refine T6 (α:=Nat) (fun j=>[(1,.int .i64 m),(2,.str cap),(7,AH 4 DD),(9,.ptr 5 0 0),(10,.str [45]),(12,.sl 6 0 m),(14,V),(15,.int .i64 rs.length),(16,.int .i64 i),(31,.int .i64 (k:Nat)),(32,.int .i64 j)])
    (fun j=>⟨[(5,.cells 4 [[.int .i64 2,.int .i64 a,.int .i64 k,.bool false]]),(6,.cells 1 (Z2 (W1 m a j [45])))]++AF 4 1 DD [],7⟩) (fun j=>k - j) (fun j=>j≤k) 0 [(5,8),(6,26)] (by simp +contextual [hVrn,hCr,hD]) (by omega) ?_
   intro j hj N2 hN2;by_cases he2:¬j=k
   ·have hjs:j<k:=by omega
    have hjsi:(j:Int)<k:=by omega
    have hN3:=hN2 (j+1);rw[← hCs j]at hN3;have hwa:=Y1 ((a:Int)+j) ((a+j:Nat):Int);have hwj:=Y1 ((j:Int)+1) ((j+1:Nat):Int);have hajm:a+j<m:=by omega
    obtain⟨s0,hcg⟩:=hCg j (a+j) hajm;obtain⟨_,hcg2⟩:=Y6 hcg;have hCl1:=hCl j;have hCr1:=fun q=>hCr q (j+1)
    rw[← hCs j]at hCr1;have hCr2:=fun q=>hCr q j
    generalize Z2 (W1 m a j [45])=CC at *;generalize hajd:a+j=aj at *;simp[hjs,hjsi,hwa,hwj,hajm,hcg,hcg2,hCl1 ];exact hN3 [] _ _ (by omega) (by omega) (by simp +contextual [hVrn,hCr1,hD,hCr2])
   ·replace he2:k=j:=(Classical.not_not.1 he2).symm
    subst he2;have hCrz:=fun q=>hCr q k
    simp;refine Sq (l:=W1 m a k [45]) rfl (HD _ _ _ _) hm0' (by omega) hjl ?_
    generalize Lib.join (W1 m a k [45]) [32]=JS at *;generalize Z2 (W1 m a k [45])=CC at *;have hne:¬i+1≤i:=by omega
    have hib:i≤1048575:=by omega
    have hwm:=Y1 ((m:Int)+(4 - 2*k)) ((m - k+(4 - k):Nat):Int);have hmnb:m - k+(4 - k)≤m+2:=by omega
    generalize m - k+(4 - k)=mn at *;by_cases hi0:i=0
    ·have hDn:DD=[]:=List.length_eq_zero_iff.1 (by rw[hDlen,hi0])
     subst hDn;simp[Z8,T3,T0,hw1,hw2k,hw4k,hwm ];exact hNx [(4,12)] _ _ (by omega) ⟨by omega,by simp[hDl],by omega,hokk,hss⟩ (by simp +contextual [hVrn,hs1,Bg])
    ·have hDn:¬DD=[]:=fun e=>hi0 (by rw[← hDlen,e]; rfl)
     have hDt:List.take i DD=DD:=tL (by omega)
     simp[Z8,Y4 hDn,Z9 hDn,hDn,hDlen,hne,hib,hDt,hw1,hw2k,hw4k,hwm ];exact hNx [(4,12)] _ _ (by omega) ⟨by omega,by simp[hDl],by omega,hokk,hss⟩ (by simp +contextual [hVrn,hD,hDlen])
  | true=>
   have hm0':0<m:=by omega
   have hmb':m≤1000:=by omega
   have hrp:=cQ m hm0' hmb';have hNx:=hN (i+1,m - k+(4 - k),D++[Lib.join (W1 m a k [43]) [32]]);simp only[IC]at hNx;have hjl:=ZO (m:=m) (a:=a) (j:=k) (mk:=[43]) hmb' (by simp)
   have hCl:∀ j,(Z2 (W1 m a j [43])).length=m:=fun j=>by rw[I9,HD]
   have hCr:∀ q j,Z3 q (Z2 (W1 m a j [43]))=Z2 (W1 m a j [43]):=fun q j=>hSr q _
   have hCs:∀ j,(Z2 (W1 m a j [43])).set (a+j) [.str [43]]=Z2 (W1 m a (j+1) [43]):=fun j=>bI
   have hC0:=cU m a [43];rw[← hC0]at hrp;have hDlen:(Z2 D).length=i:=by rw[hSl,hDl]
   have hCg:∀ j k,k<m → ∃ s,(Z2 (W1 m a j [43]))[k]? = some [.str s]:=fun j k hk=>by
    unfold Z2;rw[gM,gE (by rw[HD]; exact hk)]
    exact⟨_,rfl⟩
   simp[hil,hix,hg,hg2 ];refine V4 hrp [(1,23)] (by simp) (by simp) (by simp) ?_
   rintro _ _ ⟨rfl,rfl⟩;simp[hCr ];have hss:(D++[Lib.join (W1 m a k [43]) [32]])++Ek cap (m - k+(4 - k)) (List.drop (i+1) rs)=res:=by simpa[List.append_assoc,Qt,PF,Gp]using hs
   have hokk:FJ (m - k+(4 - k)) (List.drop (i+1) rs):=by simpa[Gp]using hok
   clear hs hok;generalize hDD:Z2 D=DD at *;have hCnn:¬ ∃ q:Nat,q<0:=by simp
   refine T6 (α:=Nat) (fun j=>[(1,.int .i64 m),(2,.str cap),(7,AH 4 DD),(9,.ptr 5 0 0),(10,.str [43]),(12,.sl 6 0 m),(14,V),(15,.int .i64 rs.length),(16,.int .i64 i),(31,.int .i64 (k:Nat)),(32,.int .i64 j)])
    (fun j=>⟨[(5,.cells 4 [[.int .i64 2,.int .i64 a,.int .i64 k,.bool true]]),(6,.cells 1 (Z2 (W1 m a j [43])))]++AF 4 1 DD [],7⟩) (fun j=>k - j) (fun j=>j≤k) 0 [(5,8),(6,27)] (by simp +contextual [hVrn,hCr,hD]) (by omega) ?_
   intro j hj N2 hN2;by_cases he2:¬j=k
   ·have hjs:j<k:=by omega
    have hjsi:(j:Int)<k:=by omega
    have hN3:=hN2 (j+1);rw[← hCs j]at hN3;have hwa:=Y1 ((a:Int)+j) ((a+j:Nat):Int);have hwj:=Y1 ((j:Int)+1) ((j+1:Nat):Int);have hajm:a+j<m:=by omega
    obtain⟨s0,hcg⟩:=hCg j (a+j) hajm;obtain⟨_,hcg2⟩:=Y6 hcg;have hCl1:=hCl j;have hCr1:=fun q=>hCr q (j+1)
    rw[← hCs j]at hCr1;have hCr2:=fun q=>hCr q j
    generalize Z2 (W1 m a j [43])=CC at *;generalize hajd:a+j=aj at *;simp[hjs,hjsi,hwa,hwj,hajm,hcg,hcg2,hCl1 ];exact hN3 [] _ _ (by omega) (by omega) (by simp +contextual [hVrn,hCr1,hD,hCr2])
   ·replace he2:k=j:=(Classical.not_not.1 he2).symm
    subst he2;have hCrz:=fun q=>hCr q k
    simp;refine Sq (l:=W1 m a k [43]) rfl (HD _ _ _ _) hm0' (by omega) hjl ?_
    generalize Lib.join (W1 m a k [43]) [32]=JS at *;generalize Z2 (W1 m a k [43])=CC at *;have hne:¬i+1≤i:=by omega
    have hib:i≤1048575:=by omega
    have hwm:=Y1 ((m:Int)+(4 - 2*k)) ((m - k+(4 - k):Nat):Int);have hmnb:m - k+(4 - k)≤m+2:=by omega
    generalize m - k+(4 - k)=mn at *;by_cases hi0:i=0
    ·have hDn:DD=[]:=List.length_eq_zero_iff.1 (by rw[hDlen,hi0])
     subst hDn;simp[Z8,T3,T0,hw1,hw2k,hw4k,hwm ];exact hNx [(4,12)] _ _ (by omega) ⟨by omega,by simp[hDl],by omega,hokk,hss⟩ (by simp +contextual [hVrn,hs1,Bg])
    ·have hDn:¬DD=[]:=fun e=>hi0 (by rw[← hDlen,e]; rfl)
     have hDt:List.take i DD=DD:=tL (by omega)
     simp[Z8,Y4 hDn,Z9 hDn,hDn,hDlen,hne,hib,hDt,hw1,hw2k,hw4k,hwm ];exact hNx [(4,12)] _ _ (by omega) ⟨by omega,by simp[hDl],by omega,hokk,hss⟩ (by simp +contextual [hVrn,hD,hDlen])
end Go.Ab
