/- Part 41 of the proof: Ro, Rp, Rq. -/
import Derived.Test.YtmfdlchjaldclaaGreatDoorA39
import Derived.Test.YtmfdlchjaldclaaGreatDoorA40
set_option linter.all false
section
namespace Go.Known
open Go Go.AE Go.Proofs
open Go.Plain
theorem prow_set (l:List (Int×Int)) (i:Nat) (a b:Int):(prow l).set i [.int .i64 a,.int .i64 b]=prow (l.set i (a,b)):=by rw [prow,prow,List.map_set]
theorem irow_set (l:List Int) (i:Nat) (a:Int):(irow l).set i [.int .i64 a]=irow (l.set i a):=by rw [irow,irow,List.map_set]
theorem c144 (P:List (Int×Int)) (hl:P.length≤1000) (h0:P≠[]) :
 Ctr Tryz.prog 155 [.sl 1 0 P.length] ⟨[(1,.cells 2 (prow P))],2⟩ fun v m=>∃ Q:List (Int×Int),Q.length=P.length∧v=.tuple []∧m=⟨[(1,.cells 2 (prow Q))],2⟩:=by
 refine ctr_P hm Tryz.func155 ch144 rfl rfl fun K hK=>?_
 have hw1:IntKind.i64.wrap ((P.length:Int) - 1)=(P.length:Int) - 1:=wrap64 (by omega) (by omega)
 obtain⟨n,hn⟩:∃ n,P.length=n:=⟨_,rfl⟩
 rw [hn] at hw1 hK hl ⊢
 simp [hw1]
 refine wZ_loop (α:=Nat×List (Int×Int)) (fun a=>[(3,.int .i64 ((n:Int) - 1 - (a.1:Nat))),(2,.int .i64 a.1),(0,.sl 1 0 n)]) (fun a=>⟨[(1,.cells 2 (prow a.2))],2⟩) (fun a=>n - a.1) (fun a=>a.1≤n∧a.2.length=n) (0,P) [] (by simp +contextual) ⟨by simp,hn⟩ ?_
 rintro⟨i,Q⟩ ⟨hi,hQ⟩ N hN
 simp only at hi hQ hN ⊢
 by_cases hlt:(i:Int)<(n:Int) - 1 - i
 · have hj:((n:Int) - 1 - i).toNat=n - 1 - i:=by omega
   have hj0:(i:Int)≤(n:Int) - 1:=by omega
   obtain⟨j,hj2⟩:∃ j,n - 1 - i=j:=⟨_,rfl⟩
   rw [hj2] at hj
   obtain⟨p,hp⟩:∃ p,Q[i]? = some p:=⟨_,List.getElem?_eq_getElem (by omega)⟩
   obtain⟨q,hq⟩:∃ q,Q[j]? = some q:=⟨_,List.getElem?_eq_getElem (by omega)⟩
   have hpg:=prow_get hp
   have hqg:=prow_get hq
   obtain⟨hpl,hpg2⟩:=getE hpg
   obtain⟨hql,hqg2⟩:=getE hqg
   have hil:i<n:=by omega
   have hjl:j<n:=by omega
   have hij:¬i=j:=by omega
   have hw2:IntKind.i64.wrap ((i:Int)+1)=(i:Int)+1:=wrap64 (by omega) (by omega)
   have hw3:IntKind.i64.wrap ((n:Int) - 1 - i - 1)=(n:Int) - 1 - (i+1):=by rw [wrap64 (by omega) (by omega)]; omega
   obtain⟨p1,p2⟩:=p
   obtain⟨q1,q2⟩:=q
   have hs:(prow (Q.set i (q1,q2)))[j]? = some [.int .i64 q1,.int .i64 q2]:=prow_get (p:=(q1,q2)) (by rw [List.getElem?_set_ne hij]; exact hq)
   simp [hlt,hj,hj0,hil,hjl,hpg,hpg2,hqg,hqg2,hw2,hw3,prow_set,hs]
   exact hN (i+1,(Q.set i (q1,q2)).set j (p1,p2)) [] _ _ (by simp; omega) ⟨by simp; omega,by simp [hQ]⟩ (by simp)
 · simp [hlt]
   exact endK (hK _ _ ⟨Q,hQ,rfl,rfl⟩) [] (by simp)
theorem c145 (P:List Int) (hl:P.length≤1000) :
 Ctr Tryz.prog 156 [slV 1 (irow P)] ⟨blV 1 1 (irow P) [],2⟩ fun v m=>∃ Q:List Int,Q.length=P.length∧v=.tuple []∧m=⟨blV 1 1 (irow Q) [],2⟩:=by
 refine ctr_P hm Tryz.func156 ch145 rfl rfl fun K hK=>?_
 have hw1:IntKind.i64.wrap ((P.length:Int) - 1)=(P.length:Int) - 1:=wrap64 (by omega) (by omega)
 by_cases h0:P=[]
 · subst h0
   have hw2:IntKind.i64.wrap (-1) = -1:=by decide
   simp
   refine wZ_loop (α:=Unit) (fun _=>[(3,.int .i64 (-1)),(2,.int .i64 0)]) (fun _=>⟨[],2⟩) (fun _=>0) (fun _=>True) () [] (by simp [hw2]) trivial ?_
   intro _ _ N hN
   simp
   exact endK (hK _ _ ⟨[],rfl,rfl,rfl⟩) [] (by simp)
 rw [slV_ne (by simpa using h0),irow_length]
 obtain⟨n,hn⟩:∃ n,P.length=n:=⟨_,rfl⟩
 rw [hn] at hw1 hK hl ⊢
 simp [hw1]
 refine wZ_loop (α:=Nat×List Int) (fun a=>[(3,.int .i64 ((n:Int) - 1 - (a.1:Nat))),(2,.int .i64 a.1),(0,.sl 1 0 n)]) (fun a=>⟨blV 1 1 (irow a.2) [],2⟩) (fun a=>n - a.1) (fun a=>a.1≤n∧a.2.length=n) (0,P) [] (by simp +contextual) ⟨by simp,hn⟩ ?_
 rintro⟨i,Q⟩ ⟨hi,hQ⟩ N hN
 simp only at hi hQ hN ⊢
 by_cases hlt:(i:Int)<(n:Int) - 1 - i
 · have hj:((n:Int) - 1 - i).toNat=n - 1 - i:=by omega
   have hj0:(i:Int)≤(n:Int) - 1:=by omega
   obtain⟨j,hj2⟩:∃ j,n - 1 - i=j:=⟨_,rfl⟩
   rw [hj2] at hj
   obtain⟨p,hp⟩:∃ p,Q[i]? = some p:=⟨_,List.getElem?_eq_getElem (by omega)⟩
   obtain⟨q,hq⟩:∃ q,Q[j]? = some q:=⟨_,List.getElem?_eq_getElem (by omega)⟩
   have hpg:=irow_get hp
   have hqg:=irow_get hq
   obtain⟨hpl,hpg2⟩:=getE hpg
   obtain⟨hql,hqg2⟩:=getE hqg
   have hil:i<n:=by omega
   have hjl:j<n:=by omega
   have hij:¬i=j:=by omega
   have hw2:IntKind.i64.wrap ((i:Int)+1)=(i:Int)+1:=wrap64 (by omega) (by omega)
   have hw3:IntKind.i64.wrap ((n:Int) - 1 - i - 1)=(n:Int) - 1 - (i+1):=by rw [wrap64 (by omega) (by omega)]; omega
   have hs:(irow (Q.set i q))[j]? = some [.int .i64 q]:=irow_get (by rw [List.getElem?_set_ne hij]; exact hq)
   have hQn:Q≠[]:=by intro e; subst e; simp at hQ; omega
   simp [hlt,hj,hj0,hil,hjl,hpg,hpg2,hqg,hqg2,hw2,hw3,irow_set,hs,blV_ne,hQn]
   exact hN (i+1,(Q.set i q).set j p) [] _ _ (by simp; omega) ⟨by simp; omega,by simp [hQ]⟩ (by simp [blV_ne,hQn])
 · simp [hlt]
   exact endK (hK _ _ ⟨Q,hQ,rfl,rfl⟩) [] (by simp +contextual)
set_option maxHeartbeats 2000000 in
theorem c179 (g l g2 l2:Int) (P:List (Int×Int)) (G:List Int) (hg:0≤g) (hg2:g2≤45) (hP:P.length≤1000) (hG:G.length≤1000) :
 Ctr Tryz.prog 188 [.agg [.int .i64 g,.int .i64 l],.agg [.int .i64 g2,.int .i64 l2],slV 1 (prow P),slV 2 (irow G)] ⟨blV 1 2 (prow P) (blV 2 1 (irow G) []),3⟩ fun v m=>∃ (P':List (Int×Int)) (G':List Int),P'≠[]∧P'.length≤P.length+47∧G'.length≤G.length+46 ∧
  v=.tuple [slV 3 (prow P'),slV 4 (irow G')]∧m=⟨blV 3 2 (prow P') (blV 4 1 (irow G') []),5⟩:=by
 refine ctr_P hm Tryz.func188 ch179 rfl rfl fun K hK=>?_
 simp
 refine wZ_loop (α:=Int×Int×List (Int×Int)×List Int) (fun a=>[(5,.ptr 4 0 0),(4,.ptr 3 0 0),(3,slV 6 (irow a.2.2.2)),(2,slV 5 (prow a.2.2.1))])
  (fun a=>⟨(3,.cells 2 [[.int .i64 a.1,.int .i64 a.2.1]]) :: (4,.cells 2 [[.int .i64 g2,.int .i64 l2]]) :: blV 5 2 (prow a.2.2.1) (blV 6 1 (irow a.2.2.2) []),7⟩) (fun a=>(46 - a.1).toNat)
  (fun a=>0≤a.1∧a.2.2.1.length≤P.length+(min a.1 46)∧a.2.2.2.length≤G.length+(min a.1 46)) (g,l,P,G) [(5,1),(6,2)] (by simp +contextual) (by simp; omega) ?_
 rintro⟨x,y,P1,G1⟩ ⟨hx,hP1,hG1⟩ N hN
 simp only at hx hP1 hG1 hN ⊢
 have hb1:P1.length≤1048575:=by omega
 have hb2:G1.length≤1048575:=by omega
 by_cases hlt:x<g2
 · have hw:IntKind.i64.wrap (x+1)=x+1:=wrap64 (by omega) (by omega)
   simp [hlt,hb1,hb2,hw]
   exact hN (x+1,0,P1++[(x,y)],G1++[x+1]) [(5,15),(6,26)] _ _ (by simp; omega) ⟨by simp; omega,by simp; omega,by simp; omega⟩ (by simp +contextual [prow_snoc',irow_snoc'])
 · simp [hlt,hb1]
   exact endK (hK _ _ ⟨P1++[(g2,l2)],G1,by simp,by simp; omega,by omega,rfl,rfl⟩) [(3,15),(4,6)] (by simp +contextual [prow_snoc',irow_snoc'])
set_option maxRecDepth 100000 in
set_option maxHeartbeats 4000000 in
theorem c143 (F:Nat) (ls:List Lt) (E:List Ent) (j:Nat) (h:ls.length≤1000) (hF:F≤40) (hax:∀ v,v∈axis ls→v<ls.length∧0≤(at' ls v).g∧(at' ls v).g≤40) (hj:j<(axis ls).length) :
 Ctr Tryz.prog 154 [.ptr 1 0 0,.int .i64 j] (dF F ls (ls.map rowL) E) fun v m=>∃ P G,P≠[]∧P.length≤100∧G.length≤100∧v=.tuple [slV 7 (prow P),slV 8 (irow G)]∧m=⟨(dF F ls (ls.map rowL) E).bl++blV 7 2 (prow P) (blV 8 1 (irow G) []),9⟩:=by
 refine ctr_P hm Tryz.func154 ch143 rfl rfl fun K hK=>?_
 have hR:=rows_of ls
 unfold dF dM dV2 at *
 have hrr:∀ q,renLL q (ls.map rowL)=ls.map rowL:=fun q=>renLL_closed q _ (closed_rows ls)
 have hml:(axis ls).length≤ls.length:=by rw [axis_length]; exact cntP_le_one
 have hA:∀ i,i<(axis ls).length → ∃ v:Nat,(nums (axis ls))[i]? = some [.int .i64 (v:Int)]∧v<ls.length∧0≤(at' ls v).g∧(at' ls v).g≤40:=fun i hi=>⟨(axis ls)[i],nums_get (List.getElem?_eq_getElem hi),hax _ (List.getElem_mem hi)⟩
 have hAl:(nums (axis ls)).length=(axis ls).length:=len_nums _
 generalize ls.map rowL=rows at *
 generalize hBe:bls (fillN ls.length ls.length (downV ls) false)=B at *
 generalize hCe:nums (fillN ls.length ls.length (placeV ls) 0)=C at *
 generalize hAe:nums (axis ls)=A at *
 have hrA:∀ q,renLL q A=A:=fun q=>by rw [← hAe]; exact ren_nums q _
 have hrB:∀ q,renLL q B=B:=fun q=>by rw [← hBe]; exact ren_bls q _
 have hrC:∀ q,renLL q C=C:=fun q=>by rw [← hCe]; exact ren_nums q _
 have hlen:=hR.len
 clear hBe hCe hAe
 generalize (axis ls).length=m at *
 obtain⟨y,hy⟩:∃ y,(j+1) % m=y:=⟨_,rfl⟩
 have hym:y<m:=by rw [← hy]; exact Nat.mod_lt _ (by omega)
 have hy3:((j:Int)+1).tmod (m:Int)=(y:Int):=by rw [← hy]; rfl
 have hw1:IntKind.i64.wrap ((j:Int)+1)=(j:Int)+1:=wrap64 (by omega) (by omega)
 have hw2:IntKind.i64.wrap ((m:Int) - 1)=(m:Int) - 1:=wrap64 (by omega) (by omega)
 have hm0:¬m=0:=by omega
 obtain⟨v,hAv,hv,hv1,hv2⟩:=hA j hj
 obtain⟨u,hAu,hu,hu1,hu2⟩:=hA y hym
 obtain⟨_,hAv2⟩:=getE hAv
 obtain⟨_,hAu2⟩:=getE hAu
 have hrv:=hR.row v hv
 have hru:=hR.row u hu
 obtain⟨_,hrv2⟩:=getE hrv
 obtain⟨_,hru2⟩:=getE hru
 clear hA
 generalize at' ls v=a at *
 generalize at' ls u=b at *
 generalize hbr:IntKind.i64.wrap (b.r - 1)=br
 by_cases hlt:(j:Int)<(m:Int) - 1
 · simp [hlen,hAl,hw1,hw2,hm0,hy3,hj,hym,hAv,hAv2,hAu,hAu2,hv,hu,hrv,hrv2,hru,hru2,rowL,hlt,hbr]
   refine SC_ctr (c179 a.g a.r b.g br [] [] hv1 (by omega) (by simp) (by simp)) [] (by simp) (by simp) (by simp) ?_
   rintro r sm ⟨P,G,hP,hPl,hGl,rfl,rfl⟩
   simp
   exact endK (hK _ _ ⟨P,G,hP,by simp at hPl; omega,by simp at hGl; omega,rfl,rfl⟩) [(7,76),(8,77)] (by simp +contextual [hrr,hrA,hrB,hrC,ren_mkE,ren_nums])
 · simp [hlen,hAl,hw1,hw2,hm0,hy3,hj,hym,hAv,hAv2,hAu,hAu2,hv,hu,hrv,hrv2,hru,hru2,rowL,hlt,hbr]
   by_cases hgF:a.g=(F:Int)
   · simp [hgF]
     refine SC_ctr (c179 (F:Int) a.r (F:Int) a.r [] [] (by omega) (by omega) (by simp) (by simp)) [] (by simp) (by simp) (by simp) ?_
     rintro r sm ⟨P,G,hP,hPl,hGl,rfl,rfl⟩
     simp at hPl hGl
     simp
     refine SC_ctr (c179 0 0 b.g br P G (by omega) (by omega) (by omega) (by omega)) [(1,95),(2,96)] (by simp) (by simp +contextual) (by simp) ?_
     rintro r sm ⟨P2,G2,hP2,hPl2,hGl2,rfl,rfl⟩
     by_cases hG:G=[]
     · subst hG
       simp [hP,blV_ne]
       exact endK (hK _ _ ⟨P2,G2,hP2,by omega,by simp at hGl2; omega,rfl,rfl⟩) [(7,106),(8,107)] (by simp +contextual [hrr,hrA,hrB,hrC,ren_mkE,ren_nums])
     · simp [hP,hG,blV_ne]
       exact endK (hK _ _ ⟨P2,G2,hP2,by omega,by omega,rfl,rfl⟩) [(7,106),(8,107)] (by simp +contextual [hrr,hrA,hrB,hrC,ren_mkE,ren_nums])
   · simp [hgF]
     refine SC_ctr (c179 a.g a.r (F:Int) 0 [] [] hv1 (by omega) (by simp) (by simp)) [] (by simp) (by simp) (by simp) ?_
     rintro r sm ⟨P,G,hP,hPl,hGl,rfl,rfl⟩
     simp at hPl hGl
     simp
     refine SC_ctr (c179 0 0 b.g br P G (by omega) (by omega) (by omega) (by omega)) [(1,93),(2,94)] (by simp) (by simp +contextual) (by simp) ?_
     rintro r sm ⟨P2,G2,hP2,hPl2,hGl2,rfl,rfl⟩
     by_cases hG:G=[]
     · subst hG
       simp [hP,blV_ne]
       exact endK (hK _ _ ⟨P2,G2,hP2,by omega,by simp at hGl2; omega,rfl,rfl⟩) [(7,104),(8,105)] (by simp +contextual [hrr,hrA,hrB,hrC,ren_mkE,ren_nums])
     · simp [hP,hG,blV_ne]
       exact endK (hK _ _ ⟨P2,G2,hP2,by omega,by omega,rfl,rfl⟩) [(7,104),(8,105)] (by simp +contextual [hrr,hrA,hrB,hrC,ren_mkE,ren_nums])
end Go.Known
end
section
namespace Go.Known
open Go Go.AE Go.Proofs
open Go.Plain
set_option maxHeartbeats 4000000 in
theorem c85 (F:Nat) (ls:List Lt) (E:List Ent) (h:ls.length≤1000) :
 Ctr Tryz.prog 105 [.ptr 1 0 0] (dF F ls (ls.map rowL) E) fun v m=>∃ Bl:List Bool,Bl.length=ls.length∧v=.sl 7 0 ls.length∧m=⟨(dF F ls (ls.map rowL) E).bl++[(7,.cells 1 (bls Bl))],8⟩:=by
 refine ctr_P hm Tryz.func105 ch85 rfl rfl fun K hK=>?_
 have hR:=rows_of ls
 unfold dF dM dV2 at *
 have hrr:∀ q,renLL q (ls.map rowL)=ls.map rowL:=fun q=>renLL_closed q _ (closed_rows ls)
 generalize ls.map rowL=rows at *
 have hBl:(bls (fillN ls.length ls.length (downV ls) false)).length=ls.length:=by rw [bls,List.length_map,fillN_length]
 have hBg:∀ v,v<ls.length→(bls (fillN ls.length ls.length (downV ls) false))[v]? = some [.bool (downV ls v)]:=fun v hv=>bls_get (by rw [fillN_get hv,if_pos hv])
 generalize hBe:bls (fillN ls.length ls.length (downV ls) false)=B at *
 generalize hCe:nums (fillN ls.length ls.length (placeV ls) 0)=C at *
 generalize hAe:nums (axis ls)=A at *
 have hrA:∀ q,renLL q A=A:=fun q=>by rw [← hAe]; exact ren_nums q _
 have hrB:∀ q,renLL q B=B:=fun q=>by rw [← hBe]; exact ren_bls q _
 have hrC:∀ q,renLL q C=C:=fun q=>by rw [← hCe]; exact ren_nums q _
 have hlen:=hR.len
 clear hBe hCe hAe
 generalize (axis ls).length=m at *
 obtain⟨S0,hS0⟩:∃ S0,List.replicate ls.length false=S0:=⟨_,rfl⟩
 have e1:List.replicate ls.length [AVal.bool false]=bls S0:=by rw [← hS0,bls_rep]
 have hS0l:S0.length=ls.length:=by rw [← hS0]; simp
 have hr:ls.length≤1048576:=by omega
 simp [hlen,e1,hr]
 refine wZ_loop (α:=Nat×Bool×List Bool) (fun a=>[(20,.int .i64 a.1),(19,.int .i64 ls.length),(18,.imm rows),(4,.bool a.2.1),(3,.sl 7 0 ls.length),(0,.ptr 1 0 0)])
  (fun a=>⟨[(1,.cells 7 [[.int .i64 (F:Int),.imm rows,.sl 3 0 ls.length,.sl 5 0 m,.sl 4 0 ls.length,.map 6,.sl 2 0 (F+1)]]),(2,.cells 1 (nums (cnts F ls))),(3,.cells 1 B),(4,.cells 1 C),(5,.cells 1 A),(6,.map (mkE 0 E) E.length),(7,.cells 1 (bls a.2.2))],8⟩)
  (fun a=>ls.length - a.1) (fun a=>a.1≤ls.length∧a.2.2.length=ls.length) (0,false,S0) [(7,14)] (by simp [hrr,hrA,hrB,hrC,ren_mkE,ren_nums,ren_bls]) ⟨by simp,hS0l⟩ ?_
 rintro⟨i,u,S⟩ ⟨hi,hS⟩ N hN
 simp only at hi hS hN ⊢
 by_cases hlt:i<ls.length
 · have hrow:=hR.row i hlt
   obtain⟨_,hrow2⟩:=getE hrow
   have hw:IntKind.i64.wrap ((i:Int)+1)=(i:Int)+1:=wrap64 (by omega) (by omega)
   have hb:=hBg i hlt
   obtain⟨_,hb2⟩:=getE hb
   obtain⟨y,hy⟩:∃ y,S[i]? = some y:=⟨_,List.getElem?_eq_getElem (by omega)⟩
   have hyg:=bls_get hy
   obtain⟨hyl,hyg2⟩:=getE hyg
   by_cases hk:(at' ls i).k=1
   · have hset:=bls_set S i (downV ls i)
     have hS1:(S.set i (downV ls i)).length=ls.length:=by simpa using hS
     generalize S.set i (downV ls i)=S1 at *
     simp [hlen,hlt,hrow,hrow2,rowL,hk,hb,hb2,hw,hyg,hyg2,hset]
     exact hN (i+1,downV ls i,S1) [] _ _ (by simp; omega) ⟨by simp; omega,hS1⟩ (by simp [hrr,hrA,hrB,hrC,ren_mkE,ren_nums,ren_bls])
   · have hset:=bls_set S i u
     have hS1:(S.set i u).length=ls.length:=by simpa using hS
     generalize S.set i u=S1 at *
     simp [hlen,hlt,hrow,hrow2,rowL,hk,hw,hyg,hyg2,hset]
     exact hN (i+1,u,S1) [] _ _ (by simp; omega) ⟨by simp; omega,hS1⟩ (by simp [hrr,hrA,hrB,hrC,ren_mkE,ren_nums,ren_bls])
 · simp [hlt]
   exact endK (hK _ _ ⟨S,hS,rfl,rfl⟩) [] (by simp [hrr,hrA,hrB,hrC,ren_mkE,ren_nums,ren_bls])
set_option maxRecDepth 100000 in
set_option maxHeartbeats 16000000 in
theorem c86 (F:Nat) (ls:List Lt) (E:List Ent) (hF:F≤40) (hg:Filled ls E) (hT:∀ d,d<2*ls.length+2*(axis ls).length→turnN ls (axis ls) d<2*ls.length+2*(axis ls).length)
 (hTa:∀ d,2*ls.length≤d→d<2*ls.length+2*(axis ls).length→turnN ls (axis ls) d<2*ls.length)
 (hax:∀ v,v∈axis ls→v<ls.length∧0≤(at' ls v).g∧(at' ls v).g≤40) (d:Nat) (hd:d<2*ls.length) (sn0 Bl:List Bool) (hs0:sn0.length=2*ls.length) (hB0:Bl.length=ls.length) :
 Ctr Tryz.prog 106 [.ptr 1 0 0,.int .i64 d,.sl 7 0 (2*ls.length),.sl 8 0 ls.length] ⟨(dF F ls (ls.map rowL) E).bl++[(7,.cells 1 (bls sn0)),(8,.cells 1 (bls Bl))],9⟩ fun v m=>
  ∃(ab o:Bool) (P:List (Int×Int)) (G:List Int),((tr2 (turnN ls (axis ls)) (2*ls.length) (2*(2*ls.length)+2) sn0 d).2=true↔P≠[]) ∧
   v=.agg [.bool ab,slV 9 (nums (tr2 (turnN ls (axis ls)) (2*ls.length) (2*(2*ls.length)+2) sn0 d).1),slV 10 (prow P),slV 11 (irow G),.bool o] ∧
   m=⟨(dF F ls (ls.map rowL) E).bl++(7,.cells 1 (bls (mk2 (turnN ls (axis ls)) (2*ls.length) (2*(2*ls.length)+2) sn0 d))) :: (8,.cells 1 (bls Bl)) :: blV 9 1 (nums (tr2 (turnN ls (axis ls)) (2*ls.length) (2*(2*ls.length)+2) sn0 d).1) (blV 10 2 (prow P) (blV 11 1 (irow G) [])),12⟩:=by
 refine ctr_P hm Tryz.func106 ch86 rfl rfl fun K hK=>?_
 have hR:=rows_of ls
 have h:=hg.small
 have h105:=fun d hd=>c105 F ls E hg d hd
 have h143:=fun j hj=>c143 F ls E j h hF hax hj
 unfold dF dM dV2 at *
 have hrr:∀ q,renLL q (ls.map rowL)=ls.map rowL:=fun q=>renLL_closed q _ (closed_rows ls)
 have hml:(axis ls).length≤ls.length:=by rw [axis_length]; exact cntP_le_one
 generalize ls.map rowL=rows at *
 have hAl:(nums (axis ls)).length=(axis ls).length:=len_nums _
 generalize hBe:bls (fillN ls.length ls.length (downV ls) false)=B at *
 generalize hCe:nums (fillN ls.length ls.length (placeV ls) 0)=C at *
 generalize hAe:nums (axis ls)=A at *
 have hrA:∀ q,renLL q A=A:=fun q=>by rw [← hAe]; exact ren_nums q _
 have hrB:∀ q,renLL q B=B:=fun q=>by rw [← hBe]; exact ren_bls q _
 have hrC:∀ q,renLL q C=C:=fun q=>by rw [← hCe]; exact ren_nums q _
 have hlen:=hR.len
 clear hBe hCe hAe
 generalize turnN ls (axis ls)=T at *
 generalize (axis ls).length=m at *
 obtain⟨n2,hn2⟩:∃ n2,2*ls.length=n2:=⟨_,rfl⟩
 have hw1:IntKind.i64.wrap (2*(ls.length:Int))=(n2:Int):=by rw [wrap64 (by omega) (by omega)]; omega
 rw [hn2] at hT hTa hd hs0 h105 ⊢
 simp only [hn2] at hK
 obtain⟨e,he⟩:∃ e,d / 2=e:=⟨_,rfl⟩
 have hwd:IntKind.i64.wrap ((d:Int) / 2)=(e:Int):=by rw [wrap64 (by omega) (by omega)]; omega
 have hel:e<ls.length:=by omega
 obtain⟨ab,hab⟩:∃ ab,Bl[e]? = some ab:=⟨_,List.getElem?_eq_getElem (by omega)⟩
 have habg:=bls_get hab
 obtain⟨_,habg2⟩:=getE habg
 have hrl:∀ q,renLL q (bls Bl)=bls Bl:=fun q=>ren_bls q Bl
 generalize bls Bl=BR at *
 simp [hlen,hAl,hwd,hel,habg,habg2]
 obtain⟨W0,hW0⟩:∃ W0,tr2 T n2 (2*n2+2) sn0 d=W0:=⟨_,rfl⟩
 obtain⟨M0,hM0⟩:∃ M0,mk2 T n2 (2*n2+2) sn0 d=M0:=⟨_,rfl⟩
 simp only [hW0,hM0] at hK
 generalize (!ab)=nb at *
 have hul:=unseen_le (l:=sn0)
 refine wZ_loop (α:=Nat×List Bool×List Nat×List (Int×Int)×List Int×Bool×Nat) (fun a=>[(12,.int .i64 a.1),(11,.ptr 10 0 0),(10,.int .i64 m),(9,.int .i64 ls.length),(8,.ptr 9 0 0),(2,.sl 7 0 n2),(0,.ptr 1 0 0)])
  (fun a=>⟨(1,.cells 7 [[.int .i64 (F:Int),.imm rows,.sl 3 0 ls.length,.sl 5 0 m,.sl 4 0 ls.length,.map 6,.sl 2 0 (F+1)]]) :: (2,.cells 1 (nums (cnts F ls))) :: (3,.cells 1 B) :: (4,.cells 1 C) :: (5,.cells 1 A) :: (6,.map (mkE 0 E) E.length) :: (7,.cells 1 (bls a.2.1)) :: (8,.cells 1 BR) ::
    (9,.cells 5 [[.bool false,.nilSl,.nilSl,.nilSl,.bool false]]) :: (10,.cells 5 [[.bool nb,slV 11 (nums a.2.2.1),slV 12 (prow a.2.2.2.1),slV 13 (irow a.2.2.2.2.1),.bool a.2.2.2.2.2.1]]) :: blV 11 1 (nums a.2.2.1) (blV 12 2 (prow a.2.2.2.1) (blV 13 1 (irow a.2.2.2.2.1) [])),14⟩)
  (fun a=>a.2.2.2.2.2.2) (fun a=>a.1<n2+2*m∧a.2.1.length=n2∧a.2.2.2.2.2.2≤2*n2+2∧2*unseen a.2.1+(if n2≤a.1 then 1 else 0)<a.2.2.2.2.2.2∧a.2.2.1.length≤2*n2+2 - a.2.2.2.2.2.2∧a.2.2.2.1.length≤100*(2*n2+2 - a.2.2.2.2.2.2)∧a.2.2.2.2.1.length≤100*(2*n2+2 - a.2.2.2.2.2.2) ∧
    W0.1=a.2.2.1++(tr2 T n2 a.2.2.2.2.2.2 a.2.1 a.1).1∧(W0.2=true↔(a.2.2.2.1≠[]∨(tr2 T n2 a.2.2.2.2.2.2 a.2.1 a.1).2=true))∧M0=mk2 T n2 a.2.2.2.2.2.2 a.2.1 a.1)
  (d,sn0,[],[],[],false,2*n2+2) [(10,30)] (by simp [hrr,hrA,hrB,hrC,hrl,ren_mkE,ren_nums,ren_bls]) ⟨by simp; omega,hs0,by simp,by simp only; rw [if_neg (by omega)]; omega,by simp,by simp,by simp,by simp [hW0],by simp [hW0],hM0.symm⟩ ?_
 rintro⟨x,sn,D,P,G,o,fu⟩ ⟨hx,hsn,hfu,hun,hD,hP,hG,htr,hme,hmk⟩ N hN
 simp only at hx hsn hfu hun hD hP hG htr hme hmk hN ⊢
 obtain⟨fu',rfl⟩:∃ fu',fu=fu'+1:=⟨fu - 1,by omega⟩
 have hwx:IntKind.i64.wrap (2*(ls.length:Int))=(n2:Int):=hw1
 have h105':=h105 x hx
 by_cases hxs:x<n2
 · have hxs':(x:Int)<(n2:Int):=by omega
   obtain⟨b2,hb2⟩:∃ b2,sn[x]? = some b2:=⟨_,List.getElem?_eq_getElem (by omega)⟩
   have hb2g:=bls_get hb2
   have hb2l:(bls sn).length=n2:=by rw [bls,List.length_map,hsn]
   obtain⟨_,hb2g2⟩:=getE hb2g
   simp only [tr2,mk2,if_pos hxs,getD_eq hb2] at htr hme hmk
   cases b2 with
   | true=>
    simp only [if_true,List.append_nil,Bool.false_eq_true,or_false] at htr hme hmk
    generalize hSe:bls sn=S at *
    simp [hw1,hxs,hb2g,hb2g2,hb2l]
    rw [htr,hmk] at hK
    exact endK (hK _ _ ⟨nb,o,P,G,hme,rfl,rfl⟩) [(9,11),(10,12),(11,13)] (by simp +contextual [hrr,hrA,hrB,hrC,hrl,ren_mkE,ren_nums,ren_bls,← hSe])
   | false=>
    simp only [Bool.false_eq_true,if_false] at htr hme hmk
    have hset:=bls_set sn x true
    have hun2:=unseen_set hb2
    have hsn1:(sn.set x true).length=n2:=by simpa using hsn
    have hDb:D.length≤1048575:=by omega
    generalize sn.set x true=sn1 at *
    generalize hSe:bls sn=S at *
    simp [hw1,hxs,hb2g,hb2g2,hb2l,hset,hDb]
    refine SC_ctr h105' [] (by simp) (by simp [hrr,hrA,hrB,hrC,ren_mkE,ren_nums]) (by simp) ?_
    rintro r sm ⟨rfl,rfl⟩
    simp [hrr,hrA,hrB,hrC,ren_mkE,ren_nums]
    have hif:(if n2≤x then 1 else 0)=0:=if_neg (by omega)
    refine hN (T x,sn1,D++[x],P,G,o,fu') [(11,30)] _ _ (by simp) ⟨hT x hx,hsn1,by simp; omega,by simp only; split<;>omega,by simp; omega,by simp; omega,by simp; omega,by simp [htr],hme,hmk⟩ (by simp +contextual [hrr,hrA,hrB,hrC,hrl,ren_mkE,ren_nums,ren_bls])
 · have hxs':¬(x:Int)<(n2:Int):=by omega
   simp only [tr2,mk2,if_neg hxs] at htr hme hmk
   obtain⟨z,hz⟩:∃ z,x - n2=z:=⟨_,rfl⟩
   obtain⟨j,hj⟩:∃ j,z / 2=j:=⟨_,rfl⟩
   have hwz:IntKind.i64.wrap ((x:Int) - (n2:Int))=(z:Int):=by rw [wrap64 (by omega) (by omega)]; omega
   have hwj:IntKind.i64.wrap ((z:Int) / 2)=(j:Int):=by rw [wrap64 (by omega) (by omega)]; omega
   simp [hw1,hxs,hwz,hwj]
   refine SC_ctr (h143 j (by omega)) [] (by simp) (by simp [hrr,hrA,hrB,hrC,ren_mkE,ren_nums]) (by simp) ?_
   rintro r sm ⟨P2,G2,hP2,hPl2,hGl2,rfl,rfl⟩
   simp [hrr,hrA,hrB,hrC,ren_mkE,ren_nums,slV_ne,blV_ne,hP2]
   have htm:(x:Int).tmod 2=((x % 2:Nat):Int):=rfl
   have hb1:P.length+P2.length≤1048576:=by omega
   have hb2:G.length+G2.length≤1048576:=by omega
   have hTx:=hTa x (by omega) hx
   have fin:∀ (Q:List (Int×Int)) (H:List Int) (b:Bool) (l:List (Nat×Nat)) (e:Env) (mm:SMem),Q≠[]→Q.length≤100→H.length≤100 →
    SubR 9 l [(12,.int .i64 (T x)),(11,.ptr 10 0 0),(10,.int .i64 m),(9,.int .i64 ls.length),(8,.ptr 9 0 0),(2,.sl 7 0 n2),(0,.ptr 1 0 0)]
     ⟨(1,.cells 7 [[.int .i64 (F:Int),.imm rows,.sl 3 0 ls.length,.sl 5 0 m,.sl 4 0 ls.length,.map 6,.sl 2 0 (F+1)]]) :: (2,.cells 1 (nums (cnts F ls))) :: (3,.cells 1 B) :: (4,.cells 1 C) :: (5,.cells 1 A) :: (6,.map (mkE 0 E) E.length) :: (7,.cells 1 (bls sn)) :: (8,.cells 1 BR) ::
      (9,.cells 5 [[.bool false,.nilSl,.nilSl,.nilSl,.bool false]]) :: (10,.cells 5 [[.bool nb,slV 11 (nums D),slV 12 (prow P++prow Q),slV 13 (irow G++irow H),.bool b]]) :: blV 11 1 (nums D) (blV 12 2 (prow P++prow Q) (blV 13 1 (irow G++irow H) [])),14⟩ e mm→N e mm:=by
    intro Q H b l e mm q1 q2 q3 hs
    refine hN (T x,sn,D,P++Q,G++H,b,fu') l _ _ (by simp) ⟨by simp only; omega,hsn,by simp; omega,by simp only; rw [if_neg (by omega)]; rw [if_pos (by omega)] at hun; omega,by simp; omega,by simp; omega,by simp; omega,htr,?_,hmk⟩ ?_
    · simp only [or_true,iff_true] at hme
      simp [hme,q1]
    · simp only [prow_app,irow_app] at hs
      exact hs
   clear hN
   obtain⟨lb,hlb⟩:∃ lb,decide ((j:Int)=IntKind.i64.wrap ((m:Int) - 1))=lb:=⟨_,rfl⟩
   have h144:=c144 P2 (by omega) hP2
   have h145:=c145 G2 (by omega)
   by_cases hpar:x % 2=1
   · simp [htm,hpar]
     refine SC_ctr h144 [(1,32)] (by simp) (by simp) (by simp) ?_
     rintro r sm ⟨Q,hQ,rfl,rfl⟩
     have hQn:Q≠[]:=by intro e; subst e; exact hP2 (List.length_eq_zero_iff.1 hQ.symm)
     have hb1':P.length+Q.length≤1048576:=by omega
     simp
     refine SC_ctr h145 [(1,33)] (by simp) (by simp +contextual) (by simp) ?_
     rintro r sm ⟨H,hH,rfl,rfl⟩
     have hb2':G.length+H.length≤1048576:=by omega
     by_cases hG2:G2=[]
     · subst hG2
       have hHn:H=[]:=List.length_eq_zero_iff.1 (by simpa using hH)
       subst hHn
       cases o<;>simp [hb1',hlb,← hQ,hQn]
       · refine SC_ctr h105' [] (by simp) (by simp [hrr,hrA,hrB,hrC,ren_mkE,ren_nums]) (by simp) ?_
         rintro r sm ⟨rfl,rfl⟩
         simp [hrr,hrA,hrB,hrC,ren_mkE,ren_nums]
         exact fin Q [] lb [(12,44)] _ _ hQn (by omega) (by simp) (by simp +contextual [hrr,hrA,hrB,hrC,hrl,ren_mkE,ren_nums,ren_bls,slV_ne,blV_ne,hQn])
       · refine SC_ctr h105' [] (by simp) (by simp [hrr,hrA,hrB,hrC,ren_mkE,ren_nums]) (by simp) ?_
         rintro r sm ⟨rfl,rfl⟩
         simp [hrr,hrA,hrB,hrC,ren_mkE,ren_nums]
         exact fin Q [] true [(12,44)] _ _ hQn (by omega) (by simp) (by simp +contextual [hrr,hrA,hrB,hrC,hrl,ren_mkE,ren_nums,ren_bls,slV_ne,blV_ne,hQn])
     · have hHn:H≠[]:=by intro e; subst e; exact hG2 (List.length_eq_zero_iff.1 (by simpa using hH.symm))
       cases o<;>simp [hb1',hb2',hlb,hG2,hHn,← hQ,hQn,slV_ne,blV_ne,← hH]
       · refine SC_ctr h105' [] (by simp) (by simp [hrr,hrA,hrB,hrC,ren_mkE,ren_nums]) (by simp) ?_
         rintro r sm ⟨rfl,rfl⟩
         simp [hrr,hrA,hrB,hrC,ren_mkE,ren_nums]
         exact fin Q H lb [(12,44),(13,48)] _ _ hQn (by omega) (by omega) (by simp +contextual [hrr,hrA,hrB,hrC,hrl,ren_mkE,ren_nums,ren_bls,slV_ne,blV_ne,hQn,hHn])
       · refine SC_ctr h105' [] (by simp) (by simp [hrr,hrA,hrB,hrC,ren_mkE,ren_nums]) (by simp) ?_
         rintro r sm ⟨rfl,rfl⟩
         simp [hrr,hrA,hrB,hrC,ren_mkE,ren_nums]
         exact fin Q H true [(12,44),(13,48)] _ _ hQn (by omega) (by omega) (by simp +contextual [hrr,hrA,hrB,hrC,hrl,ren_mkE,ren_nums,ren_bls,slV_ne,blV_ne,hQn,hHn])
   · have hpar':¬(((x % 2:Nat):Int)=1):=by omega
     generalize x % 2=y at *
     simp [htm,hpar']
     by_cases hG2:G2=[]
     · subst hG2
       cases o<;>simp [hb1,hlb,hP2]
       · refine SC_ctr h105' [] (by simp) (by simp [hrr,hrA,hrB,hrC,ren_mkE,ren_nums]) (by simp) ?_
         rintro r sm ⟨rfl,rfl⟩
         simp [hrr,hrA,hrB,hrC,ren_mkE,ren_nums]
         exact fin P2 [] lb [(12,40)] _ _ hP2 hPl2 (by simp) (by simp +contextual [hrr,hrA,hrB,hrC,hrl,ren_mkE,ren_nums,ren_bls,slV_ne,blV_ne,hP2])
       · refine SC_ctr h105' [] (by simp) (by simp [hrr,hrA,hrB,hrC,ren_mkE,ren_nums]) (by simp) ?_
         rintro r sm ⟨rfl,rfl⟩
         simp [hrr,hrA,hrB,hrC,ren_mkE,ren_nums]
         exact fin P2 [] true [(12,40)] _ _ hP2 hPl2 (by simp) (by simp +contextual [hrr,hrA,hrB,hrC,hrl,ren_mkE,ren_nums,ren_bls,slV_ne,blV_ne,hP2])
     · cases o<;>simp [hb1,hb2,hlb,hP2,hG2]
       · refine SC_ctr h105' [] (by simp) (by simp [hrr,hrA,hrB,hrC,ren_mkE,ren_nums]) (by simp) ?_
         rintro r sm ⟨rfl,rfl⟩
         simp [hrr,hrA,hrB,hrC,ren_mkE,ren_nums]
         exact fin P2 G2 lb [(12,40),(13,44)] _ _ hP2 hPl2 hGl2 (by simp +contextual [hrr,hrA,hrB,hrC,hrl,ren_mkE,ren_nums,ren_bls,slV_ne,blV_ne,hP2,hG2])
       · refine SC_ctr h105' [] (by simp) (by simp [hrr,hrA,hrB,hrC,ren_mkE,ren_nums]) (by simp) ?_
         rintro r sm ⟨rfl,rfl⟩
         simp [hrr,hrA,hrB,hrC,ren_mkE,ren_nums]
         exact fin P2 G2 true [(12,40),(13,44)] _ _ hP2 hPl2 hGl2 (by simp +contextual [hrr,hrA,hrB,hrC,hrl,ren_mkE,ren_nums,ren_bls,slV_ne,blV_ne,hP2,hG2])
end Go.Known
end
section
namespace Go.Known
open Go Go.AE Go.Proofs
open Go.Plain
theorem fz_agg {get:Nat→Option ABlk} {S:List Nat} {cs ds:List AVal} (h:mapO (freezeV (onlyG get S) 4) cs=some ds):fzV get S (.agg cs)=.agg ds:=by
 unfold fzV
 rw [freezeV]
 simp only [h]
theorem c86f (F:Nat) (ls:List Lt) (E:List Ent) (hF:F≤40) (hg:Filled ls E) (hT:∀ d,d<2*ls.length+2*(axis ls).length→turnN ls (axis ls) d<2*ls.length+2*(axis ls).length)
 (hTa:∀ d,2*ls.length≤d→d<2*ls.length+2*(axis ls).length→turnN ls (axis ls) d<2*ls.length)
 (hax:∀ v,v∈axis ls→v<ls.length∧0≤(at' ls v).g∧(at' ls v).g≤40) (d:Nat) (hd:d<2*ls.length) (sn0 Bl:List Bool) (hs0:sn0.length=2*ls.length) (hB0:Bl.length=ls.length) :
 Ctr Tryz.prog 106 [.ptr 1 0 0,.int .i64 d,.sl 7 0 (2*ls.length),.sl 8 0 ls.length] ⟨(dF F ls (ls.map rowL) E).bl++[(7,.cells 1 (bls sn0)),(8,.cells 1 (bls Bl))],9⟩ fun v m=>
  ∃ row,FRow (tr2 (turnN ls (axis ls)) (2*ls.length) (2*(2*ls.length)+2) sn0 d) row∧row.length=5∧v=.agg row ∧
   m=⟨(dF F ls (ls.map rowL) E).bl++[(7,.cells 1 (bls (mk2 (turnN ls (axis ls)) (2*ls.length) (2*(2*ls.length)+2) sn0 d))),(8,.cells 1 (bls Bl))],12⟩:=by
 refine(c86 F ls E hF hg hT hTa hax d hd sn0 Bl hs0 hB0).freeze fun r sm=>?_
 rintro⟨ab,o,P,G,h1,rfl,rfl⟩
 generalize tr2 (turnN ls (axis ls)) (2*ls.length) (2*(2*ls.length)+2) sn0 d=W at *
 generalize mk2 (turnN ls (axis ls)) (2*ls.length) (2*(2*ls.length)+2) sn0 d=M at *
 refine⟨[9,10,11],[.bool ab,imV (nums W.1),imV (prow P),imV (irow G),.bool o],⟨ab,o,P,G,rfl,h1⟩,rfl,?_,by simp [dF,dM,dV2]⟩
 apply fz_agg
 rw [mapO,mapO,mapO,mapO,mapO,mapO]
 rw [frz_slV (k:=1) (by simp [onlyG,dF,dM,dV2]) (scal_nums W.1),frz_slV (k:=2) (by simp [onlyG,dF,dM,dV2]) (scal_prow P),frz_slV (k:=1) (by simp [onlyG,dF,dM,dV2]) (scal_irow G)]
 rfl
theorem FRow.one {w:List Nat×Bool} {row:List AVal} (h:FRow w row):∀ x,x∈row→x.one=true:=by
 obtain⟨ab,o,P,G,rfl,_⟩:=h
 have hi:∀ rows:List (List AVal),(imV rows).one=true:=fun rows=>by unfold imV; split<;>rfl
 intro x hx
 simp only [List.mem_cons,List.not_mem_nil,or_false] at hx
 rcases hx with rfl | rfl | rfl | rfl | rfl<;>first | rfl | exact hi _
theorem fcs_seen {T:Nat→Nat} {N d:Nat} {seen:List Bool} (hd:d<N) (h:seen[d]? = some true):fcs T N (N - d) seen=fcs T N (N - (d+1)) seen:=by
 obtain⟨k,hk⟩:∃ k,N - d=k+1:=⟨N - d - 1,by omega⟩
 rw [hk,fcs,show N - (k+1)=d by omega,getD_eq h,if_pos rfl]
 congr 1; omega
theorem fcs_new {T:Nat→Nat} {N d:Nat} {seen:List Bool} (hd:d<N) (h:seen[d]? = some false):fcs T N (N - d) seen=tr2 T N (2*N+2) seen d :: fcs T N (N - (d+1)) (mk2 T N (2*N+2) seen d):=by
 obtain⟨k,hk⟩:∃ k,N - d=k+1:=⟨N - d - 1,by omega⟩
 rw [hk,fcs,show N - (k+1)=d by omega,getD_eq h,if_neg (by simp)]
 congr 2; omega
theorem mk2_length (T:Nat→Nat) (n:Nat):∀ (k:Nat) (seen:List Bool) (x:Nat),(mk2 T n k seen x).length=seen.length
 | 0,_,_=>rfl
 | k+1,seen,x=>by
  simp only [mk2]
  split
  · split
    · rfl
    · rw [mk2_length T n k]; simp
  · exact mk2_length T n k seen _
theorem faces2_ne {T:Nat→Nat} {n:Nat} (h:0<n):faces2 T n≠[]:=by
 obtain⟨k,rfl⟩:∃ k,n=k+1:=⟨n - 1,by omega⟩
 unfold faces2
 rw [fcs,if_neg]
 · simp
 · rw [List.getD_eq_getElem?_getD,List.getElem?_replicate,if_pos (by omega)]; simp
set_option maxRecDepth 100000 in
set_option maxHeartbeats 16000000 in
theorem c29 (f:Int) (ls:List Lt) (h:ls.length≤1000) (he:errC f ls=0) (h0:ls≠[]) (hT:∀ d,d<2*ls.length+2*(axis ls).length→turnN ls (axis ls) d<2*ls.length+2*(axis ls).length)
 (hTa:∀ d,2*ls.length≤d→d<2*ls.length+2*(axis ls).length→turnN ls (axis ls) d<2*ls.length)
 (hax:∀ v,v∈axis ls→v<ls.length∧0≤(at' ls v).g∧(at' ls v).g≤40) (hg:Filled ls (crE ls ls.length)) :
 Ctr Tryz.prog 59 [cV f ls] ⟨[],1⟩ fun v m=>∃ rows,RowsF (faces2 (turnN ls (axis ls)) (2*ls.length)) rows∧v=.tuple [.sl 1 0 rows.length,.int .i64 0]∧m=⟨[(1,.cells 5 rows)],2⟩:=by
 refine ctr_P hm Tryz.func59 cf29 rfl rfl fun K hK=>?_
 have hR:=rows_of ls
 have h59:=c59 f ls h
 have h85:=fun F=>c85 F ls (crE ls ls.length) h
 have h86:=fun F hF=>c86f F ls (crE ls ls.length) hF hg hT hTa hax
 unfold cV dF dM dV2 at *
 have hrr:∀ q,renLL q (ls.map rowL)=ls.map rowL:=fun q=>renLL_closed q _ (closed_rows ls)
 generalize ls.map rowL=rows at *
 generalize hBe:bls (fillN ls.length ls.length (downV ls) false)=B at *
 generalize hCe:nums (fillN ls.length ls.length (placeV ls) 0)=C at *
 generalize hAe:nums (axis ls)=A at *
 have hrA:∀ q,renLL q A=A:=fun q=>by rw [← hAe]; exact ren_nums q _
 have hrB:∀ q,renLL q B=B:=fun q=>by rw [← hBe]; exact ren_bls q _
 have hrC:∀ q,renLL q C=C:=fun q=>by rw [← hCe]; exact ren_nums q _
 have hlen:=hR.len
 have hlp:0<ls.length:=List.length_pos_iff.2 h0
 clear hBe hCe hAe
 generalize turnN ls (axis ls)=T at *
 generalize (axis ls).length=m at *
 generalize crE ls ls.length=E at *
 obtain⟨n2,hn2⟩:∃ n2,2*ls.length=n2:=⟨_,rfl⟩
 have hw1:IntKind.i64.wrap (2*(ls.length:Int))=(n2:Int):=by rw [wrap64 (by omega) (by omega)]; omega
 simp only [hn2] at hK h86
 simp
 refine SC_ctr h59 [] (by simp [hrr]) (by simp) (by simp) ?_
 rintro r sm (⟨h1,_⟩ | ⟨_,h1,_⟩ | ⟨_,_,hf0,hf1,_,rfl,rfl⟩)
 · exact absurd he h1
 · exact absurd h1 h0
 obtain⟨F,hF⟩:∃ F:Nat,f=(F:Int):=⟨f.toNat,by omega⟩
 subst hF
 obtain⟨S0,hS0⟩:∃ S0,List.replicate n2 false=S0:=⟨_,rfl⟩
 have e1:List.replicate n2 [AVal.bool false]=bls S0:=by rw [← hS0,bls_rep]
 have hS0l:S0.length=n2:=by rw [← hS0]; simp
 have hn2r:n2≤1048576:=by omega
 have h86':=h86 F (by omega)
 simp [hrr,hrA,hrB,hrC,ren_mkE,ren_nums,hlen,hw1,e1,hn2r]
 refine SC_ctr (h85 F) [(1,11),(2,12),(3,13),(4,14),(5,15),(6,16)] (by simp) (by simp [hrr,hrA,hrB,hrC,ren_mkE,ren_nums]) (by simp) ?_
 rintro r sm ⟨Bl,hBl,rfl,rfl⟩
 simp [hrr,hrA,hrB,hrC,ren_mkE,ren_nums,ren_bls]
 have hfn:=faces2_ne (T:=T) (n:=n2) (by omega)
 refine wZ_loop (α:=Nat×List Bool×List (List Nat×Bool)×List (List AVal)) (fun a=>[(30,.int .i64 a.1),(29,.int .i64 n2),(8,.sl 8 0 ls.length),(7,.sl 7 0 n2),(6,slV 9 a.2.2.2),(4,.ptr 1 0 0)])
  (fun a=>⟨(1,.cells 7 [[.int .i64 (F:Int),.imm rows,.sl 3 0 ls.length,.sl 5 0 m,.sl 4 0 ls.length,.map 6,.sl 2 0 (F+1)]]) :: (2,.cells 1 (nums (cnts F ls))) :: (3,.cells 1 B) :: (4,.cells 1 C) :: (5,.cells 1 A) :: (6,.map (mkE 0 E) E.length) :: (7,.cells 1 (bls a.2.1)) :: (8,.cells 1 (bls Bl)) :: blV 9 5 a.2.2.2 [],10⟩)
  (fun a=>n2 - a.1) (fun a=>a.1≤n2∧a.2.1.length=n2∧RowsF a.2.2.1 a.2.2.2∧a.2.2.1.length≤a.1∧a.2.2.1++fcs T n2 (n2 - a.1) a.2.1=faces2 T n2) (0,S0,[],[]) [(1,11),(2,12),(3,13),(4,14),(5,15),(6,16),(7,27),(8,32)]
  (by simp [hrr,hrA,hrB,hrC,ren_mkE,ren_nums,ren_bls]) ⟨by simp,hS0l,RowsF.nil,by simp,by simp [faces2,hS0]⟩ ?_
 rintro⟨x,sn,L0,O⟩ ⟨hx,hsn,hO,hLl,hfc⟩ N hN
 simp only at hx hsn hO hLl hfc hN ⊢
 have hOc:∀ q,renLL q O=O:=fun q=>renLL_closed q _ hO.closed
 have hOl:O.length≤1048575:=by rw [hO.1]; omega
 by_cases hlt:x<n2
 · have hwx:IntKind.i64.wrap ((x:Int)+1)=(x:Int)+1:=wrap64 (by omega) (by omega)
   obtain⟨b,hb⟩:∃ b,sn[x]? = some b:=⟨_,List.getElem?_eq_getElem (by omega)⟩
   have hbg:=bls_get hb
   have hbl:(bls sn).length=n2:=by rw [bls,List.length_map,hsn]
   obtain⟨_,hbg2⟩:=getE hbg
   cases b with
   | true=>
    rw [fcs_seen hlt hb] at hfc
    generalize hSe:bls sn=S at *
    simp [hlt,hbg,hbg2,hbl,hwx]
    exact hN (x+1,sn,L0,O) [] _ _ (by simp; omega) ⟨by simp; omega,hsn,hO,by simp; omega,hfc⟩ (by simp +contextual [hrr,hrA,hrB,hrC,ren_mkE,ren_nums,ren_bls,← hSe,hOc])
   | false=>
    rw [fcs_new hlt hb] at hfc
    have h86x:=h86' x hlt sn Bl hsn hBl
    have hml2:=mk2_length T n2 (2*n2+2) sn x
    generalize tr2 T n2 (2*n2+2) sn x=W at *
    generalize mk2 T n2 (2*n2+2) sn x=M at *
    have hrs:∀ q,renLL q (bls sn)=bls sn:=fun q=>ren_bls q sn
    generalize hSe:bls sn=S at *
    simp [hlt,hbg,hbg2,hbl]
    refine SC_ctr h86x [] (by simp) (by simp [hrr,hrA,hrB,hrC,ren_mkE,ren_nums,ren_bls,hrs]) (by simp) ?_
    rintro r sm ⟨row,hrow,hr5,rfl,rfl⟩
    have hrc:∀ q,renL q row=row:=fun q=>renL_closed q _ hrow.closed
    have hone:=hrow.one
    simp +contextual [hrr,hrA,hrB,hrC,ren_mkE,ren_nums,ren_bls,hrc,hr5,hone,hOl,hwx]
    exact hN (x+1,M,L0++[W],O++[row]) [(9,25)] _ _ (by simp; omega) ⟨by simp; omega,by simp only; omega,hO.snoc hrow,by simp; omega,by simpa using hfc⟩ (by simp +contextual [hrr,hrA,hrB,hrC,ren_mkE,ren_nums,ren_bls,hOc,hrc])
 · have hxe:x=n2:=by omega
   subst hxe
   rw [Nat.sub_self] at hfc
   simp only [fcs,List.append_nil] at hfc
   subst hfc
   have hOn:O≠[]:=by
    intro e
    have:=hO.1
    rw [e] at this
    exact hfn (List.length_eq_zero_iff.1 this.symm)
   simp
   exact endK (hK _ _ ⟨O,hO,rfl,rfl⟩) [(1,9)] (by simp [slV_ne,blV_ne,hOn,hOc])
theorem c29f (f:Int) (ls:List Lt) (L:List (List Nat×Bool)) (hF:Ctr Tryz.prog 59 [cV f ls] ⟨[],1⟩ fun v m=>∃ rows,RowsF L rows∧v=.tuple [.sl 1 0 rows.length,.int .i64 0]∧m=⟨[(1,.cells 5 rows)],2⟩) :
 Ctr Tryz.prog 59 [cV f ls] ⟨[],1⟩ fun v m=>∃ rows,RowsF L rows∧v=.tuple [.imm rows,.int .i64 0]∧m=⟨[],2⟩:=by
 refine hF.freeze fun r sm=>?_
 rintro⟨rows,h1,rfl,rfl⟩
 refine⟨[1],rows,h1,?_,by simp⟩
 exact fz_tuple2 (freeze_rows (k:=5) (by simp [onlyG]) h1.scal) rfl
set_option maxRecDepth 100000 in
set_option maxHeartbeats 8000000 in
theorem c7 (f:Int) (ls:List Lt) (L:List (List Nat×Bool)) (h:ls.length≤1000) (h0:ls≠[]) (hF:Ctr Tryz.prog 59 [cV f ls] ⟨[],1⟩ fun v m=>∃ rows,RowsF L rows∧v=.tuple [.imm rows,.int .i64 0]∧m=⟨[],2⟩)
 (hL0:L≠[]) (hLl:L.length≤10000) (hLw:∀ w,w∈L→w.1≠[]∧w.1.length≤5000 ∧ ∀ x,x∈w.1→x<2*ls.length) :
 PCall Tryz.prog 24 [cV f ls] (.tuple [.imm (prowP (L.map (polN ls))),.int .i64 0]):=by
 refine PCall_F hm 4 Tryz.func24 cf7 rfl rfl (by simp [closedL,AVal.closed,closed_rows]) (by simp [AVal.closed,closedL,closed_prowP]) fun K hK=>?_
 have hR:=rows_of ls
 have hrr:∀ q,renLL q (ls.map rowL)=ls.map rowL:=fun q=>renLL_closed q _ (closed_rows ls)
 unfold cV at *
 generalize ls.map rowL=rows at *
 have hlen:=hR.len
 have hlp:0<ls.length:=List.length_pos_iff.2 h0
 simp
 refine SC_ctr hF [] (by simp [hrr]) (by simp) (by simp) ?_
 rintro r sm ⟨FR,hFR,rfl,rfl⟩
 have hFl:FR.length=L.length:=hFR.1
 have hFc:∀ q,renLL q FR=FR:=fun q=>renLL_closed q _ hFR.closed
 simp [hFc,hFl]
 refine wZ_loop (α:=Nat×List Pol) (fun a=>[(23,.int .i64 a.1),(22,.int .i64 L.length),(21,.imm FR),(6,slV 2 (prowP a.2)),(1,.ptr 1 0 0)]) (fun a=>⟨(1,.cells 2 [[.int .i64 f,.imm rows]]) :: blV 2 3 (prowP a.2) [],3⟩)
  (fun a=>L.length - a.1) (fun a=>a.1≤L.length∧a.2=(L.take a.1).map (polN ls)) (0,[]) [] (by simp [hrr,hFc]) (by simp) ?_
 rintro⟨i,R⟩ ⟨hi,hRp⟩ N1 hN1
 simp only at hi hRp hN1 ⊢
 have hRl:R.length=i:=by rw [hRp]; simp; omega
 by_cases hlt:i<L.length
 · obtain⟨w,hw⟩:∃ w,L[i]? = some w:=⟨_,List.getElem?_eq_getElem hlt⟩
   obtain⟨row,hg,ab,o,P,G,rfl,hP⟩:=hFR.2 i w hw
   obtain⟨_,hg2⟩:=getE hg
   obtain⟨hwn,hwl,hwx⟩:=hLw w (List.mem_of_getElem? hw)
   have hwi:IntKind.i64.wrap ((i:Int)+1)=(i:Int)+1:=wrap64 (by omega) (by omega)
   have htk:(L.take (i+1)).map (polN ls)=R++[polN ls w]:=by rw [List.take_add_one,hw,hRp]; simp
   have hin:decide (P=[]) = !w.2:=by
    cases hw2:w.2 with
    | true=>simpa using hP.1 hw2
    | false=>
     have:¬P≠[]:=fun e=>by have:=hP.2 e; rw [hw2] at this; cases this
     simpa using this
   have hRb:R.length≤1048575:=by omega
   have hwL:(nums w.1).length=w.1.length:=len_nums _
   have hwG:∀ (k x:Nat),w.1[k]? = some x→(nums w.1)[k]? = some [.int .i64 (x:Int)]:=fun k x=>nums_get
   have hwr:∀ q,renLL q (nums w.1)=nums w.1:=fun q=>ren_nums q _
   have hone:∀ x,x∈[AVal.bool ab,.imm (nums w.1),imV (prow P),imV (irow G),.bool o]→x.one=true:=by
    have:=FRow.one (w:=w) ⟨ab,o,P,G,rfl,hP⟩
    rwa [imV_ne (rows:=nums w.1) (by simpa using hwn)] at this
   have hoP:(imV (prow P)).one=true:=hone _ (by simp)
   have hoG:(imV (irow G)).one=true:=hone _ (by simp)
   rw [imV_ne (rows:=nums w.1) (by simpa using hwn)] at hg hg2
   generalize nums w.1=wr at *
   simp [hlt,hFl,hg,hg2,hin,hwL,hoP,hoG]
   refine wZ_loop (α:=Nat) (fun k=>[(38,.int .i64 k),(37,.int .i64 w.1.length),(36,.imm wr),(23,.int .i64 i),(22,.int .i64 L.length),(21,.imm FR),(9,.ptr 3 0 0),(6,slV 2 (prowP R)),(1,.ptr 1 0 0)])
    (fun k=>⟨(1,.cells 2 [[.int .i64 f,.imm rows]]) :: (3,.cells 3 [[.int .i64 (cornN ls (w.1.take k):Nat),.int .i64 w.1.length,.bool (!w.2)]]) :: blV 2 3 (prowP R) [],4⟩)
    (fun k=>w.1.length - k) (fun k=>k≤w.1.length) 0 [(3,16)] (by simp +contextual [hrr,hFc,hwr,cornN]) (by simp) ?_
   intro k hk N2 hN2
   try simp only at hk hN2 ⊢
   by_cases hklt:k<w.1.length
   · obtain⟨x,hx⟩:∃ x,w.1[k]? = some x:=⟨_,List.getElem?_eq_getElem hklt⟩
     have hxg:=hwG k x hx
     obtain⟨hxl,hxg2⟩:=getE hxg
     have hxn:=hwx x (List.mem_of_getElem? hx)
     have hwk:IntKind.i64.wrap ((k:Int)+1)=(k:Int)+1:=wrap64 (by omega) (by omega)
     have hct:=cornN_take (ls:=ls) hx
     have hcl:=cornN_le ls (w.1.take k)
     rw [List.length_take] at hcl
     have hhl:=head_lt hxn
     unfold isC at hct
     obtain⟨u,hu⟩:∃ u,headN ls.length x=u:=⟨_,rfl⟩
     rw [hu] at hct hhl
     have hrow:=hR.row u hhl
     obtain⟨_,hrow2⟩:=getE hrow
     generalize cornN ls (w.1.take k)=c at *
     have hwc:IntKind.i64.wrap ((c:Int)+1)=(c:Int)+1:=wrap64 (by omega) (by omega)
     have hn0:¬((ls.length:Int)=0):=by omega
     have htm:(x:Int).tmod 2=((x % 2:Nat):Int):=rfl
     obtain⟨g,hgx⟩:∃ g,x / 2=g:=⟨_,rfl⟩
     have hwd:IntKind.i64.wrap ((x:Int) / 2)=(g:Int):=by rw [wrap64 (by omega) (by omega)]; omega
     unfold headN at hu
     rw [hgx] at hu
     have key:∀ e mm,SubR 1 [] [(38,.int .i64 ((k+1:Nat):Int)),(37,.int .i64 w.1.length),(36,.imm wr),(23,.int .i64 i),(22,.int .i64 L.length),(21,.imm FR),(9,.ptr 3 0 0),(6,slV 2 (prowP R)),(1,.ptr 1 0 0)]
      ⟨(1,.cells 2 [[.int .i64 f,.imm rows]]) :: (3,.cells 3 [[.int .i64 ((c+if (at' ls u).k == 2 then 1 else 0:Nat):Int),.int .i64 w.1.length,.bool (!w.2)]]) :: blV 2 3 (prowP R) [],4⟩ e mm→N2 e mm:=fun e mm hs=>hN2 (k+1) [] e mm (by omega) (by omega) (by simp only [hct]; exact hs)
     by_cases hp:x % 2=0
     · rw [if_pos hp] at hu
       have hwe:IntKind.i64.wrap ((g:Int)+1)=(g:Int)+1:=wrap64 (by omega) (by omega)
       have hm2:((g:Int)+1).tmod (ls.length:Int)=(u:Int):=by rw [← hu]; rfl
       by_cases hk2:(at' ls u).k=2<;>simp [hklt,hwL,hxg,hxg2,htm,hp,hwd,hwe,hm2,hlen,hn0,h0,hhl,hrow,hrow2,rowL,hk2,hwc,hwk]<;>exact key _ _ (by simp +contextual [hrr,hFc,hwr,hk2])
     · rw [if_neg hp] at hu
       subst hu
       have hp':¬(((x % 2:Nat):Int)=0):=by omega
       generalize x % 2=z at *
       by_cases hk2:(at' ls g).k=2<;>simp [hklt,hwL,hxg,hxg2,htm,hp,hwd,hlen,hhl,hrow,hrow2,rowL,hk2,hwc,hwk]<;>exact key _ _ (by simp +contextual [hrr,hFc,hwr,hk2])
   · have hke:k=w.1.length:=by omega
     subst hke
     rw [List.take_length]
     simp [hwL,hRb,hwi]
     refine hN1 (i+1,R++[polN ls w]) [(2,8)] _ _ (by simp; omega) ⟨by simp; omega,htk.symm⟩ (by simp [hrr,hFc,prowP_snoc,polN])
 · have hie:i=L.length:=by omega
   subst hie
   rw [List.take_length] at hRp
   subst hRp
   have hRn:prowP (L.map (polN ls))≠[]:=by simpa using hL0
   simp [hFl]
   refine endK (hK (.tuple [slV 2 (prowP (L.map (polN ls))),.int .i64 0]) ⟨blV 2 3 (prowP (L.map (polN ls))) [],3⟩ ?_) [] (by simp +contextual)
   rw [slV_ne hRn]
   rw [freezeV]
   simp only [mapO,freeze_rows (get:=SMem.get ⟨blV 2 3 (prowP (L.map (polN ls))) [],3⟩) (b:=2) (n:=2) (k:=3) (by simp [blV_ne,hRn]) (scal_prowP (L.map (polN ls)))]
   rfl
set_option maxRecDepth 100000 in
set_option maxHeartbeats 8000000 in
theorem c8 (f:Int) (ls:List Lt) (ps:List Pol) (hP:PCall Tryz.prog 24 [cV f ls] (.tuple [imV (prowP ps),.int .i64 0])) (hl:ps.length≤10000) (hc:∀ p,p∈ps→p.1<6000) :
 PCall Tryz.prog 25 [cV f ls] (.tuple [imV (nums (patP ps)),.int .i64 0]):=by
 refine PCall_F hm 4 Tryz.func25 cf8 rfl rfl (by simp [closedL,AVal.closed,closed_rows]) (by simp [AVal.closed,closedL,closed_imV,closed_nums]) fun K hK=>?_
 have hrr:∀ q,renLL q (ls.map rowL)=ls.map rowL:=fun q=>renLL_closed q _ (closed_rows ls)
 have hpl:(prowP ps).length=ps.length:=prowP_length ps
 have hpg:∀ (i:Nat) (p:Pol),ps[i]? = some p→(prowP ps)[i]? = some [.int .i64 (p.1:Nat),.int .i64 (p.2.1:Nat),.bool p.2.2]:=fun i p=>prowP_get
 have hpn:0<ps.length→imV (prowP ps)=.imm (prowP ps):=fun h=>imV_ne (by intro e; rw [prowP_nil] at e; subst e; simp at h)
 have hpr:∀ q,(imV (prowP ps)).ren q=imV (prowP ps):=fun q=>AVal.ren_closed q _ (closed_imV (closed_prowP ps))
 unfold cV at *
 generalize ls.map rowL=rows at *
 simp
 refine SC_pure hP ?_
 simp
 refine wZ_loop (α:=Nat×List Nat) (fun a=>[(19,.int .i64 a.1),(18,.int .i64 ps.length),(17,imV (prowP ps)),(6,slV 2 (nums a.2)),(1,.ptr 1 0 0)]) (fun a=>⟨(1,.cells 2 [[.int .i64 f,.imm rows]]) :: blV 2 1 (nums a.2) [],3⟩)
  (fun a=>ps.length - a.1) (fun a=>a.1≤ps.length∧a.2=(ps.take a.1).foldl patS []∧a.2.length≤6000 ∧ ∀ x,x∈a.2→x≤a.1) (0,[]) [] (by simp [hrr,hpr]) (by simp) ?_
 rintro⟨i,out⟩ ⟨hi,ho,hol,hob⟩ N1 hN1
 simp only at hi ho hol hob hN1 ⊢
 by_cases hlt:i<ps.length
 · obtain⟨p,hp⟩:∃ p,ps[i]? = some p:=⟨_,List.getElem?_eq_getElem hlt⟩
   have hg:=hpg i p hp
   obtain⟨_,hg2⟩:=getE hg
   have hwi:IntKind.i64.wrap ((i:Int)+1)=(i:Int)+1:=wrap64 (by omega) (by omega)
   have hft:(ps.take (i+1)).foldl patS []=patS out p:=by rw [ho]; exact foldl_take patS [] hp
   have hpc:=hc p (List.mem_of_getElem? hp)
   have hpn':=hpn (by omega)
   have hsl:=patS_length (out:=out) (p:=p) (b:=6000) hol hpc
   have hsb:=patS_le (out:=out) (p:=p) hob
   have hN:=hN1 (i+1,patS out p)
   simp only at hN
   rw [hpn'] at hN hpr ⊢
   have hpr':∀ q,renLL q (prowP ps)=prowP ps:=fun q=>ren_prowP q ps
   obtain⟨pc,psd,pin⟩:=p
   cases pin with
   | false=>
    have he:patS out (pc,psd,false)=out:=by simp [patS]
    rw [he] at hN hsb hft
    simp [hlt,hpl,hg,hg2,hwi]
    exact hN [] _ _ (by omega) ⟨by omega,hft.symm,hol,hsb⟩ (by simp +contextual [hrr,hpr',ren_nums])
   | true=>
    have he:patS out (pc,psd,true)=addP (growP out pc) pc:=by simp [patS]
    simp only at hpc
    simp [hlt,hpl,hg,hg2]
    refine wZ_loop (α:=Nat) (fun j=>[(19,.int .i64 i),(18,.int .i64 ps.length),(17,.imm (prowP ps)),(8,.ptr 3 0 0),(6,slV 2 (nums (out++List.replicate j 0))),(1,.ptr 1 0 0)])
     (fun j=>⟨(1,.cells 2 [[.int .i64 f,.imm rows]]) :: (3,.cells 3 [[.int .i64 pc,.int .i64 psd,.bool true]]) :: blV 2 1 (nums (out++List.replicate j 0)) [],4⟩)
     (fun j=>7000 - j) (fun j=>j≤pc+1 - out.length) 0 [(3,6)] (by simp +contextual [hrr,hpr',ren_nums]) (by simp) ?_
    intro j hj N2 hN2
    try simp only at hj hN2 ⊢
    have hXl:(out++List.replicate j 0).length=out.length+j:=by simp
    by_cases hle:out.length+j≤pc
    · have e1:out++List.replicate (j+1) 0=(out++List.replicate j 0)++[0]:=by rw [List.append_assoc,List.replicate_succ']
      have hle':(out.length:Int)+(j:Int)≤(pc:Int):=by omega
      have hXb:out.length+j≤1048575:=by omega
      have hXn:(nums (out++List.replicate j 0)).length=out.length+j:=by rw [len_nums,hXl]
      have hrX:∀ q,renLL q (nums (out++List.replicate j 0))=nums (out++List.replicate j 0):=fun q=>ren_nums q _
      have e2:nums (out++List.replicate (j+1) 0)=nums (out++List.replicate j 0)++[[.int .i64 0]]:=by rw [e1]; simp [nums]
      have hN3:=hN2 (j+1) [(2,11)]
      rw [e2] at hN3
      generalize nums (out++List.replicate j 0)=X at *
      simp [hXb,hXn,hle']
      exact hN3 _ _ (by omega) (by omega) (by simp +contextual [hrr,hpr',hrX,hXn])
    · have hje:j=pc+1 - out.length:=by omega
      subst hje
      have hle':¬out.length+(pc+1 - out.length)≤pc:=by omega
      have hYl:(nums (out++List.replicate (pc+1 - out.length) 0)).length=out.length+(pc+1 - out.length):=by rw [len_nums,hXl]
      have hgY:out++List.replicate (pc+1 - out.length) 0=growP out pc:=rfl
      rw [hgY] at hYl ⊢
      have hYb:∀ x,x∈growP out pc→x≤i:=fun x hx=>by
       rcases List.mem_append.1 hx with h1 | h1
       · exact hob x h1
       · have:=(List.mem_replicate.1 h1).2; omega
      have hpY:pc<(growP out pc).length:=by rw [growP_length]; omega
      have hYL:(growP out pc).length=out.length+(pc+1 - out.length):=by rw [← hgY]; simp
      rw [he] at hN hsl hsb hft
      generalize growP out pc=Y at *
      obtain⟨y,hy⟩:∃ y,Y[pc]? = some y:=⟨_,List.getElem?_eq_getElem hpY⟩
      have hyg:=nums_get hy
      have hyb:=hYb y (List.mem_of_getElem? hy)
      obtain⟨hyl,hyg2⟩:=getE hyg
      have hwy:IntKind.i64.wrap ((y:Int)+1)=((y+1:Nat):Int):=by rw [wrap64 (by omega) (by omega)]; omega
      have hset:(nums Y).set pc [AVal.int .i64 ((y+1:Nat):Int)]=nums (addP Y pc):=by
       rw [nums_set]
       simp [addP,List.getD_eq_getElem?_getD,hy]
      have hYn:nums Y≠[]:=by intro e; rw [e] at hyl; simp at hyl
      have hrZ:∀ q,renLL q (nums (addP Y pc))=nums (addP Y pc):=fun q=>ren_nums q _
      have hZl:(nums (addP Y pc)).length=(nums Y).length:=by rw [← hset]; simp
      have hZn:nums (addP Y pc)≠[]:=by intro e; rw [e] at hZl; simp at hZl; exact hYn (by simpa using hZl.symm)
      generalize addP Y pc=Z at *
      generalize nums Z=Zr at *
      generalize nums Y=Yr at *
      have hpl2:pc<out.length+(pc+1 - out.length):=by omega
      rw [hYl] at hZl
      generalize out.length+(pc+1 - out.length)=n at *
      simp [hle',hYl,hyg,hyg2,hwy,hset,hwi,slV_ne,blV_ne,hYn,hpl2,-Int.natCast_add]
      exact hN [] _ _ (by omega) ⟨by omega,hft.symm,hsl,hsb⟩ (by simp [hrr,hpr',hrZ,slV_ne,blV_ne,hZn,hZl])
 · have hie:i=ps.length:=by omega
   subst hie
   rw [List.take_length] at ho
   simp
   refine endK (hK (.tuple [slV 2 (nums out),.int .i64 0]) ⟨blV 2 1 (nums out) [],3⟩ ?_) [] (by simp +contextual [ren_nums])
   rw [ho]
   unfold patP
   rw [freezeV]
   simp only [mapO,frz_slV (get:=SMem.get ⟨blV 2 1 (nums (ps.foldl patS [])) [],3⟩) (b:=2) (n:=1) (k:=1) (by simp) (scal_nums (ps.foldl patS []))]
   rfl
end Go.Known
end
