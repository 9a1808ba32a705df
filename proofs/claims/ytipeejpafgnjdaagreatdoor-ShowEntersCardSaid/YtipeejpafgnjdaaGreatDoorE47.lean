/- Part 47 of the proof: Wf, Wg, Wh, Wi. -/
import Derived.Test.YtipeejpafgnjdaaGreatDoorE16
import Derived.Test.YtipeejpafgnjdaaGreatDoorE35
import Derived.Test.YtipeejpafgnjdaaGreatDoorE46
set_option linter.all false
section
namespace Go.Known
open Go Go.AE Go.Proofs
open Go.Plain
def plV (g a:Int):AVal:=.agg [.int .i64 g,.int .i64 a]
section
variable {g a:Int} {l:Lt}
theorem in_gt (h:l.k=1) (hg:g<l.g):inL g a l={ l with g:=l.g+1 }:=by unfold inL; rw [if_pos ⟨h,.inl hg⟩,if_neg (by omega)]
theorem in_at (h:l.k=1) (hg:l.g=g) (hr:a<l.r):inL g a l={ l with g:=l.g+1,r:=l.r - a }:=by unfold inL; rw [if_pos ⟨h,.inr ⟨hg,hr⟩⟩,if_pos hg]
theorem Z09 (hg:¬g<l.g) (hr:¬(l.g=g∧a<l.r)):inL g a l=l:=by unfold inL; rw [if_neg (fun e=>e.2.elim hg hr)]
end
set_option maxRecDepth 100000 in
set_option maxHeartbeats 8000000 in
theorem Z0d (f g a:Int) (ls:List Lt) (hv:ValR f ls) (h0:ls≠[]) (h1:0≤g) (h2:0≤a) (h3:a≤1000):PCall Tryz.prog 80 [cV f ls,plV g a] (cV (f+1) (inN g a ls)):=by
 refine Zcx hm 4 Tryz.func80 Zsn rfl rfl (by simp [Zae,AVal.closed,Zab,plV]) (by simp [AVal.closed,Zae,Zab]) fun K hK=>?_
 have hl:ls.length≤1000:=by have:=hv.len; omega
 have hhi:=hv.hi
 have hlo:=hv.lo
 have hKv:=hK _ _ (fz_cV (f+1) (inN g a ls))
 clear hK
 have hq:∀ l,l∈ls→l.k=1→1≤l.r∧l.r≤inG l.g ls∧0≤l.g∧l.g≤f:=fun l hm hk=>(hv.key hm (by simp [isP,hk])).2
 have h114:=c114s f ls h0 hl
 have hMg:=fun i hi=>Ztc (g:=inL g a) (ls:=ls) (i:=i) hi
 have hMs:=fun i hi=>Ztk (g:=inL g a) (ls:=ls) (i:=i) hi
 have hMe:=fun i hi hg=>Zug (g:=inL g a) (ls:=ls) (i:=i) hi hg
 have hMl:∀ i,((mix (inL g a) i ls).map rowL).length=ls.length:=fun i=>by rw [List.length_map,Zw8]
 have hMc:∀ i q,Zam q ((mix (inL g a) i ls).map rowL)=(mix (inL g a) i ls).map rowL:=fun i q=>Zaa q _ (Zab _)
 have hM0:(mix (inL g a) 0 ls).map rowL=ls.map rowL:=by rw [Zuv]
 have hMn:(mix (inL g a) ls.length ls).map rowL=(inN g a ls).map rowL:=by rw [Zyu]; rfl
 have hsl:(inN g a ls).length=ls.length:=by simp [inN]
 rw [← hMn,hsl] at hKv
 have hlen:(ls.map rowL).length=ls.length:=List.length_map ..
 have hrg:=fun i hi=>Ze1 ls (i:=i) hi
 have hrr:∀ q,Zam q (ls.map rowL)=ls.map rowL:=fun q=>Zaa q _ (Zab ls)
 obtain⟨M,hM⟩:∃ M:Nat→List (List AVal),(fun i=>(mix (inL g a) i ls).map rowL)=M:=⟨_,rfl⟩
 have hMi:∀ i,(mix (inL g a) i ls).map rowL=M i:=fun i=>by rw [← hM]
 simp only [hMi] at hMg hMs hMe hMl hMc hM0 hMn hKv
 clear hM hMi
 have wf:IntKind.i64.wrap (f+1)=f+1:=Zad (by omega) (by omega)
 unfold cV plV at *
 generalize ls.map rowL=rows at *
 simp
 refine Za0 h114 [] (by simp [hrr]) (by simp) (by simp) ?_
 rintro r sm ⟨rfl,rfl⟩
 simp [hrr,hlen,wf]
 refine Zay (α:=Nat) (fun i=>[(6,.int .i64 i),(5,.ptr 4 0 0),(4,.ptr 3 0 0),(3,.ptr 2 0 0),(2,.ptr 1 0 0)])
  (fun i=>⟨[(4,.cells 2 [[.int .i64 (f+1),.sl 5 0 ls.length]]),(5,.cells 6 (M i)),(3,.cells 2 [[.int .i64 0,.nilSl]]),(2,.cells 2 [[.int .i64 g,.int .i64 a]]),(1,.cells 2 [[.int .i64 f,.imm rows]])],6⟩)
  (fun i=>ls.length - i) (fun i=>i≤ls.length) 0 [(4,6),(5,8)] (by simp [hrr,hM0]) (by simp) ?_
 intro i hi N hN
 try simp only at hi hN ⊢
 by_cases hlt:i<ls.length
 · have hg:=hMg i hlt
   obtain⟨hgl,hg2⟩:=getE hg
   have hr:=hrg i hlt
   obtain⟨hrl,hr2⟩:=getE hr
   have hset:=hMs i hlt
   have hw:IntKind.i64.wrap ((i:Int)+1)=(i:Int)+1:=Zad (by omega) (by omega)
   have hlM:=hMl i
   have hN':=hN (i+1) []
   by_cases hk:(at' ls i).k=1
   · obtain⟨q1,q2,q3,q4⟩:=hq _ (Zcc hlt) hk
     have hin2:inG (at' ls i).g ls≤ls.length:=Za9
     have wg:IntKind.i64.wrap ((at' ls i).g+1)=(at' ls i).g+1:=Zad (by omega) (by omega)
     have wr':IntKind.i64.wrap ((at' ls i).r - a)=(at' ls i).r - a:=Zad (by omega) (by omega)
     by_cases hgt:g<(at' ls i).g
     · rw [in_gt hk hgt] at hset
       simp only [rowL,hk] at hset
       have hge:¬(at' ls i).g=g:=by omega
       simp [hlt,hg,hg2,hr,hr2,hlM,hlen,rowL,hk,hgt,hge,hw,wg]
       exact hN' _ _ (by omega) (by omega) (by simp [hrr,hMc,hset])
     · by_cases hgn:(at' ls i).g=g
       · by_cases hra:a<(at' ls i).r
         · rw [in_at hk hgn hra] at hset
           simp only [rowL,hk,hgn] at hset
           rw [hgn] at wg
           simp [hlt,hg,hg2,hr,hr2,hlM,hlen,rowL,hk,hgn,hra,hw,wg,wr']
           exact hN' _ _ (by omega) (by omega) (by simp [hrr,hMc,hset])
         · have hsame:=hMe i hlt (Z09 hgt fun e=>hra e.2)
           rw [hsame] at hN'
           simp [hlt,hg,hg2,hr,hr2,hlM,hlen,rowL,hk,hgn,hra,hw]
           exact hN' _ _ (by omega) (by omega) (by simp [hrr,hMc])
       · have hsame:=hMe i hlt (Z09 hgt fun e=>hgn e.1)
         rw [hsame] at hN'
         simp [hlt,hg,hg2,hr,hr2,hlM,hlen,rowL,hk,hgt,hgn,hw]
         exact hN' _ _ (by omega) (by omega) (by simp [hrr,hMc])
   · have hsame:=hMe i hlt (Zq1 hk)
     rw [hsame] at hN'
     simp [hlt,hg,hg2,hr,hr2,hlM,hlen,rowL,hk,hw]
     exact hN' _ _ (by omega) (by omega) (by simp [hrr,hMc])
 · have hie:i=ls.length:=by omega
   subst hie
   simp [hlt]
   exact endK hKv [(1,5)] (by simp [hrr,hMc])
attribute [local simp] w00 in
theorem Zzu (f g a:Int) (hf:0≤f) (hf2:f≤40):PCall Tryz.prog 80 [cV f [],plV g a] (cV (f+1) []):=by
 refine Zcx hm 4 Tryz.func80 Zsn rfl rfl (by simp [Zae,AVal.closed,Zap,plV]) (by simp [AVal.closed,Zae,Zap]) fun K hK=>?_
 have h114:=c114v f [] (by simp)
 have hKv:=hK (cV (f+1) []) ⟨[],1⟩ (fz_cVi (f+1) [])
 clear hK
 have wf:IntKind.i64.wrap (f+1)=f+1:=Zad (by omega) (by omega)
 unfold cV plV at *
 simp at h114 ⊢
 refine Zai h114 ?_
 simp [wf]
 refine Zay (α:=Unit) (fun _=>[(6,.int .i64 0),(5,.ptr 4 0 0),(4,.ptr 5 0 0),(2,.ptr 1 0 0)])
  (fun _=>⟨[(4,.cells 2 [[.int .i64 (f+1),.imm []]]),(5,.cells 2 [[.int .i64 0,.nilSl]]),(1,.cells 2 [[.int .i64 f,.imm []]])],6⟩) (fun _=>0) (fun _=>True) () [(4,6),(5,3)] (by simp) trivial ?_
 intro _ _ N hN
 simp
 exact endK hKv [] (by simp)
end Go.Known
end
section
namespace Go.Known
open Go Go.AE Go.Proofs
open Go.Plain
def okI (f g a:Int) (ls:List Lt):Prop:=0≤g∧g≤f∧0≤a∧f<40∧a≤inG g ls
instance (f g a:Int) (ls:List Lt):Decidable (okI f g a ls):=by unfold okI; infer_instance
def noC (e:Int):AVal:=.tuple [.agg [.int .i64 0,.nilSl],.int .i64 e]
theorem Z2t (e:Int):Zaj (SMem.get ⟨[],1⟩) 4 (noC e)=some (noC e):=rfl
set_option maxRecDepth 100000 in
set_option maxHeartbeats 16000000 in
theorem Z4e (f g a:Int) (ls:List Lt) (hv:ValR f ls) (h0:ls≠[]) (hok:okI f g a ls):PCall Tryz.prog 127 [cV f ls,plV g a] (.tuple [cV (f+1) (inN g a ls),.int .i64 0]):=by
 refine Zcx hm 4 Tryz.func127 cf86 rfl rfl (by simp [Zae,AVal.closed,Zab,plV]) (by simp [AVal.closed,Zae,Zab]) fun K hK=>?_
 obtain⟨o1,o2,o3,o4,o5⟩:=hok
 have hl:ls.length≤1000:=by have:=hv.len; omega
 have hhi:=hv.hi
 have hq:∀ l,l∈ls→l.k=1→1≤l.r∧l.r≤inG l.g ls∧0≤l.g∧l.g≤f:=fun l hm hk=>(hv.key hm (by simp [isP,hk])).2
 have h59:=c59 f ls hl
 have he:=hv.to
 have h31:=c31s (ls.map rowL) (by simpa using h0) (by simpa using hl) (Z0r ls) (Zab ls)
 have hin:inG g ls≤ls.length:=Za9
 have hMg:=fun i hi=>Ztc (g:=inL g a) (ls:=ls) (i:=i) hi
 have hMs:=fun i hi=>Ztk (g:=inL g a) (ls:=ls) (i:=i) hi
 have hMe:=fun i hi hg=>Zug (g:=inL g a) (ls:=ls) (i:=i) hi hg
 have hMl:∀ i,((mix (inL g a) i ls).map rowL).length=ls.length:=fun i=>by rw [List.length_map,Zw8]
 have hMc:∀ i q,Zam q ((mix (inL g a) i ls).map rowL)=(mix (inL g a) i ls).map rowL:=fun i q=>Zaa q _ (Zab _)
 have hM0:(mix (inL g a) 0 ls).map rowL=ls.map rowL:=by rw [Zuv]
 have hMn:(mix (inL g a) ls.length ls).map rowL=(inN g a ls).map rowL:=by rw [Zyu]; rfl
 have hsl:(inN g a ls).length=ls.length:=by simp [inN]
 have hKv:=hK _ _ (fz_cVt (f+1) (inN g a ls))
 clear hK
 unfold cV dF dM dV2 plV at *
 rw [← hMn,hsl] at hKv
 have hlen:(ls.map rowL).length=ls.length:=List.length_map ..
 have hrr:∀ q,Zam q (ls.map rowL)=ls.map rowL:=fun q=>Zaa q _ (Zab ls)
 obtain⟨M,hM⟩:∃ M:Nat→List (List AVal),(fun i=>(mix (inL g a) i ls).map rowL)=M:=⟨_,rfl⟩
 have hMi:∀ i,(mix (inL g a) i ls).map rowL=M i:=fun i=>by rw [← hM]
 simp only [hMi] at hMg hMs hMe hMl hMc hM0 hMn hKv
 clear hM hMi
 have wf:IntKind.i64.wrap (f+1)=f+1:=Zad (by omega) (by omega)
 have hpos:0<ls.length:=List.length_pos_iff.2 h0
 generalize ls.map rowL=rows at *
 generalize hBe:bls (Zbp ls.length ls.length (Zc4 ls) false)=B at *
 generalize hCe:nums (Zbp ls.length ls.length (Zb7 ls) 0)=C at *
 generalize hAe:nums (axis ls)=A at *
 have hrA:∀ q,Zam q A=A:=fun q=>by rw [← hAe]; exact Zac q _
 have hrB:∀ q,Zam q B=B:=fun q=>by rw [← hBe]; exact Zaq q _
 have hrC:∀ q,Zam q C=C:=fun q=>by rw [← hCe]; exact Zac q _
 clear hBe hCe hAe
 generalize (axis ls).length=m at *
 generalize crE ls ls.length=E at *
 simp
 refine Za0 h59 [] (by simp [hrr]) (by simp) (by simp) ?_
 rintro r sm (⟨h1,_⟩ | ⟨_,h1,_⟩ | ⟨_,_,hf0,hf1,_,rfl,rfl⟩)
 · exact absurd he h1
 · exact absurd h1 h0
 obtain⟨F,hF⟩:∃ F:Nat,f=(F:Int):=⟨f.toNat,by omega⟩
 subst hF
 obtain⟨G,hG⟩:∃ G:Nat,g=(G:Int):=⟨g.toNat,by omega⟩
 subst hG
 have hn1:¬(G:Int)<0:=by omega
 have hn2:¬(F:Int)<(G:Int):=by omega
 have hn3:¬a<0:=by omega
 have hn4:¬(40:Int)≤(F:Int):=by omega
 have hn5:¬(ls.length:Int)=0:=by omega
 have hn6:(0:Int)<(ls.length:Int):=by omega
 have hcl:(nums (cnts F ls)).length=F+1:=by rw [Zbt,Zce]
 have hG1:G<F+1:=by omega
 have hc0:=Zf1 (ls:=ls) (g:=G) (F:=F) (by omega)
 have hc2:=Zca hc0
 obtain⟨hc3,hc4⟩:=getE hc2
 have hn7:¬(inG (G:Int) ls:Int)<a:=by omega
 have k2:¬F<G:=by omega
 have k4:¬40≤F:=by omega
 have k5:¬ls.length=0:=by omega
 simp [hrr,hrA,hrB,hrC,Zag,Zac,hn1,hn2,hn3,hn4,hn5,hn6,hn7,k2,k4,k5,h0,hpos,hlen,hcl,hG1,hc2,hc4]
 refine Za0 h31 [] (by simp [hrr]) (by simp) (by simp) ?_
 rintro r sm ⟨rfl,rfl⟩
 simp [hrr,hrA,hrB,hrC,Zag,Zac,hlen]
 refine Zay (α:=Nat) (fun i=>[(84,.int .i64 i),(83,.int .i64 ls.length),(82,.sl 10 0 ls.length),(8,.sl 10 0 ls.length),(6,.ptr 4 0 0),(4,.ptr 3 0 0),(3,.ptr 2 0 0),(2,.ptr 1 0 0)])
  (fun i=>⟨[(10,.cells 6 (M i)),(4,.cells 7 [[.int .i64 (F:Int),.imm rows,.sl 6 0 ls.length,.sl 8 0 m,.sl 7 0 ls.length,.map 9,.sl 5 0 (F+1)]]),(5,.cells 1 (nums (cnts F ls))),(6,.cells 1 B),(7,.cells 1 C),(8,.cells 1 A),(9,.map (mkE 0 E) E.length),(3,.cells 2 [[.int .i64 0,.nilSl]]),(2,.cells 2 [[.int .i64 G,.int .i64 a]]),(1,.cells 2 [[.int .i64 F,.imm rows]])],11⟩)
  (fun i=>ls.length - i) (fun i=>i≤ls.length) 0 [(10,81),(4,12),(5,13),(6,14),(7,15),(8,16),(9,17)] (by simp [hrr,hrA,hrB,hrC,Zag,Zac,hM0]) (by simp) ?_
 intro i hi N hN
 try simp only at hi hN ⊢
 by_cases hlt:i<ls.length
 · have hg:=hMg i hlt
   obtain⟨hgl,hg2⟩:=getE hg
   have hset:=hMs i hlt
   have hw:IntKind.i64.wrap ((i:Int)+1)=(i:Int)+1:=Zad (by omega) (by omega)
   have hlM:=hMl i
   have hN':=hN (i+1) []
   by_cases hk:(at' ls i).k=1
   · obtain⟨q1,q2,q3,q4⟩:=hq _ (Zcc hlt) hk
     have hin2:inG (at' ls i).g ls≤ls.length:=Za9
     have wg:IntKind.i64.wrap ((at' ls i).g+1)=(at' ls i).g+1:=Zad (by omega) (by omega)
     have wr':IntKind.i64.wrap ((at' ls i).r - a)=(at' ls i).r - a:=Zad (by omega) (by omega)
     by_cases hgt:(G:Int)<(at' ls i).g
     · rw [in_gt hk hgt] at hset
       simp only [rowL,hk] at hset
       have hge:¬(at' ls i).g<(G:Int):=by omega
       simp [hlt,hg,hg2,hlM,hlen,rowL,hk,hgt,hge,hw,wg]
       exact hN' _ _ (by omega) (by omega) (by simp [hrr,hrA,hrB,hrC,Zag,Zac,hMc,hset])
     · by_cases hgn:(at' ls i).g=G
       · by_cases hra:a<(at' ls i).r
         · rw [in_at hk hgn hra] at hset
           simp only [rowL,hk,hgn] at hset
           rw [hgn] at wg
           simp [hlt,hg,hg2,hlM,hlen,rowL,hk,hgn,hra,hw,wg,wr']
           exact hN' _ _ (by omega) (by omega) (by simp [hrr,hrA,hrB,hrC,Zag,Zac,hMc,hset])
         · have hsame:=hMe i hlt (Z09 hgt fun e=>hra e.2)
           rw [hsame] at hN'
           simp [hlt,hg,hg2,hlM,hlen,rowL,hk,hgn,hra,hw]
           exact hN' _ _ (by omega) (by omega) (by simp [hrr,hrA,hrB,hrC,Zag,Zac,hMc])
       · have hsame:=hMe i hlt (Z09 hgt fun e=>hgn e.1)
         rw [hsame] at hN'
         have hlo:(at' ls i).g<(G:Int):=by omega
         simp [hlt,hg,hg2,hlM,hlen,rowL,hk,hlo,hw]
         exact hN' _ _ (by omega) (by omega) (by simp [hrr,hrA,hrB,hrC,Zag,Zac,hMc])
   · have hsame:=hMe i hlt (Zq1 hk)
     rw [hsame] at hN'
     simp [hlt,hg,hg2,hlM,hlen,rowL,hk,hw]
     exact hN' _ _ (by omega) (by omega) (by simp [hrr,hrA,hrB,hrC,Zag,Zac,hMc])
 · have hie:i=ls.length:=by omega
   subst hie
   simp [hlt,wf]
   exact endK hKv [(1,10)] (by simp [hrr,hMc])
set_option maxRecDepth 100000 in
set_option maxHeartbeats 16000000 in
theorem Z1e (f g a:Int) (ls:List Lt) (hv:ValR f ls) (h0:ls≠[]) (hok:¬okI f g a ls):PCall Tryz.prog 127 [cV f ls,plV g a] (noC 2):=by
 refine Zcx hm 4 Tryz.func127 cf86 rfl rfl (by simp [Zae,AVal.closed,Zab,plV]) rfl fun K hK=>?_
 have hl:ls.length≤1000:=by have:=hv.len; omega
 have h59:=c59 f ls hl
 have he:=hv.to
 have hKv:=hK _ _ (Z2t 2)
 clear hK
 unfold okI at hok
 unfold noC at hKv
 unfold cV dF dM dV2 plV at *
 have hlen:(ls.map rowL).length=ls.length:=List.length_map ..
 have hrr:∀ q,Zam q (ls.map rowL)=ls.map rowL:=fun q=>Zaa q _ (Zab ls)
 have hpos:0<ls.length:=List.length_pos_iff.2 h0
 generalize ls.map rowL=rows at *
 generalize hBe:bls (Zbp ls.length ls.length (Zc4 ls) false)=B at *
 generalize hCe:nums (Zbp ls.length ls.length (Zb7 ls) 0)=C at *
 generalize hAe:nums (axis ls)=A at *
 have hrA:∀ q,Zam q A=A:=fun q=>by rw [← hAe]; exact Zac q _
 have hrB:∀ q,Zam q B=B:=fun q=>by rw [← hBe]; exact Zaq q _
 have hrC:∀ q,Zam q C=C:=fun q=>by rw [← hCe]; exact Zac q _
 clear hBe hCe hAe
 generalize (axis ls).length=m at *
 generalize crE ls ls.length=E at *
 simp
 refine Za0 h59 [] (by simp [hrr]) (by simp) (by simp) ?_
 rintro r sm (⟨h1,_⟩ | ⟨_,h1,_⟩ | ⟨_,_,hf0,hf1,_,rfl,rfl⟩)
 · exact absurd he h1
 · exact absurd h1 h0
 obtain⟨F,hF⟩:∃ F:Nat,f=(F:Int):=⟨f.toNat,by omega⟩
 subst hF
 by_cases hn1:g<0
 · simp [hrr,hrA,hrB,hrC,Zag,Zac,hn1]
   exact endK hKv [] (by simp)
 obtain⟨G,hG⟩:∃ G:Nat,g=(G:Int):=⟨g.toNat,by omega⟩
 subst hG
 by_cases hn2:(F:Int)<(G:Int)
 · have k2:F<G:=by omega
   simp [hrr,hrA,hrB,hrC,Zag,Zac,hn1,hn2,k2]
   exact endK hKv [] (by simp)
 have k2:¬F<G:=by omega
 by_cases hn3:a<0
 · simp [hrr,hrA,hrB,hrC,Zag,Zac,hn1,hn2,k2,hn3]
   exact endK hKv [] (by simp)
 by_cases hn4:(40:Int)≤(F:Int)
 · have k4:40≤F:=by omega
   simp [hrr,hrA,hrB,hrC,Zag,Zac,hn1,hn2,k2,hn3,hn4,k4]
   exact endK hKv [] (by simp)
 have k4:¬40≤F:=by omega
 have k5:¬ls.length=0:=by omega
 have hn5:¬(ls.length:Int)=0:=by omega
 have hn6:(0:Int)<(ls.length:Int):=by omega
 have hcl:(nums (cnts F ls)).length=F+1:=by rw [Zbt,Zce]
 have hG1:G<F+1:=by omega
 have hc0:=Zf1 (ls:=ls) (g:=G) (F:=F) (by omega)
 have hc2:=Zca hc0
 obtain⟨hc3,hc4⟩:=getE hc2
 have hn7:(inG (G:Int) ls:Int)<a:=by omega
 simp [hrr,hrA,hrB,hrC,Zag,Zac,hn1,hn2,hn3,hn4,hn5,hn6,hn7,k2,k4,k5,h0,hpos,hlen,hcl,hG1,hc2,hc4]
 exact endK hKv [] (by simp)
set_option maxRecDepth 100000 in
set_option maxHeartbeats 16000000 in
attribute [local simp] w00 in
theorem Zz4 (f g a:Int) (he:errC f []=0):PCall Tryz.prog 127 [cV f [],plV g a] (if okI f g a [] then .tuple [cV (f+1) [],.int .i64 0] else noC 2):=by
 have hlo:=Zqt he
 have h59:=c59 f [] (by simp)
 have h31:=c31e
 have hwf:(if okI f g a [] then AVal.tuple [cV (f+1) [],.int .i64 0] else noC 2).closed=true:=by split<;>rfl
 refine Zcx hm 4 Tryz.func127 cf86 rfl rfl (by simp [Zae,AVal.closed,Zap,plV]) hwf fun K hK=>?_
 have hY:okI f g a []→K (.tuple [cV (f+1) [],.int .i64 0]) ⟨[],1⟩:=fun h=>by
  refine hK _ ⟨[],1⟩ ?_
  rw [if_pos h]
  exact Z30 (f+1) []
 have hN:¬okI f g a []→K (noC 2) ⟨[],1⟩:=fun h=>by
  refine hK _ ⟨[],1⟩ ?_
  rw [if_neg h]
  exact Z2t 2
 clear hK hwf
 have hi0:inG g []=0:=rfl
 unfold okI at hY hN
 rw [hi0] at hY hN
 unfold noC at hN
 unfold cV dM1 dV0 plV at *
 simp
 refine Za0 h59 [] (by simp) (by simp) (by simp) ?_
 rintro r sm (⟨h1,_⟩ | ⟨_,_,q1,q2,rfl,rfl⟩ | ⟨_,h1,_⟩)
 · exact absurd he h1
 · by_cases hn1:g<0
   · simp [hn1]
     exact endK (hN (by omega)) [] (by simp)
   by_cases hn2:f<g
   · simp [hn1,hn2]
     exact endK (hN (by omega)) [] (by simp)
   by_cases hn3:a<0
   · simp [hn1,hn2,hn3]
     exact endK (hN (by omega)) [] (by simp)
   by_cases hn4:40≤f
   · simp [hn1,hn2,hn3,hn4]
     exact endK (hN (by omega)) [] (by simp)
   by_cases hn5:0<a
   · simp [hn1,hn2,hn3,hn4,hn5]
     exact endK (hN (by omega)) [] (by simp)
   have hKv:=hY ⟨by omega,by omega,by omega,by omega,by omega⟩
   have wf:IntKind.i64.wrap (f+1)=f+1:=Zad (by omega) (by omega)
   simp [hn1,hn2,hn3,hn4,hn5]
   refine Zai h31 ?_
   simp
   refine Zay (α:=Unit) (fun _=>[(84,.int .i64 0),(83,.int .i64 0),(8,.imm []),(4,.ptr 3 0 0),(2,.ptr 1 0 0)])
    (fun _=>⟨[(3,.cells 2 [[.int .i64 0,.nilSl]]),(1,.cells 2 [[.int .i64 f,.imm []]])],4⟩) (fun _=>0) (fun _=>True) () [] (by simp) trivial ?_
   intro _ _ N hN
   simp [wf]
   exact endK hKv [] (by simp)
 · exact absurd rfl h1
theorem Z1d (f g a:Int) (ls:List Lt) (he:errC f ls=0):PCall Tryz.prog 127 [cV f ls,plV g a] (if okI f g a ls then .tuple [cV (f+1) (inN g a ls),.int .i64 0] else noC 2):=by
 by_cases h0:ls=[]
 · subst h0; exact Zz4 f g a he
 · by_cases h:okI f g a ls
   · rw [if_pos h]; exact Z4e f g a ls (Zlq he h0) h0 h
   · rw [if_neg h]; exact Z1e f g a ls (Zlq he h0) h0 h
theorem Zyp (f g a:Int) (ls:List Lt) (he:errC f ls=0) (h:okI f g a ls):PCall Tryz.prog 80 [cV f ls,plV g a] (cV (f+1) (inN g a ls)):=by
 by_cases h0:ls=[]
 · subst h0; exact Zzu f g a (Zqt he).1 (Zqt he).2
 · have hv:=Zlq he h0
   have h1:=hv.len
   have h2:inG g ls≤ls.length:=Za9
   obtain⟨o1,o2,o3,o4,o5⟩:=h
   exact Z0d f g a ls hv h0 o1 o3 (by omega)
theorem Zz3 {f g a:Int} {ls:List Lt} (he:errC f ls=0) (h:okI f g a ls):errC (f+1) (inN g a ls)=0:=by
 obtain⟨o1,o2,o3,o4,o5⟩:=h
 by_cases h0:ls=[]
 · subst h0; exact Z0v (by omega) (by omega)
 · obtain⟨A,hA⟩:∃ A:Nat,a=(A:Int):=⟨a.toNat,by omega⟩
   subst hA
   exact((Zlq he h0).insert h0 o1 o2 (by omega) (by omega)).to
end Go.Known
end
section
namespace Go.Known
open Go Go.AE Go.Proofs
open Go.Plain
def okP (f g a:Int) (ls:List Lt):Prop:=0≤g∧g≤f∧0≤a∧a≤inG g ls
instance (f g a:Int) (ls:List Lt):Decidable (okP f g a ls):=by unfold okP; infer_instance
set_option maxRecDepth 100000 in
set_option maxHeartbeats 8000000 in
theorem cPlace (f g a:Int) (ls:List Lt) (hl:ls.length≤1000):PCall Tryz.prog 79 [cV f ls,plV g a] (.bool (decide (okP f g a ls))):=by
 refine Zbr hm Tryz.func79 Z3q rfl rfl (by simp [Zae,AVal.closed,Zab,plV]) trivial fun K hK=>?_
 have h37:=c37 f ls g hl
 have hcnt:cntP (fun l=>isP l&&l.g == g) ls=inG g ls:=rfl
 rw [hcnt] at h37
 have hin:inG g ls≤ls.length:=Za9
 have hrr:∀ q,Zam q (ls.map rowL)=ls.map rowL:=fun q=>Zaa q _ (Zab ls)
 have hY:okP f g a ls→K (.bool true) ⟨[],1⟩:=fun h=>by rw [← decide_eq_true h]; exact hK
 have hN:¬okP f g a ls→K (.bool false) ⟨[],1⟩:=fun h=>by rw [← decide_eq_false h]; exact hK
 clear hK
 unfold okP at hY hN
 unfold cV plV at *
 generalize ls.map rowL=rows at *
 by_cases h1:0≤g
 · by_cases h2:g≤f
   · by_cases h3:0≤a
     · simp [h1,h2,h3]
       refine Zby h37 ?_
       by_cases h4:a≤inG g ls
       · simp [h1,h2,h3,h4,FT.indep]
         exact endK (hY ⟨h1,h2,h3,h4⟩) [] (by simp)
       · simp [h1,h2,h3,h4,FT.indep]
         exact endK (hN fun h=>h4 h.2.2.2) [] (by simp)
     · simp [h1,h2,h3]
       exact endK (hN fun h=>h3 h.2.2.1) [] (by simp)
   · simp [h1,h2]
     exact endK (hN fun h=>h2 h.2.1) [] (by simp)
 · simp [h1]
   exact endK (hN fun h=>h1 h.1) [] (by simp)
end Go.Known
end
section
namespace Go.Known
open Go Go.AE Go.Proofs
open Go.Plain
def eM (fs:List Fg):SMem:=⟨[(1,.cells 1 [[.imm (fs.map rowG)]])],2⟩
def perF (fs:List Fg):Int:=(fgAt fs 0).p
def mixP (fs:List Fg):Bool:=fs.any fun x=>!decide (x.p=perF fs)
theorem c85m (x:Fg) (fs:List Fg) (h:0<fs.length):Ctr Tryz.prog 126 [.agg (rowG x),.ptr 1 0 0] (eM fs) fun r m=>r=.bool (!decide (x.p=perF fs))∧m=eM fs:=by
 refine Zit hm Tryz.func126 cf85 rfl rfl fun K hK=>?_
 have hgi:=Zd4 fs (i:=0) h
 obtain⟨hgl,hg2⟩:=getE hgi
 have hrr:∀ q,Zam q (fs.map rowG)=fs.map rowG:=fun q=>Zaa q _ (Zaf fs)
 have hlen:(fs.map rowG).length=fs.length:=List.length_map ..
 have h':(0:Int)<fs.length:=by omega
 unfold eM rowG perF at *
 generalize fs.map _=rows at *
 simp [hgi,hg2,hlen,h,h']
 exact endK hK [] (by simp [hrr])
set_option maxHeartbeats 1000000 in
theorem c121m (fs:List Fg) (h0:0<fs.length) (h:fs.length≤1000) :
 Ctr Tryz.prog 165 [.imm (fs.map rowG),.func (.func 126) [] [.ptr 1 0 0]] (eM fs) fun r m=>(∃ n:Int,r=.int .i64 n∧decide (0≤n)=mixP fs)∧m=eM fs:=by
 refine Zhq hm Tryz.func165 cf121 rfl rfl fun K hK=>?_
 have hrr:∀ q,Zam q (fs.map rowG)=fs.map rowG:=fun q=>Zaa q _ (Zaf fs)
 have hlen:(fs.map rowG).length=fs.length:=List.length_map ..
 have hg:=fun i hi=>Zd4 fs (i:=i) hi
 have hc:=fun x=>c85m x fs h0
 have fin:∀ (n:Int) m,decide (0≤n)=mixP fs→SubR 2 [] [(0,.int .i64 n)] (eM fs) [(0,.int .i64 n)] m→EndK 2 K (.int .i64 n) m:=
  fun n m hb h=>endK (hK (.int .i64 n) (eM fs) ⟨⟨n,rfl,hb⟩,rfl⟩) [] h
 clear hK
 unfold eM at *
 generalize fs.map rowG=rows at *
 simp
 refine Zay (α:=Nat) (fun i=>[(8,.int .i64 i),(7,.int .i64 fs.length),(1,.func (.func 126) [] [.ptr 1 0 0]),(0,.imm rows)]) (fun i=>⟨[(1,.cells 1 [[.imm rows]])],2⟩)
  (fun i=>fs.length - i) (fun i=>i≤fs.length ∧ ∀ j,j<i→(fgAt fs j).p=perF fs) 0 [] (by simp [hrr,hlen]) (by simp) ?_
 rintro i ⟨hi,hI⟩ N hN
 try simp only at hi hN ⊢
 by_cases hlt:i<fs.length
 · have hgi:=hg i hlt
   obtain⟨hgl,hg2⟩:=getE hgi
   have hw1:IntKind.i64.wrap ((i:Int)+1)=(i:Int)+1:=Zad (by omega) (by omega)
   have hci:=hc (fgAt fs i)
   unfold rowG at *
   simp [hlen,hlt,hgi,hg2]
   refine Za0 hci [] (by simp) (by simp [hrr]) (by simp) ?_
   rintro r sm ⟨rfl,rfl⟩
   by_cases hp:(fgAt fs i).p=perF fs
   · simp [hp,hw1,hrr]
     refine hN (i+1) [] _ _ (by omega) ⟨by omega,fun j hj=>?_⟩ (by simp [hrr])
     by_cases hji:j=i
     · subst hji; exact hp
     · exact hI j (by omega)
   · have hyes:mixP fs=true:=by
      unfold mixP
      rw [List.any_eq_true]
      exact⟨fs[i],List.getElem_mem hlt,by rw [← Zfs hlt]; simpa using hp⟩
     simp [hp,hrr]
     exact fin _ _ (by simp [hyes]) (by simp [hrr])
 · have hie:i=fs.length:=by omega
   have hno:mixP fs=false:=by
    unfold mixP
    rw [List.any_eq_false]
    intro x hx
    obtain⟨j,hj,rfl⟩:=List.getElem_of_mem hx
    have:=hI j (by omega)
    rw [Zfs hj] at this
    simpa using this
   subst hie
   simp [hlen]
   exact fin _ _ (by simp [hno]) (by simp [hrr])
theorem c84m (fs:List Fg) (h0:0<fs.length) (h:fs.length≤1000) :
 Ctr Tryz.prog 111 [.imm (fs.map rowG),.func (.func 126) [] [.ptr 1 0 0]] (eM fs) fun r m=>r=.bool (mixP fs)∧m=eM fs:=by
 refine Zit hm Tryz.func111 cf84 rfl rfl fun K hK=>?_
 have hrr:∀ q,Zam q (fs.map rowG)=fs.map rowG:=fun q=>Zaa q _ (Zaf fs)
 have hc:=c121m fs h0 h
 unfold eM at *
 generalize fs.map rowG=rows at *
 simp
 refine Za0 hc [] (by simp [hrr]) (by simp [hrr]) (by simp) ?_
 rintro r sm ⟨⟨n,rfl,hn⟩,rfl⟩
 simp [hn,hrr]
 exact endK hK [] (by simp [hrr])
end Go.Known
end
