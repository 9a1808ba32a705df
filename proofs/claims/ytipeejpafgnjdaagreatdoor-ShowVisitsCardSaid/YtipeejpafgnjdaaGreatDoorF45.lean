/- Part 45 of the proof: Wf, Wg, Wh, Wi. -/
import Derived.Test.YtipeejpafgnjdaaGreatDoorF16
import Derived.Test.YtipeejpafgnjdaaGreatDoorF33
import Derived.Test.YtipeejpafgnjdaaGreatDoorF44
set_option linter.all false
section
namespace Go.Known
open Go Go.AE Go.Proofs
open Go.Plain
def plV (g a:Int):AVal:=.agg [.int .i64 g,.int .i64 a]
section
variable {g a:Int} {l:Lt}
theorem in_gt (h:l.k=1) (hg:g<l.g):inL g a l={ l with g:=l.g+1 }:=by unfold inL; rw [if_pos ⟨h,.inl hg⟩,if_neg (by omega)]
theorem in_at (h:l.k=1) (hg:l.g=g) (hr:a<l.r):inL g a l={ l with g:=l.g+1,r:=l.r - a }:=by unfold inL; rw [if_pos ⟨h,.inr ⟨hg,hr⟩⟩,if_pos hg]
theorem in_no (hg:¬g<l.g) (hr:¬(l.g=g∧a<l.r)):inL g a l=l:=by unfold inL; rw [if_neg (fun e=>e.2.elim hg hr)]
end
end Go.Known
end
section
namespace Go.Known
open Go Go.AE Go.Proofs
open Go.Plain
def okI (f g a:Int) (ls:List Lt):Prop:=0≤g∧g≤f∧0≤a∧f<40∧a≤inG g ls
instance (f g a:Int) (ls:List Lt):Decidable (okI f g a ls):=by unfold okI; infer_instance
def noC (e:Int):AVal:=.tuple [.agg [.int .i64 0,.nilSl],.int .i64 e]
theorem fz_noC (e:Int):freezeV (SMem.get ⟨[],1⟩) 4 (noC e)=some (noC e):=rfl
set_option maxRecDepth 100000 in
set_option maxHeartbeats 16000000 in
theorem cInsert (f g a:Int) (ls:List Lt) (hv:ValR f ls) (h0:ls≠[]) (hok:okI f g a ls):PCall Tryz.prog 127 [cV f ls,plV g a] (.tuple [cV (f+1) (inN g a ls),.int .i64 0]):=by
 refine PCall_F hm 4 Tryz.func127 cf86 rfl rfl (by simp [closedL,AVal.closed,closed_rows,plV]) (by simp [AVal.closed,closedL,closed_rows]) fun K hK=>?_
 obtain⟨o1,o2,o3,o4,o5⟩:=hok
 have hl:ls.length≤1000:=by have:=hv.len; omega
 have hhi:=hv.hi
 have hq:∀ l,l∈ls→l.k=1→1≤l.r∧l.r≤inG l.g ls∧0≤l.g∧l.g≤f:=fun l hm hk=>(hv.key hm (by simp [isP,hk])).2
 have h59:=c59 f ls hl
 have he:=hv.to
 have h31:=c31s (ls.map rowL) (by simpa using h0) (by simpa using hl) (rows6 ls) (closed_rows ls)
 have hin:inG g ls≤ls.length:=cntP_le_one
 have hMg:=fun i hi=>mix_get (g:=inL g a) (ls:=ls) (i:=i) hi
 have hMs:=fun i hi=>mix_set (g:=inL g a) (ls:=ls) (i:=i) hi
 have hMe:=fun i hi hg=>mix_same (g:=inL g a) (ls:=ls) (i:=i) hi hg
 have hMl:∀ i,((mix (inL g a) i ls).map rowL).length=ls.length:=fun i=>by rw [List.length_map,mix_len]
 have hMc:∀ i q,renLL q ((mix (inL g a) i ls).map rowL)=(mix (inL g a) i ls).map rowL:=fun i q=>renLL_closed q _ (closed_rows _)
 have hM0:(mix (inL g a) 0 ls).map rowL=ls.map rowL:=by rw [mix_zero]
 have hMn:(mix (inL g a) ls.length ls).map rowL=(inN g a ls).map rowL:=by rw [mix_all]; rfl
 have hsl:(inN g a ls).length=ls.length:=by simp [inN]
 have hKv:=hK _ _ (fz_cVt (f+1) (inN g a ls))
 clear hK
 unfold cV dF dM dV2 plV at *
 rw [← hMn,hsl] at hKv
 have hlen:(ls.map rowL).length=ls.length:=List.length_map ..
 have hrr:∀ q,renLL q (ls.map rowL)=ls.map rowL:=fun q=>renLL_closed q _ (closed_rows ls)
 obtain⟨M,hM⟩:∃ M:Nat→List (List AVal),(fun i=>(mix (inL g a) i ls).map rowL)=M:=⟨_,rfl⟩
 have hMi:∀ i,(mix (inL g a) i ls).map rowL=M i:=fun i=>by rw [← hM]
 simp only [hMi] at hMg hMs hMe hMl hMc hM0 hMn hKv
 clear hM hMi
 have wf:IntKind.i64.wrap (f+1)=f+1:=wrap64 (by omega) (by omega)
 have hpos:0<ls.length:=List.length_pos_iff.2 h0
 generalize ls.map rowL=rows at *
 generalize hBe:bls (fillN ls.length ls.length (downV ls) false)=B at *
 generalize hCe:nums (fillN ls.length ls.length (placeV ls) 0)=C at *
 generalize hAe:nums (axis ls)=A at *
 have hrA:∀ q,renLL q A=A:=fun q=>by rw [← hAe]; exact ren_nums q _
 have hrB:∀ q,renLL q B=B:=fun q=>by rw [← hBe]; exact ren_bls q _
 have hrC:∀ q,renLL q C=C:=fun q=>by rw [← hCe]; exact ren_nums q _
 clear hBe hCe hAe
 generalize (axis ls).length=m at *
 generalize crE ls ls.length=E at *
 simp
 refine SC_ctr h59 [] (by simp [hrr]) (by simp) (by simp) ?_
 rintro r sm (⟨h1,_⟩ | ⟨_,h1,_⟩ | ⟨_,_,hf0,hf1,_,rfl,rfl⟩)
 · exact absurd he h1
 · exact absurd h1 h0
 obtain⟨F,hF⟩:∃ F:Nat,f=(F:Int):=⟨f.toNat,by omega⟩
 subst hF
 obtain⟨G,hG⟩:∃ G:Nat,g=(G:Int):=⟨g.toNat,by omega⟩
 subst hG
 have hn1:¬(G:Int)<0:=by omega
 have hn2:¬(F:Int)<(G:Int):=by omega
 have hn3:¬a<0:=by omega
 have hn4:¬(40:Int)≤(F:Int):=by omega
 have hn5:¬(ls.length:Int)=0:=by omega
 have hn6:(0:Int)<(ls.length:Int):=by omega
 have hcl:(nums (cnts F ls)).length=F+1:=by rw [len_nums,cnts_length]
 have hG1:G<F+1:=by omega
 have hc0:=cnts_get (ls:=ls) (g:=G) (F:=F) (by omega)
 have hc2:=nums_get hc0
 obtain⟨hc3,hc4⟩:=getE hc2
 have hn7:¬(inG (G:Int) ls:Int)<a:=by omega
 have k2:¬F<G:=by omega
 have k4:¬40≤F:=by omega
 have k5:¬ls.length=0:=by omega
 simp [hrr,hrA,hrB,hrC,ren_mkE,ren_nums,hn1,hn2,hn3,hn4,hn5,hn6,hn7,k2,k4,k5,h0,hpos,hlen,hcl,hG1,hc2,hc4]
 refine SC_ctr h31 [] (by simp [hrr]) (by simp) (by simp) ?_
 rintro r sm ⟨rfl,rfl⟩
 simp [hrr,hrA,hrB,hrC,ren_mkE,ren_nums,hlen]
 refine wZ_loop (α:=Nat) (fun i=>[(84,.int .i64 i),(83,.int .i64 ls.length),(82,.sl 10 0 ls.length),(8,.sl 10 0 ls.length),(6,.ptr 4 0 0),(4,.ptr 3 0 0),(3,.ptr 2 0 0),(2,.ptr 1 0 0)])
  (fun i=>⟨[(10,.cells 6 (M i)),(4,.cells 7 [[.int .i64 (F:Int),.imm rows,.sl 6 0 ls.length,.sl 8 0 m,.sl 7 0 ls.length,.map 9,.sl 5 0 (F+1)]]),(5,.cells 1 (nums (cnts F ls))),(6,.cells 1 B),(7,.cells 1 C),(8,.cells 1 A),(9,.map (mkE 0 E) E.length),(3,.cells 2 [[.int .i64 0,.nilSl]]),(2,.cells 2 [[.int .i64 G,.int .i64 a]]),(1,.cells 2 [[.int .i64 F,.imm rows]])],11⟩)
  (fun i=>ls.length - i) (fun i=>i≤ls.length) 0 [(10,81),(4,12),(5,13),(6,14),(7,15),(8,16),(9,17)] (by simp [hrr,hrA,hrB,hrC,ren_mkE,ren_nums,hM0]) (by simp) ?_
 intro i hi N hN
 try simp only at hi hN ⊢
 by_cases hlt:i<ls.length
 · have hg:=hMg i hlt
   obtain⟨hgl,hg2⟩:=getE hg
   have hset:=hMs i hlt
   have hw:IntKind.i64.wrap ((i:Int)+1)=(i:Int)+1:=wrap64 (by omega) (by omega)
   have hlM:=hMl i
   have hN':=hN (i+1) []
   by_cases hk:(at' ls i).k=1
   · obtain⟨q1,q2,q3,q4⟩:=hq _ (at'_mem hlt) hk
     have hin2:inG (at' ls i).g ls≤ls.length:=cntP_le_one
     have wg:IntKind.i64.wrap ((at' ls i).g+1)=(at' ls i).g+1:=wrap64 (by omega) (by omega)
     have wr':IntKind.i64.wrap ((at' ls i).r - a)=(at' ls i).r - a:=wrap64 (by omega) (by omega)
     by_cases hgt:(G:Int)<(at' ls i).g
     · rw [in_gt hk hgt] at hset
       simp only [rowL,hk] at hset
       have hge:¬(at' ls i).g<(G:Int):=by omega
       simp [hlt,hg,hg2,hlM,hlen,rowL,hk,hgt,hge,hw,wg]
       exact hN' _ _ (by omega) (by omega) (by simp [hrr,hrA,hrB,hrC,ren_mkE,ren_nums,hMc,hset])
     · by_cases hgn:(at' ls i).g=G
       · by_cases hra:a<(at' ls i).r
         · rw [in_at hk hgn hra] at hset
           simp only [rowL,hk,hgn] at hset
           rw [hgn] at wg
           simp [hlt,hg,hg2,hlM,hlen,rowL,hk,hgn,hra,hw,wg,wr']
           exact hN' _ _ (by omega) (by omega) (by simp [hrr,hrA,hrB,hrC,ren_mkE,ren_nums,hMc,hset])
         · have hsame:=hMe i hlt (in_no hgt fun e=>hra e.2)
           rw [hsame] at hN'
           simp [hlt,hg,hg2,hlM,hlen,rowL,hk,hgn,hra,hw]
           exact hN' _ _ (by omega) (by omega) (by simp [hrr,hrA,hrB,hrC,ren_mkE,ren_nums,hMc])
       · have hsame:=hMe i hlt (in_no hgt fun e=>hgn e.1)
         rw [hsame] at hN'
         have hlo:(at' ls i).g<(G:Int):=by omega
         simp [hlt,hg,hg2,hlM,hlen,rowL,hk,hlo,hw]
         exact hN' _ _ (by omega) (by omega) (by simp [hrr,hrA,hrB,hrC,ren_mkE,ren_nums,hMc])
   · have hsame:=hMe i hlt (in_cross hk)
     rw [hsame] at hN'
     simp [hlt,hg,hg2,hlM,hlen,rowL,hk,hw]
     exact hN' _ _ (by omega) (by omega) (by simp [hrr,hrA,hrB,hrC,ren_mkE,ren_nums,hMc])
 · have hie:i=ls.length:=by omega
   subst hie
   simp [hlt,wf]
   exact endK hKv [(1,10)] (by simp [hrr,hMc])
set_option maxRecDepth 100000 in
set_option maxHeartbeats 16000000 in
theorem cInsertX (f g a:Int) (ls:List Lt) (hv:ValR f ls) (h0:ls≠[]) (hok:¬okI f g a ls):PCall Tryz.prog 127 [cV f ls,plV g a] (noC 2):=by
 refine PCall_F hm 4 Tryz.func127 cf86 rfl rfl (by simp [closedL,AVal.closed,closed_rows,plV]) rfl fun K hK=>?_
 have hl:ls.length≤1000:=by have:=hv.len; omega
 have h59:=c59 f ls hl
 have he:=hv.to
 have hKv:=hK _ _ (fz_noC 2)
 clear hK
 unfold okI at hok
 unfold noC at hKv
 unfold cV dF dM dV2 plV at *
 have hlen:(ls.map rowL).length=ls.length:=List.length_map ..
 have hrr:∀ q,renLL q (ls.map rowL)=ls.map rowL:=fun q=>renLL_closed q _ (closed_rows ls)
 have hpos:0<ls.length:=List.length_pos_iff.2 h0
 generalize ls.map rowL=rows at *
 generalize hBe:bls (fillN ls.length ls.length (downV ls) false)=B at *
 generalize hCe:nums (fillN ls.length ls.length (placeV ls) 0)=C at *
 generalize hAe:nums (axis ls)=A at *
 have hrA:∀ q,renLL q A=A:=fun q=>by rw [← hAe]; exact ren_nums q _
 have hrB:∀ q,renLL q B=B:=fun q=>by rw [← hBe]; exact ren_bls q _
 have hrC:∀ q,renLL q C=C:=fun q=>by rw [← hCe]; exact ren_nums q _
 clear hBe hCe hAe
 generalize (axis ls).length=m at *
 generalize crE ls ls.length=E at *
 simp
 refine SC_ctr h59 [] (by simp [hrr]) (by simp) (by simp) ?_
 rintro r sm (⟨h1,_⟩ | ⟨_,h1,_⟩ | ⟨_,_,hf0,hf1,_,rfl,rfl⟩)
 · exact absurd he h1
 · exact absurd h1 h0
 obtain⟨F,hF⟩:∃ F:Nat,f=(F:Int):=⟨f.toNat,by omega⟩
 subst hF
 by_cases hn1:g<0
 · simp [hrr,hrA,hrB,hrC,ren_mkE,ren_nums,hn1]
   exact endK hKv [] (by simp)
 obtain⟨G,hG⟩:∃ G:Nat,g=(G:Int):=⟨g.toNat,by omega⟩
 subst hG
 by_cases hn2:(F:Int)<(G:Int)
 · have k2:F<G:=by omega
   simp [hrr,hrA,hrB,hrC,ren_mkE,ren_nums,hn1,hn2,k2]
   exact endK hKv [] (by simp)
 have k2:¬F<G:=by omega
 by_cases hn3:a<0
 · simp [hrr,hrA,hrB,hrC,ren_mkE,ren_nums,hn1,hn2,k2,hn3]
   exact endK hKv [] (by simp)
 by_cases hn4:(40:Int)≤(F:Int)
 · have k4:40≤F:=by omega
   simp [hrr,hrA,hrB,hrC,ren_mkE,ren_nums,hn1,hn2,k2,hn3,hn4,k4]
   exact endK hKv [] (by simp)
 have k4:¬40≤F:=by omega
 have k5:¬ls.length=0:=by omega
 have hn5:¬(ls.length:Int)=0:=by omega
 have hn6:(0:Int)<(ls.length:Int):=by omega
 have hcl:(nums (cnts F ls)).length=F+1:=by rw [len_nums,cnts_length]
 have hG1:G<F+1:=by omega
 have hc0:=cnts_get (ls:=ls) (g:=G) (F:=F) (by omega)
 have hc2:=nums_get hc0
 obtain⟨hc3,hc4⟩:=getE hc2
 have hn7:(inG (G:Int) ls:Int)<a:=by omega
 simp [hrr,hrA,hrB,hrC,ren_mkE,ren_nums,hn1,hn2,hn3,hn4,hn5,hn6,hn7,k2,k4,k5,h0,hpos,hlen,hcl,hG1,hc2,hc4]
 exact endK hKv [] (by simp)
set_option maxRecDepth 100000 in
set_option maxHeartbeats 16000000 in
attribute [local simp] w00 in
theorem cInsert0 (f g a:Int) (he:errC f []=0):PCall Tryz.prog 127 [cV f [],plV g a] (if okI f g a [] then .tuple [cV (f+1) [],.int .i64 0] else noC 2):=by
 have hlo:=errC_lo he
 have h59:=c59 f [] (by simp)
 have h31:=c31e
 have hwf:(if okI f g a [] then AVal.tuple [cV (f+1) [],.int .i64 0] else noC 2).closed=true:=by split<;>rfl
 refine PCall_F hm 4 Tryz.func127 cf86 rfl rfl (by simp [closedL,AVal.closed,closedLL,plV]) hwf fun K hK=>?_
 have hY:okI f g a []→K (.tuple [cV (f+1) [],.int .i64 0]) ⟨[],1⟩:=fun h=>by
  refine hK _ ⟨[],1⟩ ?_
  rw [if_pos h]
  exact fz_code (f+1) []
 have hN:¬okI f g a []→K (noC 2) ⟨[],1⟩:=fun h=>by
  refine hK _ ⟨[],1⟩ ?_
  rw [if_neg h]
  exact fz_noC 2
 clear hK hwf
 have hi0:inG g []=0:=rfl
 unfold okI at hY hN
 rw [hi0] at hY hN
 unfold noC at hN
 unfold cV dM1 dV0 plV at *
 simp
 refine SC_ctr h59 [] (by simp) (by simp) (by simp) ?_
 rintro r sm (⟨h1,_⟩ | ⟨_,_,q1,q2,rfl,rfl⟩ | ⟨_,h1,_⟩)
 · exact absurd he h1
 · by_cases hn1:g<0
   · simp [hn1]
     exact endK (hN (by omega)) [] (by simp)
   by_cases hn2:f<g
   · simp [hn1,hn2]
     exact endK (hN (by omega)) [] (by simp)
   by_cases hn3:a<0
   · simp [hn1,hn2,hn3]
     exact endK (hN (by omega)) [] (by simp)
   by_cases hn4:40≤f
   · simp [hn1,hn2,hn3,hn4]
     exact endK (hN (by omega)) [] (by simp)
   by_cases hn5:0<a
   · simp [hn1,hn2,hn3,hn4,hn5]
     exact endK (hN (by omega)) [] (by simp)
   have hKv:=hY ⟨by omega,by omega,by omega,by omega,by omega⟩
   have wf:IntKind.i64.wrap (f+1)=f+1:=wrap64 (by omega) (by omega)
   simp [hn1,hn2,hn3,hn4,hn5]
   refine SC_pure h31 ?_
   simp
   refine wZ_loop (α:=Unit) (fun _=>[(84,.int .i64 0),(83,.int .i64 0),(8,.imm []),(4,.ptr 3 0 0),(2,.ptr 1 0 0)])
    (fun _=>⟨[(3,.cells 2 [[.int .i64 0,.nilSl]]),(1,.cells 2 [[.int .i64 f,.imm []]])],4⟩) (fun _=>0) (fun _=>True) () [] (by simp) trivial ?_
   intro _ _ N hN
   simp [wf]
   exact endK hKv [] (by simp)
 · exact absurd rfl h1
theorem cInsertA (f g a:Int) (ls:List Lt) (he:errC f ls=0):PCall Tryz.prog 127 [cV f ls,plV g a] (if okI f g a ls then .tuple [cV (f+1) (inN g a ls),.int .i64 0] else noC 2):=by
 by_cases h0:ls=[]
 · subst h0; exact cInsert0 f g a he
 · by_cases h:okI f g a ls
   · rw [if_pos h]; exact cInsert f g a ls (valR_of he h0) h0 h
   · rw [if_neg h]; exact cInsertX f g a ls (valR_of he h0) h0 h
theorem errC_ins {f g a:Int} {ls:List Lt} (he:errC f ls=0) (h:okI f g a ls):errC (f+1) (inN g a ls)=0:=by
 obtain⟨o1,o2,o3,o4,o5⟩:=h
 by_cases h0:ls=[]
 · subst h0; exact errC_nil (by omega) (by omega)
 · obtain⟨A,hA⟩:∃ A:Nat,a=(A:Int):=⟨a.toNat,by omega⟩
   subst hA
   exact((valR_of he h0).insert h0 o1 o2 (by omega) (by omega)).to
end Go.Known
end
section
namespace Go.Known
open Go Go.AE Go.Proofs
open Go.Plain
def okP (f g a:Int) (ls:List Lt):Prop:=0≤g∧g≤f∧0≤a∧a≤inG g ls
instance (f g a:Int) (ls:List Lt):Decidable (okP f g a ls):=by unfold okP; infer_instance
end Go.Known
end
section
namespace Go.Known
open Go Go.AE Go.Proofs
open Go.Plain
def eM (fs:List Fg):SMem:=⟨[(1,.cells 1 [[.imm (fs.map rowG)]])],2⟩
def perF (fs:List Fg):Int:=(fgAt fs 0).p
def mixP (fs:List Fg):Bool:=fs.any fun x=>!decide (x.p=perF fs)
theorem c85m (x:Fg) (fs:List Fg) (h:0<fs.length):Ctr Tryz.prog 126 [.agg (rowG x),.ptr 1 0 0] (eM fs) fun r m=>r=.bool (!decide (x.p=perF fs))∧m=eM fs:=by
 refine ctr_1 hm Tryz.func126 cf85 rfl rfl fun K hK=>?_
 have hgi:=get_rowG fs (i:=0) h
 obtain⟨hgl,hg2⟩:=getE hgi
 have hrr:∀ q,renLL q (fs.map rowG)=fs.map rowG:=fun q=>renLL_closed q _ (closed_rowG fs)
 have hlen:(fs.map rowG).length=fs.length:=List.length_map ..
 have h':(0:Int)<fs.length:=by omega
 unfold eM rowG perF at *
 generalize fs.map _=rows at *
 simp [hgi,hg2,hlen,h,h']
 exact endK hK [] (by simp [hrr])
set_option maxHeartbeats 1000000 in
theorem c121m (fs:List Fg) (h0:0<fs.length) (h:fs.length≤1000) :
 Ctr Tryz.prog 165 [.imm (fs.map rowG),.func (.func 126) [] [.ptr 1 0 0]] (eM fs) fun r m=>(∃ n:Int,r=.int .i64 n∧decide (0≤n)=mixP fs)∧m=eM fs:=by
 refine ctr_P hm Tryz.func165 cf121 rfl rfl fun K hK=>?_
 have hrr:∀ q,renLL q (fs.map rowG)=fs.map rowG:=fun q=>renLL_closed q _ (closed_rowG fs)
 have hlen:(fs.map rowG).length=fs.length:=List.length_map ..
 have hg:=fun i hi=>get_rowG fs (i:=i) hi
 have hc:=fun x=>c85m x fs h0
 have fin:∀ (n:Int) m,decide (0≤n)=mixP fs→SubR 2 [] [(0,.int .i64 n)] (eM fs) [(0,.int .i64 n)] m→EndK 2 K (.int .i64 n) m:=
  fun n m hb h=>endK (hK (.int .i64 n) (eM fs) ⟨⟨n,rfl,hb⟩,rfl⟩) [] h
 clear hK
 unfold eM at *
 generalize fs.map rowG=rows at *
 simp
 refine wZ_loop (α:=Nat) (fun i=>[(8,.int .i64 i),(7,.int .i64 fs.length),(1,.func (.func 126) [] [.ptr 1 0 0]),(0,.imm rows)]) (fun i=>⟨[(1,.cells 1 [[.imm rows]])],2⟩)
  (fun i=>fs.length - i) (fun i=>i≤fs.length ∧ ∀ j,j<i→(fgAt fs j).p=perF fs) 0 [] (by simp [hrr,hlen]) (by simp) ?_
 rintro i ⟨hi,hI⟩ N hN
 try simp only at hi hN ⊢
 by_cases hlt:i<fs.length
 · have hgi:=hg i hlt
   obtain⟨hgl,hg2⟩:=getE hgi
   have hw1:IntKind.i64.wrap ((i:Int)+1)=(i:Int)+1:=wrap64 (by omega) (by omega)
   have hci:=hc (fgAt fs i)
   unfold rowG at *
   simp [hlen,hlt,hgi,hg2]
   refine SC_ctr hci [] (by simp) (by simp [hrr]) (by simp) ?_
   rintro r sm ⟨rfl,rfl⟩
   by_cases hp:(fgAt fs i).p=perF fs
   · simp [hp,hw1,hrr]
     refine hN (i+1) [] _ _ (by omega) ⟨by omega,fun j hj=>?_⟩ (by simp [hrr])
     by_cases hji:j=i
     · subst hji; exact hp
     · exact hI j (by omega)
   · have hyes:mixP fs=true:=by
      unfold mixP
      rw [List.any_eq_true]
      exact⟨fs[i],List.getElem_mem hlt,by rw [← fgAt_eq hlt]; simpa using hp⟩
     simp [hp,hrr]
     exact fin _ _ (by simp [hyes]) (by simp [hrr])
 · have hie:i=fs.length:=by omega
   have hno:mixP fs=false:=by
    unfold mixP
    rw [List.any_eq_false]
    intro x hx
    obtain⟨j,hj,rfl⟩:=List.getElem_of_mem hx
    have:=hI j (by omega)
    rw [fgAt_eq hj] at this
    simpa using this
   subst hie
   simp [hlen]
   exact fin _ _ (by simp [hno]) (by simp [hrr])
theorem c84m (fs:List Fg) (h0:0<fs.length) (h:fs.length≤1000) :
 Ctr Tryz.prog 111 [.imm (fs.map rowG),.func (.func 126) [] [.ptr 1 0 0]] (eM fs) fun r m=>r=.bool (mixP fs)∧m=eM fs:=by
 refine ctr_1 hm Tryz.func111 cf84 rfl rfl fun K hK=>?_
 have hrr:∀ q,renLL q (fs.map rowG)=fs.map rowG:=fun q=>renLL_closed q _ (closed_rowG fs)
 have hc:=c121m fs h0 h
 unfold eM at *
 generalize fs.map rowG=rows at *
 simp
 refine SC_ctr hc [] (by simp [hrr]) (by simp [hrr]) (by simp) ?_
 rintro r sm ⟨⟨n,rfl,hn⟩,rfl⟩
 simp [hn,hrr]
 exact endK hK [] (by simp [hrr])
end Go.Known
end
