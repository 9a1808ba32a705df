/- Part 53 of the proof: Sc. -/
import Derived.Test.YtmfdlchjaldclaaGreatDoorA15
import Derived.Test.YtmfdlchjaldclaaGreatDoorA50
import Derived.Test.YtmfdlchjaldclaaGreatDoorA51
import Derived.Test.YtmfdlchjaldclaaGreatDoorA52
set_option linter.all false
namespace Go.Known
open Go Go.AE Go.Proofs
open Go.Plain
theorem known9c:PCall Tryz.prog 10 [] (.bool true):=mo33
set_option maxHeartbeats 4000000 in
theorem c35v (l:List Nat) (hl:l.length≤10000):PCall Tryz.prog 27 [imV (nums l),imV (nums l)] (.bool true):=by
 by_cases h0:l=[]
 · subst h0
   show PCall Tryz.prog 27 [.nilSl,.nilSl] (.bool true)
   refine PCall_1 hm Tryz.func27 cf35 rfl rfl rfl trivial fun K hK=>?_
   simp
   refine wZ_loop (α:=Unit) (fun _=>[(5,.int .i64 0),(0,.nilSl)]) (fun _=>⟨[],1⟩) (fun _=>0) (fun _=>True) () [] (by simp) trivial ?_
   intro _ _ N hN
   simp
   exact endK hK [] (by simp)
 · have:=c35e l hl
   rw [imV_ne (rows:=nums l) (by simpa [nums] using h0)] at this ⊢
   exact this
def cornS (ps:List Pol) (i:Nat):Nat:=((ps.take i).map fun p=>p.1).sum
def sideS (ps:List Pol) (i:Nat):Nat:=((ps.take i).map fun p=>p.2.1).sum
theorem cornS_zero (ps:List Pol):cornS ps 0=0:=rfl
theorem sideS_zero (ps:List Pol):sideS ps 0=0:=rfl
theorem cornS_succ {ps:List Pol} {i:Nat} {p:Pol} (h:ps[i]? = some p):cornS ps (i+1)=cornS ps i+p.1:=by
 unfold cornS
 rw [List.take_add_one,h]
 simp
theorem sideS_succ {ps:List Pol} {i:Nat} {p:Pol} (h:ps[i]? = some p):sideS ps (i+1)=sideS ps i+p.2.1:=by
 unfold sideS
 rw [List.take_add_one,h]
 simp
theorem cornS_all (ps:List Pol):cornS ps ps.length=(ps.map fun p=>p.1).sum:=by unfold cornS; rw [List.take_length]
theorem sideS_all (ps:List Pol):sideS ps ps.length=(ps.map fun p=>p.2.1).sum:=by unfold sideS; rw [List.take_length]
theorem sum_take_le (g:Pol→Nat) (ps:List Pol) (i:Nat):((ps.take i).map g).sum≤(ps.map g).sum:=by
 conv=>rhs; rw [← List.take_append_drop i ps,List.map_append,List.sum_append]
 omega
theorem corn_facts (f:Int) (ls:List Lt) (he:errC f ls=0):((polys ls).map fun p=>p.1).sum=2*visits ls∧((polys ls).map fun p=>p.2.1).sum=2*ls.length ∧
 (∀ p,p∈polys ls→p.1≤p.2.1∧(p.2.2=true→p.1=p.2.1))∧visits ls % 2=0∧visits ls≤ls.length:=by
 by_cases h0:ls=[]
 · subst h0
   rw [polys_nil]
   refine⟨rfl,rfl,fun p hp=>by simp at hp,rfl,by simp [visits,cntP]⟩
 · have hv:=valR_of he h0
   exact⟨corners_sum hv h0,sides_sum hv h0,polys_corn hv h0,(ValR.ranks hv.lo hv.okr).2.2.1,cntP_le_one⟩
set_option maxRecDepth 100000 in
set_option maxHeartbeats 16000000 in
theorem cCorn (f:Int) (ls:List Lt) (which:Int):PCall Tryz.prog 7 [cV f ls,.int .i64 which] (.bool true):=by
 refine PCall_1 hm Tryz.func7 ch8 rfl rfl (by simp [closedL,AVal.closed,closed_rows]) trivial fun K hK=>?_
 have hrr:∀ q,renLL q (ls.map rowL)=ls.map rowL:=fun q=>renLL_closed q _ (closed_rows ls)
 have hlen:(ls.map rowL).length=ls.length:=List.length_map ..
 have h18:=c18 f ls
 by_cases hs:ls.length≤40∧errC f ls=0
 rotate_left
 · have hb:(decide (ls.length≤40)&&decide (errC f ls=0))=false:=by simpa using hs
   rw [hb] at h18
   clear hs hb
   unfold cV at *
   generalize ls.map rowL=rows at *
   simp
   refine SC_pure h18 ?_
   simp
   refine SC_pure known9c ?_
   simp
   exact endK hK [] (by simp)
 obtain⟨hl,he⟩:=hs
 have hb:(decide (ls.length≤40)&&decide (errC f ls=0))=true:=by simp [hl,he]
 rw [hb] at h18
 clear hb
 by_cases hw0:which<0
 · unfold cV at *
   generalize ls.map rowL=rows at *
   simp
   refine SC_pure h18 ?_
   simp [hw0]
   refine SC_pure known9c ?_
   simp
   exact endK hK [] (by simp)
 by_cases hw7:7<which
 · unfold cV at *
   generalize ls.map rowL=rows at *
   simp
   refine SC_pure h18 ?_
   simp [hw0,hw7]
   refine SC_pure known9c ?_
   simp
   exact endK hK [] (by simp)
 obtain⟨k,hk⟩:∃ k:Nat,which=(k:Int):=⟨which.toNat,by omega⟩
 subst hk
 have hk8:k<8:=by omega
 have hsy:(symRs 8)[k]? = some (symR k):=by
  unfold symRs
  rw [List.getElem?_map,List.getElem?_range hk8]
  rfl
 obtain⟨hi1,hi2,hi3,hi4⟩:=c9w f ls (decide (4≤k)) (decide (2≤k % 4)) (decide (k % 2=1)) (by omega) he
 have h7:=c7v f ls (by omega) he
 have h8:=c8v f ls (by omega) he
 have h8d:=c8v f _ hi3 hi2
 rw [hi4] at h8d
 have h17:=c17 f ls (by omega)
 obtain⟨p1,p2⟩:=polys_le (f:=f) (ls:=ls) (by omega) he
 have h35:=c35v (patP (polys ls)) (Nat.le_trans (patP_le (b:=6000) (polys ls) [] (by simp) p2) (by omega))
 obtain⟨q1,q2,q3,q4,q5⟩:=corn_facts f ls he
 have hdr:∀ q,renLL q ((img3 (decide (k % 2=1)) (img2 f (decide (2≤k % 4)) (img1 (decide (4≤k)) ls))).map rowL)=(img3 (decide (k % 2=1)) (img2 f (decide (2≤k % 4)) (img1 (decide (4≤k)) ls))).map rowL:=fun q=>renLL_closed q _ (closed_rows _)
 have hpl:(prowP (polys ls)).length=(polys ls).length:=prowP_length _
 have hpg:∀ (i:Nat) (p:Pol),(polys ls)[i]? = some p→(prowP (polys ls))[i]? = some [.int .i64 (p.1:Nat),.int .i64 (p.2.1:Nat),.bool p.2.2]:=fun i p=>prowP_get
 have hpc:=closed_imV (closed_prowP (polys ls))
 have hpr:∀ q,renLL q (prowP (polys ls))=prowP (polys ls):=fun q=>ren_prowP q _
 have hcl:∀ i,cornS (polys ls) i≤2*visits ls:=fun i=>by rw [← q1]; exact sum_take_le _ _ _
 have hsl:∀ i,sideS (polys ls) i≤2*ls.length:=fun i=>by rw [← q2]; exact sum_take_le _ _ _
 have hce:cornS (polys ls) (polys ls).length=2*visits ls:=by rw [cornS_all,q1]
 have hse:sideS (polys ls) (polys ls).length=2*ls.length:=by rw [sideS_all,q2]
 have hcs:=fun (i:Nat) (p:Pol) (h:(polys ls)[i]? = some p)=>cornS_succ h
 have hss:=fun (i:Nat) (p:Pol) (h:(polys ls)[i]? = some p)=>sideS_succ h
 have hc0:cornS (polys ls) 0=0:=cornS_zero _
 have hs0:sideS (polys ls) 0=0:=sideS_zero _
 have hcA:=closed_imV (closed_nums (patP (polys ls)))
 have h23:=c23
 have hsr:=closed_symRs 8
 unfold cV symR at *
 generalize (img3 (decide (k % 2=1)) (img2 f (decide (2≤k % 4)) (img1 (decide (4≤k)) ls))).map rowL=rowsD at *
 generalize ls.map rowL=rows at *
 generalize visits ls=vn at *
 generalize cornS (polys ls)=cS at *
 generalize sideS (polys ls)=sS at *
 generalize symRs 8=S at *
 generalize imV (nums (patP (polys ls)))=A at *
 generalize polys ls=ps at *
 generalize prowP ps=P at *
 have hpn:0<ps.length→imV P=.imm P:=fun h=>imV_ne (by intro e; rw [e] at hpl; simp at hpl; omega)
 have hpr':∀ q,(imV P).ren q=imV P:=fun q=>AVal.ren_closed q _ hpc
 have hAr:∀ q,A.ren q=A:=fun q=>AVal.ren_closed q _ hcA
 have hkw0:¬((k:Int)<0):=by omega
 have hkw7:¬((7:Int)<(k:Int)):=by omega
 simp
 refine SC_pure h18 ?_
 simp [hkw0,hkw7]
 refine SC_pure h7 ?_
 simp
 refine wZ_loop (α:=Nat) (fun i=>[(9,.int .i64 i),(8,.int .i64 (sS i:Nat)),(7,.int .i64 (cS i:Nat)),(6,.int .i64 0),(5,imV P),(4,.bool false),(2,.ptr 1 0 0),(1,.int .i64 k),(0,.agg [.int .i64 f,.imm rows])]) (fun _=>⟨[(1,.cells 2 [[.int .i64 f,.imm rows]])],2⟩) (fun i=>ps.length - i) (fun i=>i≤ps.length) 0 [] (by simp [hpr',hrr,hc0,hs0]) (by simp) ?_
 intro i hi N hN
 try simp only at hi hN ⊢
 by_cases hlt:i<ps.length
 · obtain⟨p,hp⟩:∃ p,ps[i]? = some p:=⟨_,List.getElem?_eq_getElem hlt⟩
   have hg:=hpg i p hp
   obtain⟨_,hg2⟩:=getE hg
   have hw:IntKind.i64.wrap ((i:Int)+1)=(i:Int)+1:=wrap64 (by omega) (by omega)
   have hci:=hcs i p hp
   have hsi:=hss i p hp
   have hcl':=hcl (i+1)
   have hsl':=hsl (i+1)
   have hwc:IntKind.i64.wrap ((cS i:Int)+(p.1:Int))=((cS (i+1):Nat):Int):=by rw [hci]; exact(wrap64 (by omega) (by omega)).trans (by omega)
   have hws:IntKind.i64.wrap ((sS i:Int)+(p.2.1:Int))=((sS (i+1):Nat):Int):=by rw [hsi]; exact(wrap64 (by omega) (by omega)).trans (by omega)
   obtain⟨r1,r2⟩:=q3 p (List.mem_of_getElem? hp)
   have hN':=hN (i+1) []
   have r1':¬((p.2.1:Int)<(p.1:Int)):=by omega
   have r1'':¬(p.2.1<p.1):=by omega
   rw [hpn (by omega)] at hN' hpr' ⊢
   cases hin:p.2.2 with
   | true=>
    have e:=r2 hin
    have e':decide (p.1=p.2.1)=true:=decide_eq_true e
    rw [e] at hwc
    simp [hlt,hpl,hg,hg2,hw,hwc,hws,hin,r1',r1'',e]
    exact hN' _ _ (by omega) (by omega) (by simp [hpr,hrr])
   | false=>
    simp [hlt,hpl,hg,hg2,hw,hwc,hws,hin,r1',r1'']
    exact hN' _ _ (by omega) (by omega) (by simp [hpr,hrr])
 · have hie:i=ps.length:=by omega
   subst hie
   rw [hce,hse]
   have hwv:IntKind.i64.wrap (4*((vn / 2:Nat):Int))=2*(vn:Int):=by
    rw [wrap64 (by omega) (by omega)]
    omega
   have hwl:IntKind.i64.wrap (2*(ls.length:Int))=2*(ls.length:Int):=wrap64 (by omega) (by omega)
   have hwv':IntKind.i64.wrap (4*((vn:Int) / 2))=2*(vn:Int):=by
    rw [wrap64 (by omega) (by omega)]
    omega
   obtain⟨hsl1,hsl2⟩:=getE hsy
   simp [hpl]
   refine DC_pure h23 ?_
   simp [hsy,hsl1,hsl2]
   refine DC_pure hi1 ?_
   simp
   refine SC_pure h8 ?_
   simp
   refine SC_pure h8d ?_
   simp
   refine SC_pure h17 ?_
   simp [hwv,hwv',hlen,hwl]
   refine SC_pure h35 ?_
   simp
   refine SC_pure known9c ?_
   simp
   exact endK hK [] (by simp)
end Go.Known
